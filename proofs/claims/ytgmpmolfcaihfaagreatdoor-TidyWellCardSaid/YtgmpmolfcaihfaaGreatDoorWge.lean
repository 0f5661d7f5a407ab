/- Laws that TidyWell rests on; conditions: those that each names. -/
import Derived.Test.YtgmpmolfcaihfaaGreatDoorWgd
set_option linter.unusedSimpArgs false
set_option linter.unusedVariables false
set_option maxRecDepth 100000
set_option maxHeartbeats 20000000
open And renaming intro→cE
open Bool renaming or_false→my
open Go renaming Calls→cJ,IntKind→eC,Value→cq,World→cd,bodyPost_end→gh,bodyPost_ret→bj,maxLen→cV,results→cD,setRow_heap→fR,setRow_other→ml
open Go.Addr renaming add_lit→iS
open Go.Ending renaming returned→bk
open Go.IntKind renaming i64→ar
open Go.IntWalk renaming i64_in→cU
open Go.Obj renaming cells→aE
open Go.Obj.cells renaming injEq→mT
open Go.Proofs.Tryz renaming prog→bh,results52→pP,results59→yr,results83→yv
open Go.RowKit renaming Below→cj,intOf→cR
open Go.RowKit.Below renaming heap_setCell→ds,refl→ba
open Go.Value renaming agg→ew,bool→cG,int→ao,ownBlock→ev,pointer→cx,slice→an,slice→iN,string→al,string→fx,tuple→dr
open Go.World renaming grownBy_alloc→mS,size_alloc→cF,size_setCell→gj
open Go.World.ownsRow renaming lt→cy
open Int renaming toNat_natCast→eL
open List renaming append_assoc→ef,append_nil→eI,cons_append→cf,contains_cons→lA,contains_nil→CN,drop_append_of_le_length→eo,drop_eq_getElem_cons→cg,drop_eq_nil_of_le→ek,drop_left→gR,drop_of_length_le→fg,drop_succ_cons→ec,drop_zero→dd,eq_nil_of_length_eq_zero→cC,filter_cons_of_neg→jx,filter_cons_of_pos→e8,flatMap_append→fp,flatMap_cons→fb,flatten_cons→re,getElem?_append_left→nw,getElem?_append_right→eK,getElem?_cons_zero→fs,getElem?_eq_getElem→br,getElem?_eq_none→nB,getElem_cons_succ→lE,getElem_cons_zero→eg,getElem_mem→cH,getLast?_concat→eM,getLast?_eq_getElem?→gk,length_append→cm,length_cons→bc,length_drop→bm,length_nil→cY,length_singleton→eh,length_take→c8,map_append→eJ,map_cons→cI,map_map→ix,mem_append→cX,mem_cons_of_mem→fi,mem_cons→cL,mem_of_mem_drop→dT,mem_of_mem_take→mu,mem_singleton→de,nil_append→cM,pairwise_append→sX,singleton_append→fc,take_append_drop→el,take_left→fl,take_length→eR,take_of_length_le→eS,take_succ_eq_append_getElem→e9
open List.cons renaming injEq→fY
open Nat renaming add_zero→eA,le_refl→cA,le_trans→dy,lt_of_lt_of_le→cT,sub_self→j9,zero_add→df,zero_le→ck,zero_mul→iz
open Option renaming getD_some→jz,none→aq,some→aw
open Option.some renaming injEq→du
namespace Go.Proofs.YtgmpmolfcaihfaaGreatDoor
variable{args line:Array cq}{b:Bool}{L:Bs}{s:E7}{f:FuncId}{ls pre:List E7}{cs vals xs ys:List cq}{l row:List ae}{B base cap g g2 i k m n q sz:Nat}{P Q:Nat->Prop}{a:Option Addr}{rb:Option Nat}{E e t:TypeId}{lv v:cq}{W W' w w' w3:cd}{r:aB}{x:bX}
theorem JB:∀(k:Nat) (l:Bs) (p:Nat),l.length<=k->∀t∈(aC l p).1,∀c∈kG t,c∈l
 |_,[],p,_=>by rw[dM];intro t ht;cases ht
 |0,c::r,p,hk=>by simp at hk
 | k+1,c::r,p,hk=>by
  simp only[bc] at hk
  cases hb:aN c with
  |true=>
   rw[bV hb];intro t ht x hx;exact fi _ (JB k r (p+1) (by omega) t ht x hx)
  |false=>
   cases ho:dY (c::r) with
   |bad o e=>rw[fw hb ho];intro t ht;cases ht
   |tok kd sz=>
    have hs:=dC ho;rw[dE hb ho];intro t ht x hx;rcases cL.1 ht with rfl|ht
    .exact mu hx
    .exact dT (JB k _ _ (by rw[bm,bc];omega) t ht x hx)
theorem Oh(l:Bs)(p:Nat)(h:∀c∈l,aN c=true):(aC l p).1=[]:=by
 have:=BH l [] p h;rw[eI] at this;rw[this,dM]
theorem Fs:∀(k:Nat) (l:Bs) (p:Nat),l.length<=k->10∉l->∀(a b:List ae) (t:ae),(aC l p).1=a++t::b->t.kind=6->b=[]
 |_,[],p,_,_=>by rw[dM];intro a b t e;simp at e
 |0,c::r,p,hk,_=>by simp at hk
 | k+1,c::r,p,hk,h10=>by
  simp only[bc] at hk
  cases hb:aN c with
  |true=>
   rw[bV hb];exact Fs k r (p+1) (by omega) (fun q=>h10 (by simp[q]))
  |false=>
   cases ho:dY (c::r) with
   |bad o e=>rw[fw hb ho];intro a b t e2;simp at e2
   |tok kd sz=>
    have hs:=dC ho;rw[dE hb ho];intro a b t e h6
    cases a with
    |nil=>
     simp only[cM,fY] at e;obtain⟨rfl,rfl⟩:=e;have hkd:kd=6:=by have h6:(kd:Int)=6:=h6;omega
     subst hkd
     have f:sz=(iy (c::r)).length:=by
      rw[dY] at ho;split at ho
      .cases ho
      split at ho
      .unfold nA at ho;split at ho<;>cases ho
      split at ho
      .unfold oG at ho;split at ho<;>cases ho
      split at ho
      .cases ho
      split at ho
      .unfold gp at ho
       split at ho
       .cases ho
       .injection ho with _ hn;exact hn.symm
      split at ho
      .unfold eT at ho
       split at ho
       .cases ho
       .split at ho
        .cases ho
        .unfold gp at ho
         split at ho
         .cases ho
         .injection ho with q _;cases q
      split at ho
      .cases ho
      .cases ho
     obtain⟨ws,g,i,-⟩:=ym (c::r);rw[BC _ h10,eS lz] at g;have x:∀u v:Bs,c::r=u++v->(c::r).drop u.length=v:=fun u v e=>by rw[e,gR]
     have j:(c::r).drop sz=ws:=by rw[f];exact x _ _ g
     rw[j];exact Oh ws _ i
    |cons a0 a=>
     simp only[cf,fY] at e;exact Fs k _ _ (by rw[bm,bc];omega) (fun q=>h10 (dT q)) a b t e.2 h6
theorem Ip{a:Bs}(h:10∉a)(p:Nat):lS (aC a p).1:=
 ⟨tY _ a p lz,iM _ a p lz h,Fs _ a p lz h,fun t ht h10=>h (JB _ a p lz t ht 10 h10)⟩
theorem UU:∀l:Bs,∀a∈jX l,10∉a:=fun l=>by
 refine um (P:=fun l=>∀a∈jX l,10∉a) ?_ ?_ l
 .intro a ha b hb
  rw[oz a ha,de] at hb;subst hb;exact ha
 .intro a b ha ih x hx
  rw[o6 a b ha] at hx;rcases cL.1 hx with rfl|hx
  .exact ha
  .exact ih x hx
theorem AL:∀(ls:List Bs) (p:Nat) (o:Int),(∀a∈ls,10∉a)->∀r∈jb ls p o,lS r.toks
 |[],_,_,_=>by intro r hr;cases hr
 | [a],p,o,h=>by
  intro r hr;rw[jb] at hr;split at hr
  .cases hr
  .rw[de.1 hr]
   exact Ip (h a (by simp)) p
 | a::b::q,p,o,h=>by
  intro r hr;rw[jb] at hr;rcases cL.1 hr with rfl|hr
  .exact Ip (h a (by simp)) p
  .exact AL (b::q) _ _ (fun x hx=>h x (by simp[hx])) r hr
theorem nW{l:Bs}(h:(aC l 0).2.2=0):∀r∈aA l,lS r.toks:=by
 rw[fK h];exact AL _ _ _ (UU l)
def gW(W:Nat)(r:aB)(i:Nat):Nat:=if gK r.toks=aw i then W-fJ (bz r)+1 else nu r.toks r.ind i
def zt(x:Nat×aB):List (Nat×ae):=jP (gW x.1 x.2) 0 x.2.toks
def eY(x:Nat×aB):Bs:=fu (zt x)
def Jo:List aB->List aB->List (Nat×aB)
 |[],run=>run.map fun r=>(kU run,r)
 |r::l,run=>if (gK r.toks).isSome then Jo l (run++[r]) else run.map (fun r=>(kU run,r))++(0,r)::Jo l []
theorem zP(g:Nat->Nat):∀(i:Nat) (a b:List ae),jP g i (a++b)=jP g i a++jP g (i+a.length) b
 |i,[],b=>by simp[jP]
 | i,t::a,b=>by
  rw[cf,jP,jP,zP g (i+1) a b,cf,bc]
  congr 3
  omega
theorem mh{g g':Nat->Nat}:∀(i:Nat) (l:List ae),(∀j,i<=j->j<i+l.length->g j=g' j)->jP g i l=jP g' i l
 |_,[],_=>rfl
 | i,t::l,h=>by
  rw[jP,jP,h i lz (by simp),mh (i+1) l (fun j h1 h2=>h j (by omega) (by simp only[bc];omega))]
theorem su(g:Nat->Nat)(i:Nat)(l:List ae)(n:Nat):(jP g i l).take n=jP g i (l.take n):=by
 by_cases h:n<=l.length
 .conv=>lhs;rw[<-el n l,zP]
  rw[List.take_left' (by rw[wW,c8];omega)]
 .rw[eS (by rw[wW];omega),eS (by omega)]
theorem Qq(g:Nat->Nat)(i:Nat)(l:List ae)(n:Nat)(h:n<=l.length):(jP g i l).drop n=jP g (i+n) (l.drop n):=by
 conv=>lhs;rw[<-el n l,zP]
 rw[List.drop_left' (by rw[wW,c8];omega),c8,Nat.min_eq_left h]
theorem Oc(h:(gK r.toks).isSome=true)(W:Nat):ib W r=eY (W,r)++[10]:=by
 obtain⟨e,i⟩:=Option.isSome_iff_exists.1 h;have Ae:=(iq i).2;have Ad:r.eq=e:=by unfold aB.eq;rw[i];rfl
 unfold ib eY zt;rw[Ad]
 have Aa:r.toks=r.toks.take e++r.toks[e]::r.toks.drop (e+1):=by
  rw[<-cg Ae,el]
 have Ab:bz r=fu (jP (gW W r) 0 (r.toks.take e)):=by
  unfold bz dw;rw[Ad,wQ,dd,su]
  congr 1
  refine mh 0 _ (fun j _ hj=>?_);unfold gW;rw[i,E6];intro q;cases q
  rw[c8] at hj;omega
 have Ac:dw r.toks r.ind (e+1) r.toks.length=fu (jP (gW W r) (e+1) (r.toks.drop (e+1))):=by
  unfold dw;rw[wQ,su,eS lz,Qq _ _ _ _ (by omega),df]
  congr 1
  refine mh _ _ (fun j hj _=>?_);unfold gW;rw[i,E6];intro q;cases q
  omega
 have k:gW W r e=W-fJ (bz r)+1:=by unfold gW;rw[E4 i]
 have Af:(r.toks.take e).length=e:=by rw[c8];omega
 conv=>rhs;rw[Aa,zP,df,Af,jP,xJ,gB,<-Ab,<-Ac,k]
 simp only[br Ae,jz,ef]
theorem Qx(h:gK r.toks=aq)(W:Nat):zm r=eY (W,r)++[10]:=by
 unfold zm eY zt dw;rw[wQ,su,eS lz,dd]
 congr 2
 refine mh _ _ (fun j _ _=>?_);unfold gW;rw[h,E6 (by simp)]
def qj(x:Nat×aB):Bs:=eY x++[10]
theorem Gy(run:List aB)(h:∀r∈run,(gK r.toks).isSome=true):pI run=(run.map fun r=>(kU run,r)).flatMap qj/\(run.map fun r=>(kU run,r)).map (·.2)=run:=by
 constructor
 .unfold pI
  rw[List.flatMap_map]
  have f:∀q:List aB,(∀r∈q,(gK r.toks).isSome=true)->q.flatMap (ib (kU run))=q.flatMap fun r=>qj (kU run,r):=by
   intro q
   induction q with
   |nil=>intro _;rfl
   |cons r q ih=>
    intro a;rw[fb,fb,ih (fun x hx=>a x (by simp[hx])),Oc (a r (by simp))];rfl
  exact f run h
 .rw[ix]
  exact List.map_id run
theorem EQ:∀(l run:List aB),(∀r∈run,(gK r.toks).isSome=true)->ja l run=(Jo l run).flatMap qj/\(Jo l run).map (·.2)=run++l
 | [],run,h=>by
  rw[ja,Jo,eI];exact Gy run h
 | r::l,run,h=>by
  rw[ja,Jo]
  by_cases he:(gK r.toks).isSome=true
  .rw[E4 he,E4 he]
   have ih:=EQ l (run++[r]) (fun x hx=>by
    rcases cX.1 hx with hx|hx
    .exact h x hx
    .rw[de.1 hx];exact he)
   exact⟨ih.1,by rw[ih.2];simp⟩
  .rw[E6 he,E6 he]
   have ih:=EQ l [] (fun x hx=>by cases hx);have h0:=Gy run h;have hn:gK r.toks=aq:=by simpa using he
   rw[fp,fb,<-ih.1,<-h0.1,eJ,cI,ih.2,h0.2,Qx hn 0];exact⟨rfl,by simp⟩
def lT(l:List (List ae)):List (Nat×aB):=Jo (di l) []
theorem nR(l:List (List ae)):iC l=(lT l).flatMap qj/\(lT l).map (·.2)=di l:=by
 have:=EQ (di l) [] (fun x hx=>by cases hx);exact this
theorem QY(W:Nat)(r:aB):∀i,1<=i->i<r.toks.length->gW W r i=0->lF r.toks i=0:=by
 intro i b _ h;unfold gW at h;split at h
 .omega
 .unfold nu at h
  rwa [E6 (by omega)] at h
def R8:List (Nat×aB)->Nat->List ae
 |[],_=>[]
 |x::l,p=>gM (zt x) p++⟨5,au [10],((p+(eY x).length:Nat):Int)⟩::R8 l (p+(eY x).length+1)
theorem QA:∀(l:List (Nat×aB)) (p:Nat),(∀x∈l,xQ x.2.toks)->aC (l.flatMap qj) p=(R8 l p,-1,0)
 |[],p,_=>by rw[List.flatMap_nil,dM];rfl
 | x::l,p,h=>by
  have:=Ta (h x (by simp)) (QY x.1 x.2) (l.flatMap qj) p;rw[fb,show qj x=fu (jP (gW x.1 x.2) 0 x.2.toks)++[10] from rfl,ef,fc,this,QA l _ (fun y hy=>h y (by simp[hy]))];rfl
theorem Ob{x:Nat×aB}(h:lS x.2.toks):10∉eY x:=by
 have f:∀(g:Nat->Nat) (l:List ae) (i:Nat),(∀t∈l,10∉kG t)->10∉fu (jP g i l):=by
  intro g l
  induction l with
  |nil=>intro i _;simp[jP,fu]
  |cons t l ih=>
   intro i c;rw[jP,gB];intro a;rcases cX.1 a with a|a
   .unfold iR at a
    have:=List.eq_of_mem_replicate a;exact absurd this (by decide)
   .rcases cX.1 a with a|a
    .exact c t (by simp) a
    .exact ih (i+1) (fun u hu=>c u (by simp[hu])) a
 exact f _ _ 0 h.nl
theorem KN:∀(l:List (Nat×aB)),(∀x∈l,lS x.2.toks)->jX (l.flatMap qj)=l.map eY++[[]]
 |[],_=>rfl
 | x::l,h=>by
  rw[fb,show qj x=eY x++[10] from rfl,ef,fc,o6 _ _ (Ob (h x (by simp))),KN l (fun y hy=>h y (by simp[hy]))];rfl
theorem Og{x:Nat×aB}(h:xQ x.2.toks):zw (eY x)=m0 x.2.toks:=by
 unfold zw eY zt;have:=qQ _ [] 0 (show Vf (jP (gW x.1 x.2) 0 x.2.toks) [] from qI h (QY x.1 x.2) (.inl rfl) x.2.toks [] rfl);rw[eI] at this;rw[this,dM];simp only[eI];rw[Bd,Fg]
theorem zH:∀(l:List (List ae)) (st:List bX),dZ (l.map m0) st=dZ l st
 |[],_=>rfl
 | r::l,st=>by
  have h:=A7 st (dX r) 0 0 true true;rw[cI,dZ,dZ,show dX (m0 r)=(dX r).map n0 from Be r,<-h.2,zH l]
  by_cases h0:(bP st (dX r) 0 true).2.2=0
  .rw[E4 h0,E4 (h.1.1 h0)]
  .rw[E6 h0,E6 (fun q=>h0 (h.1.2 q))]
theorem yl:∀(l:List (List ae)) (st:List bX),dZ (l++[[]]) st=dZ l st
 |[],st=>nV [] st
 |r::l,st=>by rw[cf,dZ,dZ,yl l]
theorem iD{l:Bs}(h:(aT l).2.2=0):(aC l 0).2.2=0/\∃x,dZ ((aA l).map (·.toks)) [bR]=aw [x]/\aT l=(x.items,-1,0):=by
 rcases vO l with ⟨-,b,x,a,c⟩|⟨a,-⟩
 .refine⟨b,x,?_,c⟩
  rcases Lv b with q|q
  .rw[q,zH] at a;exact a
  .rw[q,yl,zH] at a;exact a
 .exact absurd h a
theorem N9{l:Bs}(c:(aC l 0).2.2=0)(h:dZ (jR l) [bR]=aw [x]):aT l=(x.items,-1,0):=by
 rcases vO l with ⟨-,-,y,a,b⟩|⟨-,a⟩
 .rw[h] at a
  cases a
  exact b
 .exact absurd h (a c x)
theorem vB{l:Bs}(h:(aT l).2.2=0) :
  (∀x∈lT ((aA l).map (·.toks)),lS x.2.toks/\xQ x.2.toks)/\aC (iC ((aA l).map (·.toks))) 0=(R8 (lT ((aA l).map (·.toks))) 0,-1,0)/\
  ((di ((aA l).map (·.toks))).map (·.toks)).flatten=((aA l).map (·.toks)).flatten/\aT (iC ((aA l).map (·.toks)))=aT l:=by
 obtain⟨j,x,c,k⟩:=iD h
 have u:∀r∈(aA l).map (·.toks),lS r:=fun r hr=>by
  obtain⟨d,v,rfl⟩:=List.mem_map.1 hr;exact nW j d v
 obtain⟨z,t2,E⟩:=Ai (st:=[bR]) (by simp) (by rw[c];rfl) u;generalize (aA l).map (·.toks)=L at *;obtain⟨f,s2⟩:=nR L;have b:∀x∈lT L,lS x.2.toks/\xQ x.2.toks:=fun x b=>z x.2 (by rw[<-s2];exact List.mem_map_of_mem b)
 have Aa:aC (iC L) 0=(R8 (lT L) 0,-1,0):=by
  rw[f];exact QA _ 0 (fun x q=>(b x q).2)
 refine⟨b,Aa,t2,?_⟩;rw[k];refine N9 (by rw[Aa]) ?_
 have o:jR (iC L)=((di L).map (·.toks)).map m0++[[]]:=by
  unfold jR;rw[f,KN _ (fun x q=>(b x q).1),eJ,ix,<-s2,ix,ix]
  congr 1
  refine List.map_congr_left (fun y hy=>?_);exact Og (b y hy).2
 rw[o,yl,zH,E,c]
def pJ(r:aK)(i:Nat):Int:=match i with
 |0=>r.lo
 |i+1=>(r.toks[i]?.map (fun t=>t.pos+(t.text.size:Int))).getD 0
def jh(r:aK)(i:Nat):Int:=(r.toks[i]?.map (·.pos)).getD r.hi
def kQ(l:Bs)(a b:Int):Bs:=(l.take b.toNat).drop a.toNat
def lQ(l:Bs)(r:aK)(i:Nat):Bs:=kQ l (pJ r i) (jh r i)
def TR(l:Bs)(r:aK):Prop:=∀i,i<=r.toks.length->0<=pJ r i/\pJ r i<=jh r i/\jh r i<=(l.length:Int)/\∀c∈lQ l r i,c.toNat<128
def qA(b:Bs)(n:Int):Bool:=decide ((b.length:Int)=n)&&decide ((b.count 32:Int)=n)
def qW(l:Bs):Bool:=match l.getLast? with|some c=>decide (c=10)|none=>true
def FY(b:Bs):Bool:=b.any fun c=>decide (c=9) || decide (c=13)
def sM(l:Bs)(r:aK):Nat->Nat->Bool
 |0,_=>true
 |n+1,i=>!FY (lQ l r i)&&sM l r n (i+1)
def yK(l:Bs)(r:aK):Bool:=sM l r r.toks.length 0&&(lQ l r r.toks.length).isEmpty
def pE(l:Bs):List aK->Bool
 |[]=>true
 |r::R=>yK l r&&pE l R
def sI(p q:Option aK):Bool:=match p,q with
 |some p,aw q=>!p.toks.isEmpty&&(!jy p.toks&&!lW q.toks)
 |_,_=>false
def iw:Option aK->List aK->Bool
 |_,[]=>true
 |p,r::R=>(!r.toks.isEmpty || sI p R.head?)&&iw (aw r) R
def jd(l:Bs)(r:aK):Bool:=r.toks.isEmpty || qA (lQ l r 0) (2*r.dep)
def jB(l:Bs):List aK->Bool
 |[]=>true
 |r::R=>jd l r&&jB l R
def KI(r:aK):Int:=match gK r.toks with
 |some i=>(i:Int)
 |none=>-1
def iZ(l:Bs)(r:aK):Nat->Nat->Bool
 |0,_=>true
 |n+1,i=>(decide ((i:Int)=KI r) || qA (lQ l r i) (lF r.toks i))&&iZ l r n (i+1)
def l9(l:Bs):List aK->Bool
 |[]=>true
 |r::R=>iZ l r (r.toks.length-1) 1&&l9 l R
def rD(l:Bs)(r:aK)(i:Nat):Bool:=!(lQ l r i).isEmpty&&qA (lQ l r i) (lQ l r i).length
def uH(l:Bs)(r:aK)(i:Nat):Int:=(fJ (kQ l r.lo (jh r i)):Int)
def eU(l:Bs):List aK->Int->Bool->Bool
 |[],_,near=>near
 | r::R,col,near=>match gK r.toks with
  |none=>near&&eU l R (-1) true
  | some i=>rD l r i&&(decide (uH l r i=if col<0 then uH l r i else col)&&
    eU l R (if col<0 then uH l r i else col) ((if col<0 then false else near) || decide ((lQ l r i).length=1)))
def lV:List aK->Option aK
 |[]=>aq
 |r::R=>if r.toks.isEmpty then lV R else aw r
def nD(r:aK):Bool:=match r.toks.getLast? with|some t=>dD t|none=>false
def nE(r:aK):Bool:=match r.toks.head? with|some t=>dD t|none=>false
def xx(r:aK)(q:Option aK):Bool:=!jy r.toks || (nD r || match q with
 |none=>true
 |some q=>!lW q.toks || nE q)
def jm:List aK->Bool
 |[]=>true
 |r::R=>xx r (lV R)&&jm R
def AA(l:Bs)(R:List aK):List Bool:=[qW l,pE l R,iw aq R,jB l R,l9 l R,eU l R (-1) true,jm R]
def fM:List Bool->Int->List Int
 |[],_=>[]
 |b::r,i=>if b then fM r (i+1) else i::fM r (i+1)
def nG(l:Bs):List Int:=if (aT l).2.2=0 then fM (AA l (aA l)) 1 else [-1]
def FT(l:Bs):Int:=(nG l).head?.getD 0
def RP(b:Bs):Prop:=∀c∈b,aN c=true
def eX(l:Bs)(hi:Int):Int->List ae->List Bs
 |fr,[]=>[kQ l fr hi]
 |fr,t::r=>kQ l fr t.pos::eX l hi (t.pos+(t.text.size:Int)) r
def CE(l:Bs)(hi:Int):Int->List ae->Prop
 |fr,[]=>0<=fr/\fr<=hi/\hi<=l.length/\RP (kQ l fr hi)
 |fr,t::r=>0<=fr/\fr<=t.pos/\t.pos<=l.length/\RP (kQ l fr t.pos)/\CE l hi (t.pos+(t.text.size:Int)) r
def uD:List Bs->List ae->Bs
 |s::ss,t::r=>s++(kG t++uD ss r)
 |s::_,[]=>s
 |[],_=>[]
theorem Dv(l:Bs)(hi:Int):∀(r:List ae) (fr:Int),(eX l hi fr r).length=r.length+1
 |[],_=>rfl
 |t::r,fr=>by rw[eX,bc,Dv l hi r,bc]
theorem kX(l:Bs)(r:aK):∀i,i<=r.toks.length->(eX l r.hi r.lo r.toks)[i]?=aw (lQ l r i):=by
 have A:∀(q:List ae) (fr:Int) (pre:List ae),r.toks=pre++q->(pre=[]->fr=r.lo)->(∀t,pre.getLast?=aw t->fr=t.pos+(t.text.size:Int))->
   ∀i,i<=q.length->(eX l r.hi fr q)[i]?=aw (lQ l r (pre.length+i)):=by
  intro q
  induction q with
  |nil=>
   intro fr pre e j v i hi;obtain rfl:i=0:=by simpa using hi
   rw[eX,eA];simp only[fs,du];have Ab:jh r pre.length=r.hi:=by unfold jh;rw[e,eI,nB lz];rfl
   unfold lQ;rw[Ab]
   congr 1
   cases hp:pre.length with
   |zero=>exact j (cC hp)
   |succ m=>
    have x:pre.getLast?=aw (pre[m]'(by omega)):=by rw[gk,show pre.length-1=m by omega];exact br _
    rw[v _ x];unfold pJ;simp only;rw[e,eI,br (show m<pre.length by omega)];rfl
  |cons t q ih=>
   intro fr pre e j v i hi
   have Aa:pJ r pre.length=fr:=by
    cases hp:pre.length with
    |zero=>exact (j (cC hp)).symm
    |succ m=>
     have x:pre.getLast?=aw (pre[m]'(by omega)):=by rw[gk,show pre.length-1=m by omega];exact br _
     rw[v _ x];unfold pJ;simp only;rw[e,nw (show m<pre.length by omega),br (show m<pre.length by omega)];rfl
   cases i with
   |zero=>
    rw[eX,eA];simp only[fs,du];unfold lQ;rw[Aa]
    congr 1
    unfold jh;rw[e,eK lz,j9];rfl
   |succ i=>
    rw[eX,List.getElem?_cons_succ,ih _ (pre++[t]) (by rw[e];simp) (fun h=>by simp at h) (fun u hu=>by rw[eM] at hu;cases hu;rfl) i (by simpa using hi)];rw[cm,eh,show pre.length+1+i=pre.length+(i+1) by omega]
 intro i hi;have:=A r.toks r.lo [] rfl (fun _=>rfl) (fun t h=>by cases h) i hi
 rwa [cY,df] at this
theorem uq(l:Bs)(a b:Nat):kQ l a b=(l.take b).drop a:=rfl
theorem zD{pre a post:Bs}(h:k<=a.length):(pre++(a++post)).take (pre.length+k)=pre++a.take k:=by
 rw[List.take_append,eS (by omega),Nat.add_sub_cancel_left,List.take_append_of_le_length h]
theorem xg:∀(k:Nat) (a pre post:Bs) (fr:Nat),a.length<=k->fr<=pre.length->(aC a pre.length).2.2=0->RP (pre.drop fr)->
  CE (pre++(a++post)) ((pre.length+a.length:Nat):Int) fr (aC a pre.length).1/\uD (eX (pre++(a++post)) ((pre.length+a.length:Nat):Int) fr (aC a pre.length).1) (aC a pre.length).1=pre.drop fr++a
 | k,[],pre,post,fr,_,hf,_,hb=>by
  rw[dM]
  have e:kQ (pre++([]++post)) (fr:Nat) ((pre.length+0:Nat):Int)=pre.drop fr:=by
   rw[uq,zD (ck _)];simp
  refine⟨⟨by omega,by simp;omega,by simp only[cm,cY];omega,?_⟩,?_⟩
  .rw[cY,e];exact hb
  .show kQ _ _ _=_
   rw[cY,e,eI]
 |0,c::r,pre,post,fr,hk,_,_,_=>by simp at hk
 | k+1,c::r,pre,post,fr,hk,hf,h0,hb=>by
  simp only[bc] at hk
  cases hc:aN c with
  |true=>
   rw[bV hc] at h0 ⊢
   have j:=xg k r (pre++[c]) post fr (by omega) (by simp;omega) (by rw[cm,eh];exact h0) (by
    rw[eo hf];intro x i;rcases cX.1 i with i|i
    .exact hb x i
    .rw[de.1 i];exact hc)
   have e1:pre++[c]++(r++post)=pre++(c::r++post):=by simp
   have A:(pre++[c]).length=pre.length+1:=by simp
   have F:pre.length+1+r.length=pre.length+(c::r).length:=by simp;omega
   rw[e1,A,F,eo hf] at j;refine⟨j.1,?_⟩;rw[j.2];simp
  |false=>
   cases ho:dY (c::r) with
   |bad o e=>rw[fw hc ho] at h0;exact absurd h0 (nZ ho)
   |tok kd sz=>
    have K:=dC ho;rw[bc] at K;rw[dE hc ho] at h0 ⊢;obtain⟨u,v,Aa,B⟩:∃u v,c::r=u++v/\u.length=sz:=⟨(c::r).take sz,(c::r).drop sz,(el _ _).symm,by rw[c8,bc];omega⟩;have J:(c::r).take sz=u:=by rw[Aa,<-B,fl]
    have I:(c::r).drop sz=v:=by rw[Aa,<-B,gR]
    simp only[J,I] at h0 ⊢
    have Ab:u.length+v.length=r.length+1:=by
     have:=congrArg List.length Aa;rw[cm,bc] at this;omega
    have j:=xg k v (pre++u) post (pre.length+sz) (by omega) (by rw[cm];omega) (by rw[cm,B];exact h0) (by
     rw[fg (by rw[cm];omega)]
     intro x i;cases i)
    have e1:pre++u++(v++post)=pre++(c::r++post):=by rw[Aa];simp
    have A:(pre++u).length=pre.length+sz:=by rw[cm,B]
    have F:pre.length+sz+v.length=pre.length+(c::r).length:=by rw[bc];omega
    rw[e1,A,F,fg (by rw[A];exact cA _),cM] at j
    have G:kQ (pre++(c::r++post)) (fr:Nat) ((pre.length:Nat):Int)=pre.drop fr:=by
     rw[uq,fl]
    have H:((pre.length:Nat):Int)+((au u).size:Int)=((pre.length+sz:Nat):Int):=by
     have:(au u).size=u.length:=by show u.toArray.size=_;simp
     omega
    constructor
    .refine⟨by omega,by simp only;omega,by simp only[cm];omega,by rw[G];exact hb,?_⟩
     simp only;rw[H];exact j.1
    .rw[eX,uD]
     simp only;rw[G,H,j.2];show _++((au u).data.toList++_)=_;rw[aV,Aa]
theorem Px{l:Bs}{r:aK}(h:CE l r.hi r.lo r.toks):TR l r:=by
 have A:∀(q:List ae) (fr:Int),CE l r.hi fr q->∀s∈eX l r.hi fr q,RP s:=by
  intro q
  induction q with
  |nil=>intro fr h s b;rw[eX,de] at b;subst b;exact h.2.2.2
  |cons t q ih=>
   intro fr h s b;rw[eX] at b;rcases cL.1 b with rfl|b
   .exact h.2.2.2.1
   .exact ih _ h.2.2.2.2 s b
 have B:∀(q:List ae) (pre:List ae) (fr:Int),r.toks=pre++q->pJ r pre.length=fr->CE l r.hi fr q->∀i,i<=q.length->0<=pJ r (pre.length+i)/\pJ r (pre.length+i)<=jh r (pre.length+i)/\jh r (pre.length+i)<=l.length:=by
  intro q
  induction q with
  |nil=>
   intro pre fr e v h i hi;obtain rfl:i=0:=by simpa using hi
   have Aa:jh r pre.length=r.hi:=by unfold jh;rw[e,eI,nB lz];rfl
   rw[eA,v,Aa];exact⟨h.1,h.2.1,h.2.2.1⟩
  |cons t q ih=>
   intro pre fr e v h i hi;have Aa:jh r pre.length=t.pos:=by unfold jh;rw[e,eK lz,j9];rfl
   cases i with
   |zero=>
    rw[eA,v,Aa];exact⟨h.1,h.2.1,h.2.2.1⟩
   |succ i=>
    have:=ih (pre++[t]) (t.pos+(t.text.size:Int)) (by rw[e];simp) (by
     rw[cm,eh];unfold pJ;simp only;rw[e,eK lz,j9]
     rfl) h.2.2.2.2 i (by simpa using hi)
    rw[cm,eh] at this
    rwa [show pre.length+(i+1)=pre.length+1+i by omega]
 intro i hi;have j:=B r.toks [] r.lo rfl rfl h i hi;rw[cY,df] at j;refine⟨j.1,j.2.1,j.2.2,fun c hc=>?_⟩;have u:=A r.toks r.lo h (lQ l r i) (List.mem_of_getElem? (kX l r i hi)) c hc;unfold aN gm at u;simp only[lA,CN,my,Bool.or_eq_true,beq_iff_eq] at u;rcases u with rfl|rfl|rfl<;>decide
open Go.RowKit Go.Tab
section
variable (E:iA->List cq->Prop) (S:cq->List E7->Prop) (B:Nat->Prop)
mutual
def oJ(w:cd):bX->List cq->Prop
 | .mk b n v ls its,cs=>∃vo vt vk lv a cap,cs=[cG b,al n,al vo,al vt,vk,lv,an a its.length cap]/\E v [al vo,al vt,vk]/\S lv ls/\
   its.length<=cap/\cap<=cV/\(a=aq->cap=0)/\∀x,a=aw x->its≠[]->x.spot=aq/\B x.block/\kP w x.block x.off its
def kP(w:cd)(b off:Nat):List bX->Prop
 |[]=>True
 |t::r=>(∃cs,(∀j u,cs[j]?=aw u->w.cell? ⟨b,off+j,aq⟩=aw u)/\oJ w t cs)/\kP w b (off+7) r
end
end
section
variable {E E':iA->List cq->Prop} {S S':cq->List E7->Prop} {B B':Nat->Prop} {w w':cd}
mutual
theorem oJ.map(hE:∀e cs,E e cs->E' e cs)(hS:∀v l,S v l->S' v l)(hB:∀b,B b->B' b)(hc:∀b,B b->∀off u,w.cell? ⟨b,off,aq⟩=aw u->w'.cell? ⟨b,off,aq⟩=aw u) :
  ∀(t:bX) (cs:List cq),oJ E S B w t cs->oJ E' S' B' w' t cs
 | .mk b n v ls its,cs,h=>by
  simp only[oJ] at h ⊢;obtain⟨vo,vt,vk,lv,a,cap,h1,h2,h3,h4,h5,h6,h7⟩:=h;refine⟨vo,vt,vk,lv,a,cap,h1,hE _ _ h2,hS _ _ h3,h4,h5,h6,fun x hx hne=>?_⟩;obtain⟨g1,g2,g3⟩:=h7 x hx hne;exact⟨g1,hB _ g2,kP.map hE hS hB hc g2 its x.off g3⟩
theorem kP.map(hE:∀e cs,E e cs->E' e cs)(hS:∀v l,S v l->S' v l)(hB:∀b,B b->B' b)(hc:∀b,B b->∀off u,w.cell? ⟨b,off,aq⟩=aw u->w'.cell? ⟨b,off,aq⟩=aw u){b:Nat}(hb:B b) :
  ∀(l:List bX) (off:Nat),kP E S B w b off l->kP E' S' B' w' b off l
 |[],_,_=>by simp only[kP]
 | t::r,off,h=>by
  simp only[kP] at h ⊢;obtain⟨⟨cs,h1,h2⟩,h3⟩:=h;exact⟨⟨cs,fun j u hu=>hc b hb _ _ (h1 j u hu),oJ.map hE hS hB hc t cs h2⟩,kP.map hE hS hB hc hb r _ h3⟩
end
theorem oJ.open{b:Bool}{ls:List ByteArray}{cs:List Value}{n:E7}{v:iA}{its:List bX}(h:oJ E S B w (.mk b n v ls its) cs) :
  ∃vo vt vk lv a cap,cs=[cG b,al n,al vo,al vt,vk,lv,an a its.length cap]/\E v [al vo,al vt,vk]/\S lv ls/\
   its.length<=cap/\cap<=cV/\(a=aq->cap=0)/\∀x,a=aw x->its≠[]->x.spot=aq/\B x.block/\kP E S B w x.block x.off its:=by
 simp only[oJ] at h;exact h
theorem oJ.len7{cs:List Value}{t:bX}(h:oJ E S B w t cs):cs.length=7:=by
 cases t
 obtain⟨_,_,_,_,_,_,rfl,-⟩:=h.open;rfl
theorem kP.make{b:Nat}:∀(l:List bX) (off:Nat),(∀k (h:k<l.length),∃cs,(∀(j:Nat) (u:cq),cs[j]?=aw u->w.cell? ⟨b,off+k*7+j,aq⟩=aw u)/\oJ E S B w l[k] cs)->kP E S B w b off l
 |[],_,_=>by simp only[kP]
 | t::r,off,h=>by
  simp only[kP];constructor
  .obtain⟨cs,h1,h2⟩:=h 0 (by simp)
   exact⟨cs,fun j u hu=>by have:=h1 j u hu;simpa using this,by simpa using h2⟩
  .refine kP.make r (off+7) (fun k hk=>?_)
   obtain⟨cs,h1,h2⟩:=h (k+1) (by simp;omega);refine⟨cs,fun j u hu=>?_,by simpa using h2⟩;rw[<-h1 j u hu]
   congr 2
   omega
end
def MK(w:cd):bX->List cq->Prop:=oJ (zi w) (RowOf fx w) (fun b=>b<w.heap.size) w
def oC(P:Nat->Prop)(w:cd)(v:cq)(l:List E7):Prop:=RowOf fx w v l/\∀k,v.ownBlock=aw k->P k/\k<w.heap.size
def aX(P:Nat->Prop)(w:cd):bX->List cq->Prop:=oJ (af P w) (oC P w) (fun b=>b<w.heap.size/\P b) w
theorem aX.at(t:bX)(cs:List cq)(h:aX P w t cs):MK w t cs:=
 oJ.map (fun e cs h=>af.at e cs h) (fun _ _ h=>h.1) (fun _ h=>h.1) (fun _ _ _ _ h=>h) t cs h
theorem oC.move(hs:w.heap.size<=w'.heap.size)(hb:∀k,P k->k<w.heap.size->w'.heap[k]?=w.heap[k]?)(hq:∀k,P k->k<w.heap.size->Q k){l:List E7}(h:oC P w v l):oC Q w' v l:=
 ⟨h.1.moved hs (fun b off hlt hv=>jC (hb b (h.2 b hv).1 hlt) off),fun k hk=>⟨hq k (h.2 k hk).1 (h.2 k hk).2,cT (h.2 k hk).2 hs⟩⟩
theorem aX.move(hs:w.heap.size<=w'.heap.size)(hb:∀k,P k->k<w.heap.size->w'.heap[k]?=w.heap[k]?)(hq:∀k,P k->k<w.heap.size->Q k)(t:bX)(cs:List cq)(h:aX P w t cs):aX Q w' t cs:=
 oJ.map (fun e cs h=>af.move hs hb hq e cs h) (fun _ _ h=>h.move hs hb hq) (fun b h=>⟨cT h.1 hs,hq b h.2 h.1⟩) (fun b h off u hu=>(jC (hb b h.2 h.1) off).trans hu) t cs h
theorem aX.below(hb:cj w.heap.size w w')(t:bX)(cs:List cq)(h:aX P w t cs):aX P w' t cs:=
 aX.move hb.size (fun k _ hk=>hb.block k hk) (fun _ h _=>h) t cs h
theorem aX.leaf{n:E7}{v:iA}{vo vt:E7}{vk:cq}(c:af P w v [al vo,al vt,vk])(a:oC P w lv ls) :
  aX P w (.mk b n v ls []) [cG b,al n,al vo,al vt,vk,lv,an aq 0 0]:=by
 unfold aX;simp only[oJ];exact⟨vo,vt,vk,lv,aq,0,rfl,c,a,cA _,ck _,fun _=>rfl,fun x hx=>by cases hx⟩
theorem oC.nil:oC P w (an aq 0 0) []:=⟨RowOf.nil,fun k hk=>by cases hk⟩
def oD(w:cd)(v:cq)(l:List bX):Prop:=∃a cap,v=an a l.length cap/\l.length<=cap/\cap<=cV/\(a=aq->cap=0)/\
 ∀x,a=aw x->l≠[]->x.spot=aq/\x.block<w.heap.size/\kP (zi w) (RowOf fx w) (fun b=>b<w.heap.size) w x.block x.off l
theorem oD.len{l:List bX}(h:oD w v l):∃a cap,v=an a l.length cap/\l.length<=cap/\cap<=cV/\(a=aq->cap=0):=by
 obtain⟨a,cap,b,c,f,g,-⟩:=h;exact⟨a,cap,b,c,f,g⟩
def OX(base:Nat)(w:cd)(v:cq)(css:List (List cq)):Prop:=w.ownsRow base 48 7 v css.length css.flatten/\∀cs∈css,cs.length=7
theorem OX.lt{css:List (List cq)}(h:OX base w v css):∀k,v.ownBlock=aw k->base<=k/\k<w.heap.size:=cy h.1
theorem Ub:∀(css:List (List cq)) (h:∀cs∈css,cs.length=7) (k:Nat) (hk:k<css.length) (j:Nat) (hj:j<7),css.flatten[k*7+j]?=(css[k])[j]?
 | c::r,h,0,_,j,hj=>by
  have hc:=h c (by simp);simp only[re,iz,df,eg];rw[nw (by omega)]
 | c::r,h,k+1,hk,j,hj=>by
  have hc:=h c (by simp);have ih:=Ub r (fun cs hcs=>h cs (by simp[hcs])) k (by simpa using hk) j hj;simp only[re,lE];rw[eK (by omega),<-ih]
  congr 1
  omega
theorem OX.cellAt{css:List (List cq)}(h:OX base w (an a n cap) css)(H:k<css.length) :
  ∃g,a=aw ⟨g,0,aq⟩/\base<=g/\g<w.heap.size/\(∀(j:Nat) (u:cq),css[k][j]?=aw u->w.cell? ⟨g,k*7+j,aq⟩=aw u)/\∀off,w.frozen? ⟨g,off,aq⟩=false:=by
 have Aa:=h.lt;obtain⟨⟨E,z⟩,o⟩:=h;rcases z with ⟨v,A⟩|⟨g,i,c,v,C,x,A,F,G,B⟩
 .omega
 .cases v
  refine⟨g,rfl,C,(Aa g rfl).2,fun j u hu=>?_,fun off=>?_⟩
  .have D:j<7:=by have:=(List.getElem?_eq_some_iff.1 hu).1;rw[o _ (cH _)] at this;exact this
   rw[cell_of_row w g _ c 48 (0,0) x];have q:=Ub css o k H j D;rw[<-B,List.getElem?_take,E4 (by omega),hu] at q
   simpa using q
  .simp[cd.frozen?,x]
theorem Tryz.infoItm:(Tryz.prog.info? 48).map (fun i=>(i.zero,i.size,i.bytes))=aw (aw (ew #[cG false,al ⟨#[]⟩,al ⟨#[]⟩,al ⟨#[]⟩,an aq 0 0,an aq 0 0,an aq 0 0]),7,128):=by kernel_rfl
abbrev jH(v:cq)(stop:Int)(last:Bool):cq:=ew #[v,ao ar stop,cG last]
abbrev eG(v:cq)(stop:Int)(last:Bool):Array cq:=#[v,ao ar stop,cG last]
abbrev jL(w:cd)(g:Nat)(v:cq)(a e:Int):Prop:=aa w g #[v,ao ar a,ao ar e] 60
def Ki:pO->Int×Int
 |.wrong a e=>(a,e)
 |_=>(0,0)
def BA:pO->Int
 |.wrong _ _=>0
 |.empty=>1
 |.attr _=>2
 |.begins _=>3
 |.bare _=>4
 |.fin=>5
def DR:pO->bX
 |.attr x=>x
 |.begins x=>x
 |.bare x=>x
 |_=>bR
def nT(t:ae)(s:E7):Bool:=decide (t.kind=4)&&decide (t.text=s)
theorem sG(t:ae)(r:List ae)(s:E7):cu (t::r) s=nT t s:=rfl
theorem wD(a b:E7):(a.toList==b.toList)=decide (a=b):=by
 by_cases h:a=b
 .subst h;simp
 .rw[decide_eq_false h];exact Am h
theorem rP(t:ae)(s:E7)(w:cd):cJ bh 81 #[fo t,al s] w fun e w'=>e=bk (cG (nT t s))/\cj w.heap.size w w':=by
 obtain⟨k,b,p⟩:=t;have Aa:cj w.heap.size w (w.alloc (aE #[ao ar k,al b,ao ar p] 62)):=(ba _ w).alloc lz _
 have j:(k==4)=decide (k=4):=by
  by_cases h:k=4
  .subst h;simp
  .rw[decide_eq_false h];simpa using h
 have q:=wD b s;unfold nT;simp only[fo];generalize decide (k=4)=f at *;generalize decide (b=s)=i at *;go_in;cases f<;>cases i
 all_goals
  go_wp2;go_ret;exact⟨rfl,Aa⟩
theorem uz(g:Nat)(v:cq)(k o a e:Int)(w:cd)(h:jL w g v k o):cJ bh 25 #[cx (aw ⟨g,0,aq⟩),ao ar a,ao ar e] w fun r w'=>r=bk (dr #[])/\jL w' g v a e/\w'=(w.setCell ⟨g,1,aq⟩ (ao ar a)).setCell ⟨g,2,aq⟩ (ao ar e):=by
 have j:=h.lt;have i:=Hh h;obtain⟨Aa,Ad,Ab,Ae,Ac,Af⟩:=h.n3 rfl;clear h;go_in;go_wp2;refine gh (v:=dr #[]) (by simp[cD,Tryz.results25,go_sem]) rfl ?_;exact⟨rfl,by simpa using (i.out.setI 1 (ao ar a)).setI 2 (ao ar e),rfl⟩
def Ui(g:Nat)(v:cq)(r:pO)(w:cd)(e:Ending)(w':cd):Prop:=e=bk (dr #[])/\aF g w w'/\jL w' g v (Ki r).1 (Ki r).2
theorem kJ(g:Nat)(v:cq)(row:List ae)(lv:cq)(stop:Int)(last:Bool)(i:Nat)(w:cd)(h:jL w g v 0 0)(u:aP w lv row)(K:row.length<=1000000) :
  cJ bh 82 #[cx (aw ⟨g,0,aq⟩),jH lv stop last,ao ar (i:Nat)] w (Ui g v (fF row stop last i) w):=by
 obtain⟨x,A,rfl,Ae,Ad,-⟩:=u.len;unfold cV at Ad;have Aa:cj w.heap.size w (w.alloc (aE (eG (an x row.length A) stop last) 65)):=(ba _ w).alloc lz _;have D:=h.below Aa h.lt;have Ab:=u.below Aa lz;have q:=fun a e=>uz g v 0 0 a e _ D;have Ac:aF g w (w.alloc (aE (eG (an x row.length A) stop last) 65)):=aF.of Aa;have k:=Hh Ac;clear Aa Ac h u;unfold fF Ui;simp only[jH]
 by_cases hi:i<row.length
 .obtain⟨b,Ag,rfl,Af,E,c1,I⟩:=Ab.get hi
  rw[br hi];simp only[Ki];generalize row[i]=t at *;clear Ab;go_in;go_wp2_with fail;refine (q _ _).mono ?_;rintro _ C ⟨rfl,j,rfl⟩;go_wp2;refine gh (v:=dr #[]) (by simp[cD,Tryz.results82,go_sem]) rfl ?_;exact⟨rfl,(k.out.set _ _).set _ _,j⟩
 .rw[nB (by omega)]
  simp only;clear Ab
  cases last with
  |true=>
   simp only[if_true,Ki];go_in;go_wp2_with fail;refine (q _ _).mono ?_;rintro _ C ⟨rfl,j,rfl⟩;go_wp2;refine gh (v:=dr #[]) (by simp[cD,Tryz.results82,go_sem]) rfl ?_;exact⟨rfl,(k.out.set _ _).set _ _,j⟩
  |false=>
   simp only[Bool.false_eq_true,if_false,Ki];go_in;go_wp2_with fail;refine (q _ _).mono ?_;rintro _ C ⟨rfl,j,rfl⟩;go_wp2;refine gh (v:=dr #[]) (by simp[cD,Tryz.results82,go_sem]) rfl ?_;exact⟨rfl,(k.out.set _ _).set _ _,j⟩
abbrev kV(t:ae):Obj:=aE #[ao ar t.kind,al t.text,ao ar t.pos] 62
theorem dN(a b:Int):(a==b)=decide (a=b):=rfl
theorem mi(t:ae)(w:cd):cJ bh 91 #[fo t] w fun e w'=>e=bk (cG (dD t))/\w'=w.alloc (kV t):=by
 obtain⟨k,j,p⟩:=t;have f:=dN k 6;have h:=dN k 7;unfold dD;simp only[fo];generalize decide (k=6)=a at *;generalize decide (k=7)=b at *;go_in;cases a<;>cases b
 all_goals
  go_wp2;go_ret;exact⟨rfl,rfl⟩
theorem xY(t:ae)(w:cd):cJ bh 56 #[fo t] w fun e w'=>e=bk (cG (dD t))/\w'=w.alloc (kV t):=by
 obtain⟨k,i,p⟩:=t;have f:=dN k 6;have h:=dN k 7;unfold dD;simp only[fo];generalize decide (k=6)=a at *;generalize decide (k=7)=b at *;go_in;cases a<;>cases b
 all_goals
  go_wp2;go_ret;exact⟨rfl,rfl⟩
theorem tN(t:ae)(w:cd):cJ bh 68 #[fo t] w fun e w'=>e=bk (cG (dD t))/\w'=w.alloc (kV t):=by
 obtain⟨k,i,p⟩:=t;have f:=dN k 6;have h:=dN k 7;unfold dD;simp only[fo];generalize decide (k=6)=a at *;generalize decide (k=7)=b at *;go_in;cases a<;>cases b
 all_goals
  go_wp2;go_ret;exact⟨rfl,rfl⟩
theorem p8(t:ae)(s:E7)(w:cd):cJ bh 32 #[fo t,al s] w fun e w'=>e=bk (cG (bZ t s))/\w'=w.alloc (kV t):=by
 obtain⟨k,a,p⟩:=t;have h:=dN k 4;have i:=wD a s;unfold bZ;simp only[fo];generalize decide (k=4)=b at *;generalize decide (a=s)=f at *;go_in;cases b<;>cases f
 all_goals
  go_wp2;go_ret;exact⟨rfl,rfl⟩
theorem dL(t:ae)(s:E7)(w:cd):cJ bh 40 #[fo t,al s] w fun e w'=>e=bk (cG (bZ t s))/\w'=w.alloc (kV t):=by
 obtain⟨k,a,p⟩:=t;have h:=dN k 4;have i:=wD a s;unfold bZ;simp only[fo];generalize decide (k=4)=b at *;generalize decide (a=s)=f at *;go_in;cases b<;>cases f
 all_goals
  go_wp2;go_ret;exact⟨rfl,rfl⟩
theorem Js(t:ae)(w:cd):cJ bh 93 #[fo t] w fun e w'=>e=bk (cG (gV t))/\w'=w.alloc (kV t):=by
 obtain⟨k,j,p⟩:=t;have e1:=dN k 1;have h:=dN k 2;have i:=dN k 3;unfold gV;simp only[fo];generalize decide (k=1)=a at *;generalize decide (k=2)=b at *;generalize decide (k=3)=f at *;go_in;cases a<;>cases b<;>cases f
 all_goals
  go_wp2;go_ret;exact⟨rfl,rfl⟩
theorem RB{t:ae}(h:t.kind≠4\/t.text.size≠1):aO t L=false:=by
 unfold aO
 by_cases b:t.kind=4
 .rcases h with h|h
  .exact absurd b h
  .have:t.text.data.toList.length≠1:=h
   split
   .next c f=>rw[f] at this;exact absurd rfl this
   .rw[Bool.and_false]
 .rw[decide_eq_false b];rfl
theorem TI{k:Int}{c:UInt8}{p:Int}(L:Bs)(a:k=4):aO ⟨k,⟨#[c]⟩,p⟩ L=L.contains c:=by
 unfold aO;rw[decide_eq_true a];rfl
theorem Uz(h:s.size=1):∃c,s=⟨#[c]⟩:=by
 obtain⟨⟨l⟩⟩:=s
 match l,h with
 |[c],_=>exact⟨c,rfl⟩
theorem Pn{c:UInt8}(a:k<L.length):(L.take (k+1)).contains c=((L.take k).contains c || (c==L[k])):=by
 rw[e9 a,List.contains_append,lA,CN,my]
theorem fO(t:ae)(all:E7)(w:cd)(U:all.size<=1000):cJ bh 92 #[fo t,al all] w fun e w'=>e=bk (cG (aO t all.data.toList))/\cj w.heap.size w w':=by
 by_cases H:t.kind=4/\t.text.size=1
 .obtain⟨k,R,p⟩:=t
  simp only at H;obtain⟨G,v⟩:=H;obtain⟨c,rfl⟩:=Uz v;rw[TI _ G];subst G;clear v;simp only[fo];have Ae:all.data.toList.length=all.size:=aM all;have Ab:(⟨#[c]⟩:E7).size=1:=rfl;have Ac:((⟨#[c]⟩:E7)[0]'(by rw[Ab];decide)).toNat=c.toNat:=rfl;go_in;go_wp2;go_loopw [17] (fun i wr=>∃k:Nat,k<=all.size/\i=ao ar (k:Int)/\Hid ((all.data.toList.take k).contains c=false)/\∃n:Nat,wr=(w.alloc (aE #[ao ar 4,al ⟨#[c]⟩,ao ar p] 62)).drewN n) (fun i _=>all.size-(cR i).toNat)
  .exact⟨0,ck _,rfl,Hh rfl,0,rfl⟩
  obtain⟨k,G,rfl,J,n,rfl⟩:=hrel;have Aa:∀m,cj w.heap.size w (((w.alloc (aE #[ao ar 4,al ⟨#[c]⟩,ao ar p] 62)).drewN n).drewN m):=fun m=>ag (ag ((ba _ w).alloc lz _) n) m;have P:=Hh Aa;have Ad:((w.alloc (aE #[ao ar 4,al ⟨#[c]⟩,ao ar p] 62)).drewN n).cell? ⟨w.heap.size,1,aq⟩=aw (al ⟨#[c]⟩):=(aa.new w #[ao ar 4,al ⟨#[c]⟩,ao ar p] 62).cell 1 _ rfl;clear Aa
  by_cases u:k<all.size
  .have E:=Pn (L:=all.data.toList) (c:=c) (k:=k) (by omega)
   have S:(all[k]'u).toNat=(all.data.toList[k]'(by omega)).toNat:=rfl;generalize all.data.toList[k]'(by omega)=d at *
   by_cases F:c=d
   .subst F
    have e:((c.toNat:Int)==(c.toNat:Int))=true:=by simp
    have K:Hid (all.data.toList.contains c=true):=Hh (by
     rw[List.contains_eq_mem,decide_eq_true_eq];have D:((all.data.toList.take (k+1)).contains c)=true:=by rw[E];simp
     rw[List.contains_eq_mem,decide_eq_true_eq] at D
     exact mu D)
    clear E;go_wp2_with fail;go_quiet (fail)
    go_wp2;go_ret;rw[K.out];exact⟨rfl,P.out _⟩
   .have e:((d.toNat:Int)==(c.toNat:Int))=false:=by
     rw[Fc];intro e;exact F (UInt8.toNat_inj.1 (by omega))
    have K:Hid ((all.data.toList.take (k+1)).contains c=false):=Hh (by rw[E,J.out];simpa using F);clear E F;go_wp2_with fail;go_quiet (fail)
    go_wp2;go_roundw
    .exact⟨k+1,u,by go_num,K,n+nq,rfl⟩
    simp[cR];omega
  .obtain rfl:k=all.size:=by omega
   rw[eS (by omega)] at J;go_wp2;go_ret;rw[J.out];exact⟨rfl,P.out 0⟩
 .rw[RB (by by_cases h:t.kind=4;(· exact .inr (fun D=>H ⟨h,D⟩));exact .inl h)]
  obtain⟨k,R,p⟩:=t;simp only at H;simp only[fo];have G:=dN k 4
  by_cases Q:k=4
  .subst Q
   have v:((R.size:Int) != 1)=true:=by simp;omega
   go_in;go_wp2;go_ret;exact⟨rfl,(ba _ w).alloc lz _⟩
  .have v:(k != 4)=true:=by simpa using Q
   go_in;go_wp2;go_ret;exact⟨rfl,(ba _ w).alloc lz _⟩
theorem jZ(w:cd)(a b:Array cq)(T:TypeId):aa (((w.alloc (aE a T)).alloc (aE b T)).drew) w.heap.size a T/\aa (((w.alloc (aE a T)).alloc (aE b T)).drew) (w.heap.size+1) b T/\cj w.heap.size w (((w.alloc (aE a T)).alloc (aE b T)).drew):=by
 refine⟨((aa.new w a T).alloc _).drew,?_,((((ba _ _).alloc lz _).alloc (by simp) _)).drew⟩;have h:=aa.new (w.alloc (aE a T)) b T;simp only[cF] at h;exact h.drew
theorem Stop.into{p:Prop}(h:Stop p):p:=h
theorem Eu(l:List ae):qX l 0=false:=rfl
theorem yL(h:k<l.length):qX l (k+1)=if dD l[k] then qX l k else decide (l[k].kind=4)&&!aO l[k] [41,93]:=by
 unfold qX;rw[e9 h,List.reverse_append];rfl
theorem av{w1 w2:cd}(h:cj w.heap.size w w1)(h2:cj w1.heap.size w1 w2):cj w.heap.size w w2:=h.trans (h2.mono h.size)
theorem fP(w:cd)(t:ae):cj w.heap.size w (w.alloc (kV t)):=(ba _ w).alloc lz _
theorem KV(w:cd)(lv:cq)(l:List ae)(h:aP w lv l)(i:Nat)(hi:i<=l.length)(hl:l.length<=1000000) :
  cJ bh 94 #[lv,ao ar (i:Nat)] w fun e w'=>e=bk (cG (qX l i))/\cj w.heap.size w w':=by
 obtain⟨a,c,rfl,h1,h2,-⟩:=h.len;unfold cV at h2;have Y:=Hh h;clear h;go_in;go_wp2;go_loopw [1] (fun v wr=>∃k:Nat,k<=i/\v=ao ar ((k:Int)-1)/\Hid (qX l k=qX l i)/\cj w.heap.size w wr) (fun v _=>(cR v+1).toNat)
 .exact⟨i,cA _,by go_num,Hh rfl,ba _ _⟩
 obtain⟨k,hk,rfl,H,I⟩:=hrel;have j:=Hh I
 cases k with
 |zero=>
  clear I;go_wp2;go_ret;rw[<-H.out,Eu];exact⟨rfl,j.out⟩
 |succ k=>
  have Ab:k<l.length:=by omega
  obtain⟨b,Ag,rfl,Af,q0,q1,q2⟩:=aP.get (Y.out.below I lz) Ab;have Q:=yL Ab;have Ae:eC.i64.wrap ((k:Int)-1)=(k:Int)-1:=cU _ (by omega);have Aa:((k+1:Nat):Int)-1=(k:Int):=by omega
  rw[Aa];generalize l[k]=t at *;have E:=mi t wr;have F:=fun W=>fO t ⟨#[41,93]⟩ W (by decide);have Ad:=dN t.kind 4;obtain⟨J,U,R⟩:=t;simp only[fo] at E F q0 q1 q2 Ad;change ∀W,cJ bh 92 _ W (fun e w'=>e=bk (cG (aO ⟨J,U,R⟩ [41,93]))/\cj W.heap.size W w') at F;simp only at Q;generalize dD ⟨J,U,R⟩=cb at *;generalize aO ⟨J,U,R⟩ [41,93]=Z at *;generalize decide (J=4)=db at *;have K:=Hh Q;clear Q I Aa
  cases cb with
  |true=>
   go_wp2_with fail;refine E.mono ?_;rintro _ _ ⟨rfl,rfl⟩;clear E F;go_wp2;go_roundw
   .exact⟨k,by omega,rfl,Hh (by rw[<-H.out,K.out];try rfl),j.out.alloc j.out.size _⟩
   simp[cR]<;>omega
  |false=>
   go_wp2_with fail;refine E.mono ?_;rintro _ _ ⟨rfl,rfl⟩;clear E
   cases db with
   |false=>
    go_wp2;go_ret;rw[<-H.out,K.out];exact⟨rfl,j.out.alloc j.out.size _⟩
   |true=>
    go_wp2_with fail;refine (F _).mono ?_;rintro _ w4 ⟨rfl,G⟩;have Ac:=Hh (av (j.out.alloc j.out.size _) G);clear F G;cases Z
    all_goals
     go_wp2;go_ret;rw[<-H.out,K.out];exact⟨rfl,Ac.out⟩
def VN(w:cd)(g h:Nat)(ka:Int)(ta:E7)(pa kb:Int)(tb:E7)(pb:Int):Prop:=∀W,cj w.heap.size w W->W.cell? ⟨g,0,aq⟩=aw (ao ar ka)/\W.cell? ⟨g,1,aq⟩=aw (al ta)/\W.cell? ⟨g,2,aq⟩=aw (ao ar pa)/\
 W.cell? ⟨h,0,aq⟩=aw (ao ar kb)/\W.cell? ⟨h,1,aq⟩=aw (al tb)/\W.cell? ⟨h,2,aq⟩=aw (ao ar pb)/\g<W.heap.size/\h<W.heap.size
theorem VN.of{h:Nat}{ka:Int}{ta:E7}{pa kb:Int}{tb:E7}{pb:Int}(hA:aa w g #[ao ar ka,al ta,ao ar pa] 62)(hB:aa w h #[ao ar kb,al tb,ao ar pb] 62):VN w g h ka ta pa kb tb pb:=fun W hW=>by
 have h1:=hA.below hW hA.lt;have h2:=hB.below hW hB.lt;exact⟨h1.cell 0 _ rfl,h1.cell 1 _ rfl,h1.cell 2 _ rfl,h2.cell 0 _ rfl,h2.cell 1 _ rfl,h2.cell 2 _ rfl,h1.lt,h2.lt⟩
abbrev eP(f:FuncId)(args:Array cq)(w:cd)(v:cq):Prop:=∀W,cj w.heap.size w W->cJ bh f args W fun e w'=>e=bk v/\cj w.heap.size w w'
theorem eP.of(h:∀W,cj w.heap.size w W->cJ bh f args W fun e w'=>e=bk v/\cj W.heap.size W w'):eP f args w v:=fun W hW=>(h W hW).mono fun e w' ⟨he,hb⟩=>⟨he,av hW hb⟩
theorem eP.tok{t:ae}(h:∀W,cJ bh f args W fun e w'=>e=bk v/\w'=W.alloc (kV t)):eP f args w v:=.of fun W _=>(h W).mono fun e w' ⟨he,hb⟩=>⟨he,by rw[hb];exact fP _ _⟩
theorem IE(h:l.length<=i):lF l i=0:=by
 cases i with
 |zero=>rfl
 |succ i=>
  rw[lF,nB h];cases l[i]?<;>rfl
theorem Md(h:i+1<l.length):lF l (i+1)=Dc (l[i]'(by omega)) l[i+1] (qX l i):=by
 rw[lF,br h,br (by omega)]
theorem DT(w:cd)(lv:cq)(l:List ae)(h:aP w lv l)(hl:l.length<=1000000)(z:Int)(hz:(Lit.int ar z).wf=true) :
  cJ bh 58 #[lv,ao ar z] w fun e w'=>e=bk (ao ar (lF l z.toNat:Nat))/\cj w.heap.size w w':=by
 obtain⟨a,c,rfl,h1,h2,-⟩:=h.len;unfold cV at h2
 by_cases hz0:z<=0
 .rw[show z.toNat=0 by omega]
  clear hz;go_in;go_wp2;go_ret;exact⟨rfl,ba _ _⟩
 .by_cases hz1:(l.length:Int)<=z
  .rw[IE (by omega)]
   clear hz;go_in;go_wp2;go_ret;exact⟨rfl,ba _ _⟩
  .obtain⟨i,rfl⟩:∃i:Nat,z=i+1:=⟨(z-1).toNat,by omega⟩
   have hi:i+1<l.length:=by omega
   rw[show ((i:Int)+1).toNat=i+1 by omega,Md hi];clear hz;obtain⟨b,As,rfl,Aq,q0,q1,q2⟩:=h.get (j:=i) (by omega);obtain⟨b',Ar,e',-,r0,r1,r2⟩:=h.get hi;cases e'
   have Al:=fun W hW=>KV W _ l (h.below hW lz) i (by omega) hl;have kq:eC.i64.wrap ((i:Int)+1-1)=(i:Int):=by rw[cU _ (by omega)];omega
   generalize qX l i=m at *;generalize l[i]=xa at *;generalize l[i+1]=xb at *;obtain⟨R,U,S⟩:=xa;obtain⟨Y,tb,pb⟩:=xb;simp only at q0 q1 q2 r0 r1 r2;clear h;obtain⟨G,hG⟩:=exq (Dc ⟨R,U,S⟩ ⟨Y,tb,pb⟩ m);rw[<-hG];go_in;go_upto_region 3 with fail
   go_cut [5,6] (fun x y wc=>∃p5 p6:Nat,x=cx (aw ⟨p5,0,aq⟩)/\y=cx (aw ⟨p6,0,aq⟩)/\
    aa wc p5 #[ao ar R,al U,ao ar S] 62/\aa wc p6 #[ao ar Y,al tb,ao ar pb] 62/\cj w.heap.size w wc)
   case first=>
    go_region
    all_goals go_wp2_with fail
    all_goals go_meet
    all_goals
     first
      |exact⟨_,_,rfl,rfl,(jZ _ _ _ _).1,(jZ _ _ _ _).2.1,(jZ _ _ _ _).2.2⟩
      |exact⟨_,_,rfl,rfl,(jZ _ _ _ _).2.1,(jZ _ _ _ _).1,(jZ _ _ _ _).2.2⟩
   obtain⟨p5,p6,rfl,rfl,hA,hB,Ab⟩:=hcut;have HX:=Hh (VN.of hA hB);have Aa:=Hh Ab;have Am:eP 91 _ wc _:=.tok (mi ⟨R,U,S⟩);have An:eP 91 _ wc _:=.tok (mi ⟨Y,tb,pb⟩);have Ac:eP 92 _ wc _:=.of fun W _=>fO ⟨R,U,S⟩ ⟨#[40,91,46]⟩ W (by decide);have Ad:eP 92 _ wc _:=.of fun W _=>fO ⟨Y,tb,pb⟩ ⟨#[41,93,44,46]⟩ W (by decide);have Ae:eP 92 _ wc _:=.of fun W _=>fO ⟨Y,tb,pb⟩ ⟨#[40]⟩ W (by decide);have Af:eP 92 _ wc _:=.of fun W _=>fO ⟨Y,tb,pb⟩ ⟨#[91]⟩ W (by decide);have Ag:eP 92 _ wc _:=.of fun W _=>fO ⟨R,U,S⟩ ⟨#[41,93]⟩ W (by decide);have Ah:eP 92 _ wc _:=.of fun W _=>fO ⟨R,U,S⟩ ⟨#[33]⟩ W (by decide);have Ai:eP 92 _ wc _:=.of fun W _=>fO ⟨R,U,S⟩ ⟨#[45]⟩ W (by decide);have Aj:eP 92 _ wc _:=.of fun W _=>fO ⟨R,U,S⟩ ⟨#[123]⟩ W (by decide);have Ak:eP 92 _ wc _:=.of fun W _=>fO ⟨Y,tb,pb⟩ ⟨#[125]⟩ W (by decide);have Ao:eP 93 _ wc _:=.tok (Js ⟨R,U,S⟩);have Ap:eP 94 _ wc _:=.of fun W hW=>Al W (Ab.trans (hW.mono Ab.size));have hK:=dN R 1;simp only[fo] at Am An Ac Ad Ae Af Ag Ah Ai Aj Ak Ao;unfold Dc at hG;simp only at hG;have HG:=Hh hG;clear hG;obtain⟨C,c1,H,I,J,L,M,Q⟩:=HX.out wc (ba _ _);have u:=ba wc.heap.size wc
   clear q0 q1 q2 r0 r1 r2 hi Aq hl;change ∀W,_->cJ _ _ _ _ (fun e w'=>e=bk (cG (aO ⟨R,U,S⟩ [40,91,46]))/\_) at Ac;change ∀W,_->cJ _ _ _ _ (fun e w'=>e=bk (cG (aO ⟨Y,tb,pb⟩ [41,93,44,46]))/\_) at Ad;change ∀W,_->cJ _ _ _ _ (fun e w'=>e=bk (cG (aO ⟨Y,tb,pb⟩ [40]))/\_) at Ae;change ∀W,_->cJ _ _ _ _ (fun e w'=>e=bk (cG (aO ⟨Y,tb,pb⟩ [91]))/\_) at Af;change ∀W,_->cJ _ _ _ _ (fun e w'=>e=bk (cG (aO ⟨R,U,S⟩ [41,93]))/\_) at Ag;change ∀W,_->cJ _ _ _ _ (fun e w'=>e=bk (cG (aO ⟨R,U,S⟩ [33]))/\_) at Ah;change ∀W,_->cJ _ _ _ _ (fun e w'=>e=bk (cG (aO ⟨R,U,S⟩ [45]))/\_) at Ai;change ∀W,_->cJ _ _ _ _ (fun e w'=>e=bk (cG (aO ⟨R,U,S⟩ [123]))/\_) at Aj;change ∀W,_->cJ _ _ _ _ (fun e w'=>e=bk (cG (aO ⟨Y,tb,pb⟩ [125]))/\_) at Ak;generalize dD ⟨R,U,S⟩=xc1 at *;generalize dD ⟨Y,tb,pb⟩=xc2 at *;generalize aO ⟨R,U,S⟩ [40,91,46]=x1 at *;generalize aO ⟨Y,tb,pb⟩ [41,93,44,46]=x2 at *;generalize aO ⟨Y,tb,pb⟩ [40]=x3 at *;generalize aO ⟨Y,tb,pb⟩ [91]=x4 at *;generalize aO ⟨R,U,S⟩ [41,93]=x5 at *;generalize aO ⟨R,U,S⟩ [33]=x6 at *;generalize aO ⟨R,U,S⟩ [45]=x7 at *;generalize aO ⟨R,U,S⟩ [123]=x8 at *;generalize aO ⟨Y,tb,pb⟩ [125]=x9 at *
   generalize gV ⟨R,U,S⟩=xw at *;generalize decide (R=1)=xk at *;clear hA hB;clear Al Ab
   focus (go_wp2_with (go_at_call 91;(with_reducible refine (Am _ u).mono ?_);clear C c1 H I J L M Q;rintro _ W ⟨rfl,u⟩;obtain⟨C,c1,H,I,J,L,M,Q⟩:=HX.out W u;refine Stop.into ?_);refine Stop.out ?_)
   cases xc1
   rotate_left
   ·(go_wp2;go_ret;exact⟨by rw[HG.out];rfl,Aa.out.trans (u.mono Aa.out.size)⟩)
   focus (go_wp2_with (go_at_call 91;(with_reducible refine (An _ u).mono ?_);clear C c1 H I J L M Q;rintro _ W ⟨rfl,u⟩;obtain⟨C,c1,H,I,J,L,M,Q⟩:=HX.out W u;refine Stop.into ?_);refine Stop.out ?_)
   cases xc2
   rotate_left
   ·(go_wp2;go_ret;exact⟨by rw[HG.out];rfl,Aa.out.trans (u.mono Aa.out.size)⟩)
   focus (go_wp2_with (go_at_call 92;(with_reducible refine (Ac _ u).mono ?_);clear C c1 H I J L M Q;rintro _ W ⟨rfl,u⟩;obtain⟨C,c1,H,I,J,L,M,Q⟩:=HX.out W u;refine Stop.into ?_);refine Stop.out ?_)
   cases x1
   rotate_left
   ·(go_wp2;go_ret;exact⟨by rw[HG.out];rfl,Aa.out.trans (u.mono Aa.out.size)⟩)
   focus (go_wp2_with (go_at_call 92;(with_reducible refine (Ad _ u).mono ?_);clear C c1 H I J L M Q;rintro _ W ⟨rfl,u⟩;obtain⟨C,c1,H,I,J,L,M,Q⟩:=HX.out W u;refine Stop.into ?_);refine Stop.out ?_)
   cases x2
   rotate_left
   ·(go_wp2;go_ret;exact⟨by rw[HG.out];rfl,Aa.out.trans (u.mono Aa.out.size)⟩)
   focus (go_wp2_with (go_at_call 92;(with_reducible refine (Ae _ u).mono ?_);clear C c1 H I J L M Q;rintro _ W ⟨rfl,u⟩;obtain⟨C,c1,H,I,J,L,M,Q⟩:=HX.out W u;refine Stop.into ?_);refine Stop.out ?_)
   cases x3
   rotate_left
   cases xk
   rotate_left
   ·(go_wp2;go_ret;exact⟨by rw[HG.out];rfl,Aa.out.trans (u.mono Aa.out.size)⟩)
   all_goals
    focus (go_wp2_with (go_at_call 92;(with_reducible refine (Af _ u).mono ?_);clear C c1 H I J L M Q;rintro _ W ⟨rfl,u⟩;obtain⟨C,c1,H,I,J,L,M,Q⟩:=HX.out W u;refine Stop.into ?_);refine Stop.out ?_)
    cases x4
    rotate_left
    focus (go_wp2_with (go_at_call 93;(with_reducible refine (Ao _ u).mono ?_);clear C c1 H I J L M Q;rintro _ W ⟨rfl,u⟩;obtain⟨C,c1,H,I,J,L,M,Q⟩:=HX.out W u;refine Stop.into ?_);refine Stop.out ?_)
    cases xw
    rotate_left
    ·(go_wp2;go_ret;exact⟨by rw[HG.out];rfl,Aa.out.trans (u.mono Aa.out.size)⟩)
    rotate_left
    focus (go_wp2_with (go_at_call 92;(with_reducible refine (Ag _ u).mono ?_);clear C c1 H I J L M Q;rintro _ W ⟨rfl,u⟩;obtain⟨C,c1,H,I,J,L,M,Q⟩:=HX.out W u;refine Stop.into ?_);refine Stop.out ?_)
    cases x5
    rotate_left
    ·(go_wp2;go_ret;exact⟨by rw[HG.out];rfl,Aa.out.trans (u.mono Aa.out.size)⟩)
    all_goals
     focus (go_wp2_with (go_at_call 92;(with_reducible refine (Ah _ u).mono ?_);clear C c1 H I J L M Q;rintro _ W ⟨rfl,u⟩;obtain⟨C,c1,H,I,J,L,M,Q⟩:=HX.out W u;refine Stop.into ?_);refine Stop.out ?_)
     cases x6
     rotate_left
     ·(go_wp2;go_ret;exact⟨by rw[HG.out];rfl,Aa.out.trans (u.mono Aa.out.size)⟩)
     focus (go_wp2_with (go_at_call 92;(with_reducible refine (Ai _ u).mono ?_);clear C c1 H I J L M Q;rintro _ W ⟨rfl,u⟩;obtain⟨C,c1,H,I,J,L,M,Q⟩:=HX.out W u;refine Stop.into ?_);refine Stop.out ?_)
     cases x7
     rotate_left
     focus (go_wp2_with (go_at_call 94;(with_reducible refine (Ap _ u).mono ?_);clear C c1 H I J L M Q;rintro _ W ⟨rfl,u⟩;obtain⟨C,c1,H,I,J,L,M,Q⟩:=HX.out W u;refine Stop.into ?_);refine Stop.out ?_)
     cases m
     rotate_left
     ·(go_wp2;go_ret;exact⟨by rw[HG.out];rfl,Aa.out.trans (u.mono Aa.out.size)⟩)
     all_goals
      focus (go_wp2_with (go_at_call 92;(with_reducible refine (Aj _ u).mono ?_);clear C c1 H I J L M Q;rintro _ W ⟨rfl,u⟩;obtain⟨C,c1,H,I,J,L,M,Q⟩:=HX.out W u;refine Stop.into ?_);refine Stop.out ?_)
      cases x8
      rotate_left
      focus (go_wp2_with (go_at_call 92;(with_reducible refine (Ak _ u).mono ?_);clear C c1 H I J L M Q;rintro _ W ⟨rfl,u⟩;obtain⟨C,c1,H,I,J,L,M,Q⟩:=HX.out W u;refine Stop.into ?_);refine Stop.out ?_)
      cases x9
      all_goals (go_wp2;go_ret;exact⟨by rw[HG.out];rfl,Aa.out.trans (u.mono Aa.out.size)⟩)
def rA:Option Nat->Int
 |some i=>(i:Int)
 |none=>-1
theorem wO(h:l.length<=k):ng (l.drop k) k n=aq:=by rw[ek h];cases n<;>rfl
theorem zM(h:k<l.length)(a:dD l[k]=true):ng (l.drop k) k n=ng (l.drop (k+1)) (k+1) n:=by
 rw[cg h];cases n<;>rw[ng,E4 a]
theorem zL(h:k<l.length)(a:dD l[k]=false):ng (l.drop k) k 0=aw k:=by
 rw[cg h,ng,E6 (by rw[a];decide)]
theorem wP(h:k<l.length)(a:dD l[k]=false):ng (l.drop k) k (n+1)=ng (l.drop (k+1)) (k+1) n:=by
 rw[cg h,ng,E6 (by rw[a];decide)]
theorem DL:∀(l:List ae) (i:Nat),match ng l i 0 with
  |some j=>∃h:j-i<l.length,i<=j/\(dX l).head?=aw l[j-i]
  |none=>dX l=[]
 |[],i=>by simp[ng,dX]
 | t::l,i=>by
  by_cases hc:dD t=true
  .rw[ng,E4 hc]
   have ih:=DL l (i+1);have hp:dX (t::l)=dX l:=by unfold dX;rw[jx (by rw[hc];decide)]
   rw[hp];split at ih
   .next j q=>
    obtain⟨k,o,f⟩:=ih;obtain⟨m,rfl⟩:∃m,j=i+1+m:=⟨j-(i+1),by omega⟩;have e1:i+1+m-(i+1)=m:=by omega
    have b:i+1+m-i=m+1:=by omega
    simp only[e1,b] at *;exact⟨by simp;omega,by omega,f⟩
   .exact ih
  .rw[ng,E6 hc]
   have hp:dX (t::l)=t::dX l:=by unfold dX;rw[e8 (by simpa using hc)]
   rw[hp];simp
theorem Rm(l:List ae):lW l=match ng l 0 0 with
  |some j=>bZ (l[j]?.getD ⟨0,⟨#[]⟩,0⟩) mZ
  |none=>false:=by
 have h:=DL l 0;unfold lW;split at h
 .next j c=>
  obtain⟨b,-,a⟩:=h;simp only[Nat.sub_zero] at b a;rw[br b]
  cases hp:dX l with
  |nil=>rw[hp] at a;cases a
  |cons t r=>rw[hp] at a;cases a;rfl
 .rw[h]
theorem Hu(h:k<l.length):jy (l.take (k+1))=if dD l[k] then jy (l.take k) else bZ l[k] pg:=by
 unfold jy dX;rw[e9 h,List.filter_append]
 by_cases b:dD l[k]=true
 .rw[E4 b,jx (by rw[b];decide),List.filter_nil,eI]
 .rw[E6 b,e8 (by simpa using b),List.filter_nil,eM]
abbrev Ny(v:cq)(lo hi d:Int):cq:=ew #[v,ao ar lo,ao ar hi,ao ar d]
theorem gD{c:Nat}(h:aP w (an a n c) l)(o:k<l.length) :
  ∃b off,a=aw ⟨b,off,aq⟩/\b<w.heap.size/\∀W,cj w.heap.size w W->W.cell? ⟨b,off+k*3,aq⟩=aw (ao ar l[k].kind)/\W.cell? ⟨b,off+k*3+1,aq⟩=aw (al l[k].text)/\W.cell? ⟨b,off+k*3+2,aq⟩=aw (ao ar l[k].pos):=by
 obtain⟨b,off,rfl,Aa,q0,i,j⟩:=h.get o;exact⟨b,off,rfl,Aa,fun W hW=>⟨(hW.cell (p:=⟨b,off+k*3,aq⟩) Aa).trans q0,(hW.cell (p:=⟨b,off+k*3+1,aq⟩) Aa).trans i,(hW.cell (p:=⟨b,off+k*3+2,aq⟩) Aa).trans j⟩⟩
theorem yY(w:cd)(lv:cq)(l:List ae)(lo hi d:Int)(n:Nat)(h:aP w lv l)(hl:l.length<=1000000)(hn:n<=10) :
  cJ bh 95 #[Ny lv lo hi d,ao ar (n:Nat)] w fun e w'=>e=bk (ao ar (rA (ng l 0 n)))/\cj w.heap.size w w':=by
 obtain⟨a,c,rfl,h1,h2,-⟩:=h.len;unfold cV at h2;have Aa:cj w.heap.size w (w.alloc (aE #[an a l.length c,ao ar lo,ao ar hi,ao ar d] 78)):=(ba _ w).alloc lz _;have Ab:=Hh Aa;have HT:=Hh h;clear h Aa;go_in;go_wp2;go_loopw [1,10] (fun nn i wr=>∃(k m:Nat),k<=l.length/\i=ao ar (k:Int)/\nn=ao ar (m:Int)/\m<=10/\Hid (ng (l.drop k) k m=ng l 0 n)/\cj w.heap.size w wr) (fun _ i _=>l.length-(cR i).toNat)
 .exact⟨0,n,ck _,rfl,rfl,hn,Hh rfl,Ab.out⟩
 obtain⟨k,m,hk,rfl,rfl,hm,F,H⟩:=hrel;have G:=Hh H
 by_cases j:k<l.length
 .obtain⟨b,Af,rfl,Ac,N⟩:=gD (HT.out.below H lz) j
  obtain⟨q0,q1,q2⟩:=N wr (ba _ _);have K:=fP wr l[k];have u:=mi l[k] (wr.alloc (kV l[k]));have U:=Hh (fun hc=>zM (n:=m) j hc);have W:=Hh (fun hc=>zL j hc);have Z:=Hh (fun hc n=>wP (n:=n) j hc);generalize l[k]=t at *;obtain⟨Q,S,R⟩:=t;simp only[fo] at u q0 q1 q2;generalize dD ⟨Q,S,R⟩=cb at *;have I:=Hh ((G.out.trans (K.mono G.out.size)).alloc (by have:=G.out.size;simp;omega) (kV ⟨Q,S,R⟩));clear K H N
  cases cb with
  |true=>
   go_wp2_with fail;refine u.mono ?_;rintro _ _ ⟨rfl,rfl⟩;clear u;go_wp2;go_roundw
   .exact⟨k+1,m,j,by go_num,rfl,hm,Hh (by rw[<-F.out,U.out (by trivial)]),I.out⟩
   simp[cR]<;>omega
  |false=>
   go_wp2_with fail;refine u.mono ?_;rintro _ _ ⟨rfl,rfl⟩;clear u
   cases m with
   |zero=>
    go_wp2;go_ret;rw[<-F.out,W.out (by trivial)];exact⟨rfl,I.out⟩
   |succ m=>
    have Ad:(((m+1:Nat):Int)==0)=false:=by simp;omega
    have Ae:((m+1:Nat):Int)-1=(m:Int):=by omega
    go_wp2;go_roundw
    .exact⟨k+1,m,j,by go_num,by go_num,by omega,Hh (by rw[<-F.out,Z.out (by trivial)]),I.out⟩
    simp[cR]<;>omega
 .obtain rfl:k=l.length:=by omega
  have J:=wO (l:=l) (n:=m) lz;have HE:=Hh J;clear J H;go_wp2;go_ret;rw[<-F.out,HE.out];exact⟨rfl,G.out⟩
theorem qP(w:cd)(lv:cq)(l:List ae)(lo hi d:Int)(h:aP w lv l)(hl:l.length<=1000000) :
  cJ bh 60 #[Ny lv lo hi d] w fun e w'=>e=bk (cG (lW l))/\cj w.heap.size w w':=by
 obtain⟨a,c,rfl,h1,h2,-⟩:=h.len;unfold cV at h2;have Aa:cj w.heap.size w (w.alloc (aE #[an a l.length c,ao ar lo,ao ar hi,ao ar d] 78)):=(ba _ w).alloc lz _;have G:=Rm l;have F:=yY _ _ l lo hi d 0 (h.below Aa lz) hl (by omega);have K:=(aa.new w #[an a l.length c,ao ar lo,ao ar hi,ao ar d] 78)
 cases hp:ng l 0 0 with
 |none=>
  rw[hp] at G F;rw[G];simp only[rA] at F;clear h G hp K;go_in;go_wp2_with fail;refine F.mono ?_;rintro _ w2 ⟨rfl,E⟩;have I:=Hh (Aa.trans (E.mono Aa.size));clear F Aa E;go_wp2;go_ret;exact⟨rfl,I.out⟩
 |some j=>
  have L:=(yu l 0 0 j hp).2;rw[df] at L;rw[hp] at G F;simp only[br L,jz] at G;rw[G];simp only[rA] at F;obtain⟨b,Ao,rfl,Am,T⟩:=gD h L;have J:=fun W=>fO l[j] ⟨#[125]⟩ W (by decide);have Ak:bZ l[j] mZ=aO l[j] [125]:=(uA l[j] 125).symm;have S:=Hh T;generalize l[j]=t at *;obtain⟨U,X,V⟩:=t;simp only[fo] at J S;rw[Ak];change ∀W,cJ _ _ _ _ (fun e w'=>e=bk (cG (aO ⟨U,X,V⟩ [125]))/\_) at J;generalize aO ⟨U,X,V⟩ [125]=ab at *;have N:=Hh K;clear h G hp T K Ak;go_in;go_wp2_with fail;refine F.mono ?_;rintro _ w2 ⟨rfl,E⟩;have Ab:=N.out.below E N.out.lt;obtain⟨q0,q1,q2⟩:=S.out w2 (Aa.trans (E.mono Aa.size));have An:=Ab.lt;have I:=Hh (Aa.trans (E.mono Aa.size));obtain⟨Ac,Ag,Ad,Ah,Ae,Ai,Af,Aj⟩:=Ab.n4 rfl;clear F Aa E Ab;go_wp2_with fail;refine (J _).mono ?_;rintro _ w3 ⟨rfl,H⟩;have Al:=Hh (I.out.trans (H.mono I.out.size));clear J H;go_wp2;go_ret;exact⟨rfl,Al.out⟩
theorem oP(w:cd)(lv:cq)(l:List ae)(lo hi d:Int)(h:aP w lv l)(hl:l.length<=1000000) :
  cJ bh 61 #[Ny lv lo hi d] w fun e w'=>e=bk (cG (jy l))/\cj w.heap.size w w':=by
 obtain⟨a,c,rfl,h1,h2,-⟩:=h.len;unfold cV at h2;have Aj:cj w.heap.size w (w.alloc (aE #[an a l.length c,ao ar lo,ao ar hi,ao ar d] 78)):=(ba _ w).alloc lz _;have HC:=Hh (aa.new w #[an a l.length c,ao ar lo,ao ar hi,ao ar d] 78);have Am:=Hh Aj;have HT:=Hh h;have kq:eC.i64.wrap ((l.length:Int)-1)=(l.length:Int)-1:=cU _ (by omega);clear h Aj;go_in;go_wp2;go_loopw [3] (fun v wr=>∃k:Nat,k<=l.length/\v=ao ar ((k:Int)-1)/\Hid (jy (l.take k)=jy l)/\cj w.heap.size w wr/\aa wr w.heap.size #[an a l.length c,ao ar lo,ao ar hi,ao ar d] 78) (fun v _=>(cR v+1).toNat)
 .exact⟨l.length,cA _,by go_num,Hh (by rw[eR]),Am.out,HC.out⟩
 obtain⟨k,hk,rfl,L,K,Aa⟩:=hrel;have N:=Hh K;have Ao:=Hh Aa;have Aq:=Aa.lt
 cases k with
 |zero=>
  clear K;obtain⟨Ab,Af,Ac,Ag,Ad,Ah,Ae,Ai⟩:=Aa.n4 rfl;clear Aa;go_wp2;go_ret;rw[<-L.out];exact⟨rfl,N.out⟩
 |succ k=>
  have Al:k<l.length:=by omega
  obtain⟨b,As,rfl,Ap,U⟩:=gD (HT.out.below K lz) Al;obtain⟨q0,q1,q2⟩:=U wr (ba _ _);have R:=Hu Al;have Ar:eC.i64.wrap ((k:Int)-1)=(k:Int)-1:=cU _ (by omega);have Ak:((k+1:Nat):Int)-1=(k:Int):=by omega
  rw[Ak];have HQ:=Hh U;generalize l[k]=t at *;have E:=mi t wr;have F:=fun W=>fO t ⟨#[123]⟩ W (by decide);rw[show bZ t pg=aO t [123] from (uA t 123).symm] at R;obtain⟨H,J,I⟩:=t;simp only[fo] at E F q0 q1 q2 HQ;change ∀W,cJ _ _ _ _ (fun e w'=>e=bk (cG (aO ⟨H,J,I⟩ [123]))/\_) at F;generalize dD ⟨H,J,I⟩=cb at *;generalize aO ⟨H,J,I⟩ [123]=ab at *;have Y:=Hh R;have HX:=Hh (N.out.alloc N.out.size (kV ⟨H,J,I⟩));have HD:=Hh (Ao.out.alloc (kV ⟨H,J,I⟩));obtain⟨Ab,Af,Ac,Ag,Ad,Ah,Ae,Ai⟩:=Aa.n4 rfl;clear R K Ak U Aa
  cases cb with
  |true=>
   go_wp2_with fail;refine E.mono ?_;rintro _ _ ⟨rfl,rfl⟩;clear E F;go_wp2;go_roundw
   .exact⟨k,by omega,rfl,Hh (by rw[<-L.out,Y.out];try rfl),HX.out,HD.out⟩
   simp[cR]<;>omega
  |false=>
   go_wp2_with fail;refine E.mono ?_;rintro _ _ ⟨rfl,rfl⟩;clear E;go_wp2_with fail;refine (F _).mono ?_;rintro _ w4 ⟨rfl,G⟩;have An:=Hh (av HX.out G);clear F G;go_wp2;go_ret;rw[<-L.out,Y.out];exact⟨rfl,An.out⟩
abbrev GI(v:cq)(d:Int):cq:=ew #[v,ao ar d]
def Pj(l:List ae):Option Nat->ae
 |some i=>l[i]?.getD ⟨0,⟨#[]⟩,0⟩
 |none=>⟨0,⟨#[]⟩,0⟩
theorem TD(l:List ae):bZ (Pj l (ng l 0 0)) mZ=lW l:=by
 rw[Rm];cases ng l 0 0<;>rfl
theorem rO(w:cd)(lv:cq)(l:List ae)(d:Int)(h:aP w lv l)(hl:l.length<=1000000) :
  cJ bh 34 #[GI lv d] w fun e w'=>e=bk (cG (jy l))/\cj w.heap.size w w':=by
 obtain⟨a,c,rfl,h1,h2,-⟩:=h.len;unfold cV at h2;have Af:cj w.heap.size w (w.alloc (aE #[an a l.length c,ao ar d] 68)):=(ba _ w).alloc lz _;have HC:=Hh (aa.new w #[an a l.length c,ao ar d] 68);have Ai:=Hh Af;have HT:=Hh h;have kq:eC.i64.wrap ((l.length:Int)-1)=(l.length:Int)-1:=cU _ (by omega);clear h Af;go_in;go_wp2;go_loopw [3] (fun v wr=>∃k:Nat,k<=l.length/\v=ao ar ((k:Int)-1)/\Hid (jy (l.take k)=jy l)/\cj w.heap.size w wr/\aa wr w.heap.size #[an a l.length c,ao ar d] 68) (fun v _=>(cR v+1).toNat)
 .exact⟨l.length,cA _,by go_num,Hh (by rw[eR]),Ai.out,HC.out⟩
 obtain⟨k,hk,rfl,L,K,Aa⟩:=hrel;have N:=Hh K;have Ak:=Hh Aa;have Am:=Aa.lt
 cases k with
 |zero=>
  clear K;obtain⟨Ab,Ad,Ac,Ae⟩:=Aa.n2 rfl;clear Aa;go_wp2;go_ret;rw[<-L.out];exact⟨rfl,N.out⟩
 |succ k=>
  have Ah:k<l.length:=by omega
  obtain⟨b,Ao,rfl,Al,U⟩:=gD (HT.out.below K lz) Ah;obtain⟨q0,q1,q2⟩:=U wr (ba _ _);have hS:=Hu Ah;have An:eC.i64.wrap ((k:Int)-1)=(k:Int)-1:=cU _ (by omega);have Ag:((k+1:Nat):Int)-1=(k:Int):=by omega
  rw[Ag];have HQ:=Hh U;generalize l[k]=t at *;have E:=xY t wr;have J:=fun W=>p8 t pg W;obtain⟨F,H,G⟩:=t;simp only[fo] at E J q0 q1 q2 HQ;generalize dD ⟨F,H,G⟩=cb at *;generalize bZ ⟨F,H,G⟩ pg=ab at *;have HS:=Hh hS;have R:=Hh (N.out.alloc N.out.size (kV ⟨F,H,G⟩));have HD:=Hh (Ak.out.alloc (kV ⟨F,H,G⟩));obtain⟨Ab,Ad,Ac,Ae⟩:=Aa.n2 rfl;clear hS K Ag U Aa
  cases cb with
  |true=>
   go_wp2_with fail;refine E.mono ?_;rintro _ _ ⟨rfl,rfl⟩;clear E J;go_wp2;go_roundw
   .exact⟨k,by omega,rfl,Hh (by rw[<-L.out,HS.out];try rfl),R.out,HD.out⟩
   simp[cR]<;>omega
  |false=>
   go_wp2_with fail;refine E.mono ?_;rintro _ _ ⟨rfl,rfl⟩;clear E;go_wp2_with fail;refine (J _).mono ?_;rintro _ _ ⟨rfl,rfl⟩;have Aj:=Hh (R.out.alloc R.out.size (kV ⟨F,H,G⟩));clear J;go_wp2;go_ret;rw[<-L.out,HS.out];exact⟨rfl,Aj.out⟩
theorem Gt(w:cd)(lv:cq)(l:List ae)(d:Int)(n:Nat)(h:aP w lv l)(hl:l.length<=1000000)(hn:n<=10) :
  cJ bh 33 #[GI lv d,ao ar (n:Nat)] w fun e w'=>e=bk (fo (Pj l (ng l 0 n)))/\cj w.heap.size w w':=by
 obtain⟨a,c,rfl,h1,h2,-⟩:=h.len;unfold cV at h2;have Al:cj w.heap.size w (w.alloc (aE #[an a l.length c,ao ar d] 68)):=(ba _ w).alloc lz _;have Am:=Al.alloc (by simp) (aE #[ao ar 0,al ⟨#[]⟩,ao ar 0] 62);have Ah:=aa.new (w.alloc (aE #[an a l.length c,ao ar d] 68)) #[ao ar 0,al ⟨#[]⟩,ao ar 0] 62;simp only[cF] at Ah;have An:=Jh Am Ah;have HT:=Hh h;clear h Al Am Ah;go_in;go_wp2;go_loopw [1,10] (fun nn i wr=>∃(k m:Nat),k<=l.length/\i=ao ar (k:Int)/\nn=ao ar (m:Int)/\m<=10/\Hid (ng (l.drop k) k m=ng l 0 n)/\cj w.heap.size w wr/\aa wr (w.heap.size+1) #[ao ar 0,al ⟨#[]⟩,ao ar 0] 62) (fun _ i _=>l.length-(cR i).toNat)
 .exact⟨0,n,ck _,rfl,rfl,hn,Hh rfl,An.out⟩
 obtain⟨k,m,hk,rfl,rfl,hm,Q,U,Aa⟩:=hrel;have R:=Hh U;have Z:=Hh Aa;have Av:=Aa.lt
 by_cases F:k<l.length
 .obtain⟨b,Ay,rfl,Au,G⟩:=gD (HT.out.below U lz) F
  obtain⟨q0,q1,q2⟩:=G wr (ba _ _);have hX:=fP wr l[k];have N:=xY l[k] (wr.alloc (kV l[k]));have H1:=Hh (fun hc=>zM (n:=m) F hc);have H2:=Hh (fun hc=>zL F hc);have H3:=Hh (fun hc n=>wP (n:=n) F hc);have H4:Hid (Pj l (aw k)=l[k]):=Hh (by show (l[k]?).getD _=_;rw[br F];rfl);generalize l[k]=t at *;obtain⟨H,K,J⟩:=t;simp only[fo] at N q0 q1 q2;generalize dD ⟨H,K,J⟩=cb at *;have W:=Hh ((R.out.trans (hX.mono R.out.size)).alloc (by have:=R.out.size;simp;omega) (kV ⟨H,K,J⟩));have S:=Hh ((Z.out.alloc (kV ⟨H,K,J⟩)).alloc (kV ⟨H,K,J⟩));obtain⟨Ab,Ae,Ac,Af,Ad,Ag⟩:=Aa.n3 rfl;clear hX U G Aa
  cases cb with
  |true=>
   go_wp2_with fail;refine N.mono ?_;rintro _ _ ⟨rfl,rfl⟩;clear N;go_wp2;go_roundw
   .exact⟨k+1,m,F,by go_num,rfl,hm,Hh (by rw[<-Q.out,H1.out (by trivial)]),W.out,S.out⟩
   simp[cR]<;>omega
  |false=>
   go_wp2_with fail;refine N.mono ?_;rintro _ _ ⟨rfl,rfl⟩;clear N
   cases m with
   |zero=>
    obtain⟨Ao,Ar,Ap,As,Aq,At⟩:=S.out.n3 rfl;go_wp2_with fail;have G:=(((S.out.setI 0 (ao ar H)).setI 1 (al K)).setI 2 (ao ar J));obtain⟨Ai,Aj,Ak⟩:=G.m3 rfl;refine bj (v:=ew #[ao ar H,al K,ao ar J]) (by simp[cD,Tryz.results33,go_sem,Ai,Aj,Ak]) rfl ?_;rw[<-Q.out,H2.out (by trivial),H4.out];exact⟨rfl,((W.out.setCell (by show w.heap.size<=w.heap.size+1;omega) _).setCell (by show w.heap.size<=w.heap.size+1;omega) _).setCell (by show w.heap.size<=w.heap.size+1;omega) _⟩
   |succ m=>
    have Aw:(((m+1:Nat):Int)==0)=false:=by simp;omega
    have Ax:((m+1:Nat):Int)-1=(m:Int):=by omega
    go_wp2;go_roundw
    .exact⟨k+1,m,F,by go_num,by go_num,by omega,Hh (by rw[<-Q.out,H3.out (by trivial)]),W.out,S.out⟩
    simp[cR]<;>omega
 .obtain rfl:k=l.length:=by omega
  have hE:=wO (l:=l) (n:=m) lz;have HE:=Hh hE;obtain⟨Ab,Ae,Ac,Af,Ad,Ag⟩:=Aa.n3 rfl;clear hE U Aa;go_wp2_with fail;have G:=(((Z.out.setI 0 (ao ar 0)).setI 1 (al ⟨#[]⟩)).setI 2 (ao ar 0));obtain⟨Ai,Aj,Ak⟩:=G.m3 rfl;refine bj (v:=ew #[ao ar 0,al ⟨#[]⟩,ao ar 0]) (by simp[cD,Tryz.results33,go_sem,Ai,Aj,Ak]) rfl ?_;rw[<-Q.out,HE.out];exact⟨rfl,((R.out.setCell (by show w.heap.size<=w.heap.size+1;omega) _).setCell (by show w.heap.size<=w.heap.size+1;omega) _).setCell (by show w.heap.size<=w.heap.size+1;omega) _⟩
theorem Mi(h:ng l 0 1=aw k)(a:k<l.length):gK l=if bZ l[k] Gc then aw k else aq:=by
 unfold gK;rw[h];simp only[br a,jz]
theorem IV(h:ng l 0 1=aq):gK l=aq:=by
 unfold gK;rw[h]
theorem Al(w:cd)(lv:cq)(l:List ae)(d:Int)(h:aP w lv l)(hl:l.length<=1000000) :
  cJ bh 28 #[GI lv d] w fun e w'=>e=bk (ao ar (rA (gK l)))/\cj w.heap.size w w':=by
 obtain⟨a,c,rfl,h1,h2,-⟩:=h.len;unfold cV at h2;have Aa:cj w.heap.size w (w.alloc (aE #[an a l.length c,ao ar d] 68)):=(ba _ w).alloc lz _;have Ab:=Hh Aa;have HT:=Hh h;clear h Aa;go_in;go_wp2;go_loopw [3,9] (fun nn i wr=>∃(k m:Nat),k<=l.length/\i=ao ar (k:Int)/\nn=ao ar (m:Int)/\m<=1/\Hid (ng (l.drop k) k (1-m)=ng l 0 1)/\cj w.heap.size w wr) (fun _ i _=>l.length-(cR i).toNat)
 .exact⟨0,0,ck _,rfl,rfl,by omega,Hh rfl,Ab.out⟩
 obtain⟨k,m,hk,rfl,rfl,hm,F,N⟩:=hrel;have G:=Hh N
 by_cases j:k<l.length
 .obtain⟨b,Ae,rfl,Ad,hq⟩:=gD (HT.out.below N lz) j
  obtain⟨q0,q1,q2⟩:=hq wr (ba _ _);have hX:=fP wr l[k];have u:=xY l[k] (wr.alloc (kV l[k]));have J:=fun W=>p8 l[k] Gc W;have H1:=Hh (fun hc n=>zM (n:=n) j hc);have H2:=Hh (fun hc=>zL j hc);have H3:=Hh (fun hc n=>wP (n:=n) j hc);have H4:=Hh (fun h=>Mi (l:=l) (k:=k) h j);generalize l[k]=t at *;obtain⟨Q,U,R⟩:=t;simp only[fo] at u J q0 q1 q2;generalize dD ⟨Q,U,R⟩=cb at *;generalize bZ ⟨Q,U,R⟩ Gc=sb at *;have H:=Hh ((G.out.trans (hX.mono G.out.size)).alloc (by have:=G.out.size;simp;omega) (kV ⟨Q,U,R⟩));have Ac:=Hh (H.out.alloc H.out.size (kV ⟨Q,U,R⟩));clear hX N hq
  cases cb with
  |true=>
   go_wp2_with fail;refine u.mono ?_;rintro _ _ ⟨rfl,rfl⟩;clear u J;go_wp2;go_roundw
   .exact⟨k+1,m,j,by go_num,rfl,hm,Hh (by rw[<-F.out,H1.out (by trivial)]),H.out⟩
   simp[cR]<;>omega
  |false=>
   go_wp2_with fail;refine u.mono ?_;rintro _ _ ⟨rfl,rfl⟩;clear u
   by_cases hm1:m=1
   .subst hm1
    have HE:Hid (gK l=if sb then aw k else aq):=Hh (H4.out (by rw[<-F.out];exact H2.out (by trivial)));go_wp2_with fail;refine (J _).mono ?_;rintro _ _ ⟨rfl,rfl⟩;clear J;cases sb
    all_goals
     go_wp2;go_ret;rw[HE.out];exact⟨rfl,Ac.out⟩
   .obtain rfl:m=0:=by omega
    go_wp2;go_roundw
    .exact⟨k+1,1,j,by go_num,by go_num,by omega,Hh (by rw[<-F.out,H3.out (by trivial)]),H.out⟩
    simp[cR]<;>omega
 .obtain rfl:k=l.length:=by omega
  have hE:=wO (l:=l) (n:=1-m) lz;have HE:Hid (gK l=aq):=Hh (IV (by rw[<-F.out,hE]));clear hE N;go_wp2;go_ret;rw[HE.out];exact⟨rfl,G.out⟩
def O0(n:Nat):E7:=au (iR n)
theorem Ap(n:Nat):(O0 n).size=n:=by unfold O0 iR;show (List.replicate n _).toArray.size=n;simp
theorem JR(n:Nat):Lib.repeatL [32] n=iR n:=by
 unfold iR
 induction n with
 |zero=>rfl
 |succ n ih=>rw[Lib.repeatL,ih,List.replicate_succ];rfl
theorem JI(n:Nat)(w:cd)(b:n<=1000000000):cJ bh 55 #[al ⟨#[32]⟩,ao ar n] w fun e w'=>e=bk (al (O0 n))/\cj w.heap.size w w':=by
 have:=Go.Proofs.Tryz.strings_Repeat ⟨#[32]⟩ n w (by omega) (by show 1*n<=_;omega);rw[show (⟨#[32]⟩:E7).data.toList=[32] from rfl,JR] at this;exact this
theorem VU:EB 36 2 0:=⟨by decide,by kernel_rfl,by decide⟩
def BW(B:Nat)(w:cd)(g:Nat)(l:Bs):Prop:=B<=g/\∃cs,cs.size=2/\Lc 36 B w g 0 cs l
theorem BW.lt{l:Bs}(h:BW B w g l):g<w.heap.size:=by
 obtain⟨-,cs,-,a⟩:=h;exact a.cells.lt
structure rE(B g:Nat)(w w':cd):Prop where
 b:cj B w w'
 s:bQ 5 g w w'
theorem rE.refl(B g:Nat)(w:cd):rE B g w w:=⟨ba _ _,bQ.refl⟩
theorem rE.trans{w'':cd}(h:rE B g w w')(h2:rE B g w' w''):rE B g w w'':=⟨h.b.trans h2.b,h.s.trans h2.s⟩
theorem rE.of(h:cj w.heap.size w w')(hB:B<=w.heap.size):rE B g w w':=⟨h.mono hB,h.size,fun k o _ ho _=>(h.block k (Array.getElem?_eq_some_iff.1 ho).1).trans ho⟩
theorem rE.cells(h:rE B g w w'){cs:Array cq}(hc:aa w k cs t)(hk:k≠g)(ht:t≠5):aa w' k cs t:=h.s.cells hc hk ht
theorem BW.below{l:Bs}(h:BW B w g l)(q:cj w.heap.size w w'):BW B w' g l:=by
 obtain⟨i,cs,j,f,k,v,u,r⟩:=h;exact⟨i,cs,j,f.below q f.lt,k,v,u,r.below q lz⟩
theorem BW.write{l:Bs}(h:BW B w g l)(s:E7)(x:l.length+s.size<=1000000000) :
  cJ bh 57 #[cx (aw ⟨g,0,aq⟩),al s] w fun e w'=>e=bk (dr #[ao ar s.size,.nilIface])/\BW B w' g (l++s.data.toList)/\rE B g w w':=by
 obtain⟨f,cs,i,v⟩:=h;refine (ru w s v (by rw[i];exact VU) f x).mono ?_;rintro _ w' ⟨rfl,c,j,k,p,q⟩;exact⟨rfl,⟨f,c,k.1.trans i,j⟩,p,q⟩
theorem BW.ne{l:Bs}{cs:Array cq}(h:BW B w g l)(u:aa w k cs t)(v:t≠36):k≠g:=by
 rintro rfl;obtain⟨-,Aa,-,r⟩:=h;have i:w.heap[k]?=aw (aE cs t (0,0)):=u;have f:w.heap[k]?=aw (aE Aa 36 (0,0)):=r.cells;rw[i] at f;simp only[du,mT] at f;exact v f.2.1
def jJ(ps:List E7):Bs:=ps.flatMap (fun s=>s.data.toList)
theorem OH{ps:List E7}(b:k<ps.length):jJ (ps.take (k+1))=jJ (ps.take k)++ps[k].data.toList:=by
 unfold jJ;rw[e9 b,fp];simp
theorem TF(b:List E7)(k:Nat):(jJ (b.take k)).length<=(jJ b).length:=by
 have:jJ b=jJ (b.take k)++jJ (b.drop k):=by unfold jJ;rw[<-fp,el]
 rw[this,cm];omega
theorem zJ{b:Nat}{l:Bs}(j:List E7)(h:BW B w g l)(Q:aa w b (j.map fx).toArray 9)(Y:l.length+(jJ j).length<=1000000000)(Z:j.length<=10) :
  cJ bh 29 #[cx (aw ⟨g,0,aq⟩),an (aw ⟨b,0,aq⟩) j.length j.length] w fun e w'=>e=bk (dr #[])/\BW B w' g (l++jJ j)/\rE B g w w':=by
 have Ab:=h.ne Q (by decide);have K:=Jh h Q;clear h Q;go_in;go_wp2;go_loopw [8] (fun i wr=>∃k:Nat,k<=j.length/\i=ao ar (k:Int)/\BW B wr g (l++jJ (j.take k))/\rE B g w wr) (fun i _=>j.length-(cR i).toNat)
 .exact⟨0,ck _,rfl,by rw[List.take_zero];simpa [jJ] using K.out.1,rE.refl _ _ _⟩
 obtain⟨k,X,rfl,A,x⟩:=hrel
 by_cases q:k<j.length
 .have I:=x.cells K.out.2 Ab (by decide)
  have Ac:=I.lt;have q0:=I.cell k (al j[k]) (by simp[q]);have G:=OH q;have Aa:=TF j (k+1);rw[G] at Aa
  have O:=A.write j[k] (by
   have e:(j[k].data.toList).length=j[k].size:=aM _;rw[cm] at Aa ⊢
   omega)
  have V:=Hh G;have U:=Hh x;generalize j[k]=s at *;clear I A x G Aa;go_wp2_with fail;refine O.mono ?_;rintro _ S ⟨rfl,L,D⟩;have u:Hid (BW B S g (l++jJ (j.take (k+1)))/\rE B g w S):=Hh ⟨by rw[V.out,<-ef];exact L,U.out.trans D⟩;clear O L D;go_wp2;go_roundw
  .exact⟨k+1,q,by go_num,u.out.1,u.out.2⟩
  simp[cR];omega
 .obtain rfl:k=j.length:=by omega
  rw[eR] at A;have u:=Jh A x;clear A x;go_wp2_with fail;refine gh (v:=dr #[]) (by simp[cD,Tryz.results29,go_sem]) rfl ?_;exact⟨rfl,u.out.1,u.out.2⟩
theorem Jt(h:k<=1000000000):(Lit.int ar (k:Int)).wf=true:=by
 rw[Lit.wf,Bool.and_eq_true,decide_eq_true_eq,decide_eq_true_eq];have e1:eC.i64.min = -9223372036854775808:=rfl;have b:eC.i64.max=9223372036854775807:=rfl;omega
theorem zT(l:List ae)(i:Nat):lF l i<=1:=by
 cases i with
 |zero=>exact ck _
 |succ i=>
  rw[lF];split
  .unfold Dc
   repeat' split
   all_goals omega
  .exact ck _
theorem BW.start(w:cd)(B:Nat)(hB:B<=w.heap.size):BW B (w.alloc (aE #[cx aq,an aq 0 0] 36)) w.heap.size []:=
 ⟨hB,_,rfl,aa.new _ _ _,.inl rfl,_,rfl,aI.nil⟩
theorem Hm{ind fr en:Nat}(h:k<=en):(dw row ind fr k).length<=(dw row ind fr en).length:=by
 unfold dw
 have e:((C9 row ind).take k).drop fr=(((C9 row ind).take en).drop fr).take (k-fr):=by
  rw[<-List.drop_take,List.take_take]
  congr 2
  omega
 rw[e]
 conv=>rhs;rw[<-el (k-fr) (((C9 row ind).take en).drop fr),xJ,cm]
 omega
theorem vC(w:cd)(lv:cq)(l:List ae)(d:Int)(fr en:Nat)(h:aP w lv l)(hd:0<=d/\d<=1000000)(hfe:fr<=en)(hen:en<=l.length)(hl:l.length<=1000000)(hsz:(dw l (2*d).toNat fr en).length<=500000000) :
  cJ bh 30 #[GI lv d,ao ar (fr:Nat),ao ar (en:Nat)] w fun e w'=>e=bk (al (au (dw l (2*d).toNat fr en)))/\cj w.heap.size w w':=by
 obtain⟨a,c,rfl,h1,h2,-⟩:=h.len;unfold cV at h2;have Av:cj w.heap.size w (w.alloc (aE #[an a l.length c,ao ar d] 68)):=(ba _ w).alloc lz _;have Aw:=Av.alloc (by simp) (aE #[cx aq,an aq 0 0] 36);have Ax:=(aa.new w #[an a l.length c,ao ar d] 68).alloc (aE #[cx aq,an aq 0 0] 36);have Au:=BW.start (w.alloc (aE #[an a l.length c,ao ar d] 68)) w.heap.size (by simp);simp only[cF] at Au;have H0:=Jh Aw (cE Ax Au);have HT:=Hh h;have k2:eC.i64.wrap (2*d)=2*d:=cU _ (by omega);have k3:(((2*d).toNat:Nat):Int)=2*d:=by omega
 have K3:=Hh k3;have As:=Hh hsz;clear h Av Aw Ax Au k3 hsz;go_in;go_wp2;go_loopw [8] (fun i wr=>∃k:Nat,fr<=k/\k<=en/\i=ao ar (k:Int)/\BW w.heap.size wr (w.heap.size+1) (dw l (2*d).toNat fr k)/\aa wr w.heap.size #[an a l.length c,ao ar d] 68/\cj w.heap.size w wr) (fun i _=>en-(cR i).toNat)
 .exact⟨fr,cA _,hfe,rfl,by rw[yw];exact H0.out.2.2,H0.out.2.1,H0.out.1⟩
 clear H0;obtain⟨k,A1,hk,rfl,V,Aj,hb⟩:=hrel;have HW:=Jh V (cE Aj hb);have A4:=V.lt
 by_cases hkl:k<en
 .obtain⟨b,Ab,rfl,A0,hq⟩:=gD HT.out (k:=k) (by omega)
  have hG:=DT wr _ l (HT.out.below hb lz) hl (k:Int) (Jt (by omega));rw[eL] at hG;have At:=Ho (row:=l) (ind:=(2*d).toNat) A1 (show k<l.length by omega);have Ak:=Hm (row:=l) (ind:=(2*d).toNat) (fr:=fr) (show k+1<=en by omega);have Ay:nu l (2*d).toNat k=if k=0 then (2*d).toNat else lF l k:=rfl;have Aq:=zT l k;rw[At] at Ak;have Y:=Jh At (cE Ak Ay);clear At Ak Ay hb V;have A2:=Aj.lt;obtain⟨Aa,Ad,Ac,Ae⟩:=Aj.n2 rfl;clear Aj;go_wp2_with fail;refine hG.mono ?_;rintro _ L ⟨rfl,X⟩;have M:Hid (BW w.heap.size L (w.heap.size+1) (dw l (2*d).toNat fr k)/\aa L w.heap.size #[an (aw ⟨b,Ab,aq⟩) l.length c,ao ar d] 68/\cj w.heap.size w L):=Hh ⟨HW.out.1.below X,HW.out.2.1.below X HW.out.2.1.lt,av HW.out.2.2 X⟩;have HQ:Hid (∀W,cj w.heap.size w W->W.cell? ⟨b,Ab+k*3+1,aq⟩=aw (al l[k].text)):=Hh fun W V=>(hq W V).2.1;have q1:=HQ.out L M.out.2.2;have Ao:b<L.heap.size:=cT A0 M.out.2.2.size;have i1:(0:Int)<=(k:Int):=by omega
  have i2:(k:Int)<(l.length:Int):=by omega
  have Aj:=M.out.2.1;have A2:=Aj.lt;have Al:Hid (kG l[k]=l[k].text.data.toList):=Hh rfl;generalize l[k].text=H at *;clear hG X hq Aa Ac Ad Ae HW;obtain⟨Aa,Ad,Ac,Ae⟩:=Aj.n2 rfl;clear Aj
  by_cases E:k=0
  .have e0:((k:Int)==0)=true:=by simpa using E
   obtain⟨n,hn⟩:=exq ((2*d).toNat);have Aq:n<=2000000:=by omega
   have k4:eC.i64.wrap (2*d)=(n:Int):=by rw[k2];omega
   have Z:Hid (nu l (2*d).toNat k=n):=Hh (by rw[Y.out.2.2,E4 E,hn]);clear hn E k2;go_wp2_with fail;have Ag:=fun W=>JI n W (by omega);have Am:Hid ((O0 n).data.toList=iR n/\(O0 n).size=n):=Hh ⟨rfl,Ap n⟩;generalize O0 n=U at *;have An:=Hh q1
   have H5:Hid (∀W,cj L.drew.heap.size L.drew W->BW w.heap.size W (w.heap.size+1) (dw l (2*d).toNat fr k)/\aa W w.heap.size #[an (aw ⟨b,Ab,aq⟩) l.length c,ao ar d] 68/\cj w.heap.size w W/\W.cell? ⟨b,Ab+k*3+1,aq⟩=aw (al H)):=
    Hh fun W V=>by
     have Ai:cj L.heap.size L W:=((ba _ L).drew).trans V;exact⟨M.out.1.below Ai,M.out.2.1.below Ai M.out.2.1.lt,av M.out.2.2 Ai,(Ai.cell (p:=⟨b,Ab+k*3+1,aq⟩) Ao).trans An.out⟩
   have Af:∀W,BW w.heap.size W (w.heap.size+1) (dw l (2*d).toNat fr k)/\aa W w.heap.size #[an (aw ⟨b,Ab,aq⟩) l.length c,ao ar d] 68/\cj w.heap.size w W/\W.cell? ⟨b,Ab+k*3+1,aq⟩=aw (al H)->
     cJ bh 29 #[cx (aw ⟨w.heap.size+1,0,aq⟩),an (aw ⟨W.heap.size,0,aq⟩) 2 2] (W.alloc (aE #[al U,al H] 9)) fun e w'=>e=bk (dr #[])/\BW w.heap.size w' (w.heap.size+1) (dw l (2*d).toNat fr (k+1))/\aa w' w.heap.size #[an (aw ⟨b,Ab,aq⟩) l.length c,ao ar d] 68/\cj w.heap.size w w':=fun W ⟨g1,g2,g3,g4⟩=>by
    have hA:cj W.heap.size W (W.alloc (aE #[al U,al H] 9)):=(ba _ W).alloc lz _;have Ah:jJ [U,H]=iR n++H.data.toList:=by simp[jJ,Am.out.1]
    have Ak:=Y.out.2.1;have hsz:=As.out;rw[Z.out] at Ak;refine (zJ [U,H] (g1.below hA) (aa.new W #[al U,al H] 9) (by rw[Ah];rw[Al.out,cm] at Ak;omega) (by simp)).mono ?_;rintro _ w' ⟨rfl,h5,K⟩;refine⟨rfl,?_,K.cells (g2.below hA g2.lt) (by omega) (by decide),(g3.trans (hA.mono g3.size)).trans K.b⟩;rw[Y.out.1,Z.out,Al.out,<-Ah];exact h5
   clear Aq
   go_region_held3 (fun w'=>w'.cell? ⟨w.heap.size,0,aq⟩=aw (an (aw ⟨b,Ab,aq⟩) l.length c)/\w'.cell? ⟨b,Ab+k*3+1,aq⟩=aw (al H)) (first|(with_reducible exact⟨Aa,q1⟩)|(with_reducible exact⟨g60,g61⟩)|(with_reducible exact⟨g50,g51⟩)|go_keep) (first
    |(go_at_call 29;(refine (Af _ hx5).mono ?_);rintro _ w6 ⟨rfl,K⟩;have g60:=K.2.1.cell 0 _ rfl;have g61:=HQ.out w6 K.2.2)
    |(go_at_call 55;(with_reducible refine (Ag _).mono ?_);rintro _ w5 ⟨rfl,O⟩;have hx5:=H5.out w5 O;have g50:=hx5.2.1.cell 0 _ rfl;have g51:=hx5.2.2.2;have A3:=hx5.2.1.lt))
   all_goals
    have Ar:=Hh K;clear K H5 Af Ag Am An M Al Z Y q1 Aa Ac Ad Ae;go_wp2;go_roundw
    .exact⟨k+1,by omega,hkl,by go_num,Ar.out⟩
    simp[cR];omega
  .have e0:((k:Int)==0)=false:=by simpa using E
   obtain⟨n,hn⟩:=exq (lF l k);rw[<-hn] at Aq ⊢;have Z:Hid (nu l (2*d).toNat k=n):=Hh (by rw[Y.out.2.2,E6 E,hn]);clear hn E;go_wp2_with fail;have Ag:=fun W=>JI n W (by omega);have Am:Hid ((O0 n).data.toList=iR n/\(O0 n).size=n):=Hh ⟨rfl,Ap n⟩;generalize O0 n=U at *;have An:=Hh q1
   have H5:Hid (∀W,cj L.drew.heap.size L.drew W->BW w.heap.size W (w.heap.size+1) (dw l (2*d).toNat fr k)/\aa W w.heap.size #[an (aw ⟨b,Ab,aq⟩) l.length c,ao ar d] 68/\cj w.heap.size w W/\W.cell? ⟨b,Ab+k*3+1,aq⟩=aw (al H)):=
    Hh fun W V=>by
     have Ai:cj L.heap.size L W:=((ba _ L).drew).trans V;exact⟨M.out.1.below Ai,M.out.2.1.below Ai M.out.2.1.lt,av M.out.2.2 Ai,(Ai.cell (p:=⟨b,Ab+k*3+1,aq⟩) Ao).trans An.out⟩
   have Af:∀W,BW w.heap.size W (w.heap.size+1) (dw l (2*d).toNat fr k)/\aa W w.heap.size #[an (aw ⟨b,Ab,aq⟩) l.length c,ao ar d] 68/\cj w.heap.size w W/\W.cell? ⟨b,Ab+k*3+1,aq⟩=aw (al H)->
     cJ bh 29 #[cx (aw ⟨w.heap.size+1,0,aq⟩),an (aw ⟨W.heap.size,0,aq⟩) 2 2] (W.alloc (aE #[al U,al H] 9)) fun e w'=>e=bk (dr #[])/\BW w.heap.size w' (w.heap.size+1) (dw l (2*d).toNat fr (k+1))/\aa w' w.heap.size #[an (aw ⟨b,Ab,aq⟩) l.length c,ao ar d] 68/\cj w.heap.size w w':=fun W ⟨g1,g2,g3,g4⟩=>by
    have hA:cj W.heap.size W (W.alloc (aE #[al U,al H] 9)):=(ba _ W).alloc lz _;have Ah:jJ [U,H]=iR n++H.data.toList:=by simp[jJ,Am.out.1]
    have Ak:=Y.out.2.1;have hsz:=As.out;rw[Z.out] at Ak;refine (zJ [U,H] (g1.below hA) (aa.new W #[al U,al H] 9) (by rw[Ah];rw[Al.out,cm] at Ak;omega) (by simp)).mono ?_;rintro _ w' ⟨rfl,h5,K⟩;refine⟨rfl,?_,K.cells (g2.below hA g2.lt) (by omega) (by decide),(g3.trans (hA.mono g3.size)).trans K.b⟩;rw[Y.out.1,Z.out,Al.out,<-Ah];exact h5
   clear Aq
   go_region_held3 (fun w'=>w'.cell? ⟨w.heap.size,0,aq⟩=aw (an (aw ⟨b,Ab,aq⟩) l.length c)/\w'.cell? ⟨b,Ab+k*3+1,aq⟩=aw (al H)) (first|(with_reducible exact⟨Aa,q1⟩)|(with_reducible exact⟨g60,g61⟩)|(with_reducible exact⟨g50,g51⟩)|go_keep) (first
    |(go_at_call 29;(refine (Af _ hx5).mono ?_);rintro _ w6 ⟨rfl,K⟩;have g60:=K.2.1.cell 0 _ rfl;have g61:=HQ.out w6 K.2.2)
    |(go_at_call 55;(with_reducible refine (Ag _).mono ?_);rintro _ w5 ⟨rfl,O⟩;have hx5:=H5.out w5 O;have g50:=hx5.2.1.cell 0 _ rfl;have g51:=hx5.2.2.2;have A3:=hx5.2.1.lt))
   all_goals
    have Ar:=Hh K;clear K H5 Af Ag Am An M Al Z Y q1 Aa Ac Ad Ae;go_wp2;go_roundw
    .exact⟨k+1,by omega,hkl,by go_num,Ar.out⟩
    simp[cR];omega
 .obtain rfl:k=en:=by omega
  obtain⟨-,cs,h2,hB⟩:=HW.out.1;have hS:=wm wr hB (by omega) (by have:=As.out;omega);have HB:=Hh hb;clear hB V Aj hb;go_wp2_with fail;refine hS.mono ?_;rintro _ w5 ⟨rfl,O,-⟩;have Az:=Hh (HB.out.trans O);clear hS O;go_wp2;go_ret;exact⟨rfl,Az.out⟩
structure nI where
 x:bX
 cs:List cq
 iv:cq
variable{C:List nI}{c:nI}
def Dm(B g:Nat)(rb:Option Nat)(v:cq)(C:List nI)(b:Nat):Prop:=B<=b/\b≠g/\rb≠aw b/\v.ownBlock≠aw b/\∀c∈C,c.iv.ownBlock≠aw b
def lX(P:Nat->Prop)(B:Nat)(w:cd)(c:nI):Prop:=
 ∃(b:Bool) (n:E7) (e:iA) (ls:List E7) (vo vt:E7) (vk lv:cq) (L:List (bX×List cq)),c.x=.mk b n e ls (L.map (·.1))/\c.cs=[cG b,al n,al vo,al vt,vk,lv,c.iv]/\
  af P w e [al vo,al vt,vk]/\oC P w lv ls/\w.ownsRow B 48 7 c.iv L.length (L.flatMap (·.2))/\∀s∈L,aX P w s.1 s.2
structure VJ(g:Nat)(rb:Option Nat)(v:cq)(C:List nI):Prop where
 vg:v.ownBlock≠aw g
 vr:∀b,v.ownBlock=aw b->rb≠aw b
 rg:rb≠aw g
 one:∀c∈C,∀b,c.iv.ownBlock=aw b->v.ownBlock≠aw b/\b≠g/\rb≠aw b
 two:C.Pairwise (fun c d=>∀b,c.iv.ownBlock=aw b->d.iv.ownBlock≠aw b)
structure pK(B g:Nat)(rb:Option Nat)(w:cd)(v:cq)(C:List nI):Prop where
 gl:g<w.heap.size
 rl:∀b,rb=aw b->b<w.heap.size
 row:w.ownsRow B 48 7 v C.length (C.flatMap (·.cs))
 apart:VJ g rb v C
 all:∀c∈C,lX (Dm B g rb v C) B w c
def VZ(B g:Nat)(rb:Option Nat)(w:cd)(v:cq)(st:List bX):Prop:=∃C,st=C.map (·.x)/\pK B g rb w v C
theorem cZ{size:Nat}(h:w.ownsRow base e size v n xs)(o:∀k,v.ownBlock=aw k->w'.heap[k]?=w.heap[k]?):w'.ownsRow base e size v n xs:=by
 obtain⟨i,b⟩:=h;refine⟨i,?_⟩;rcases b with b|⟨g,cap,a,rfl,f,j,r⟩
 .exact .inl b
 .exact .inr ⟨g,cap,a,rfl,f,by rw[o g rfl];exact j,r⟩
theorem lX.move(j:w.heap.size<=w'.heap.size)(a:∀k,P k->k<w.heap.size->w'.heap[k]?=w.heap[k]?)(g:∀k,P k->k<w.heap.size->Q k)(hi:∀k,c.iv.ownBlock=aw k->w'.heap[k]?=w.heap[k]?)(h:lX P B w c):lX Q B w' c:=by
 obtain⟨b,n,e,C,E,F,D,lv,L,l,r,u,x,z,A⟩:=h;exact⟨b,n,e,C,E,F,D,lv,L,l,r,af.move j a g e _ u,x.move j a g,cZ z hi,fun s hm=>aX.move j a g _ _ (A s hm)⟩
theorem P8(C:w.ownsRow base e 7 v n xs)(D:w.ownsRow base e 7 v m ys):n=m/\xs=ys:=by
 obtain⟨k,q⟩:=C;obtain⟨u,j⟩:=D;rcases q with ⟨rfl,rfl⟩|⟨g,cap,x,rfl,-,A,-,-,-,r⟩
 .rcases j with ⟨-,rfl⟩|⟨z,b,c,f,-⟩
  .exact⟨rfl,(cC (by simpa using k)).trans (cC (by simpa using u)).symm⟩
  .cases f
 .rcases j with ⟨f,-⟩|⟨z,b,c,f,-,i,-,-,-,B⟩
  .cases f
  .cases f
   rw[A] at i;cases i
   exact⟨rfl,r.symm.trans B⟩
theorem lX.len(h:lX P B w c):c.cs.length=7:=by
 obtain⟨b,n,e,g,j,q,i,lv,L,f,a,-⟩:=h;rw[a];rfl
theorem lX.cell6(h:lX P B w c):c.cs[6]?=aw c.iv:=by
 obtain⟨b,n,e,g,j,q,i,lv,L,f,a,-⟩:=h;rw[a];rfl
theorem pK.lt(h:pK B g rb w v C){b:Nat}(a:v.ownBlock=aw b\/∃c∈C,c.iv.ownBlock=aw b):B<=b/\b<w.heap.size:=by
 rcases a with a|⟨c,i,a⟩
 .exact cy h.row b a
 .obtain⟨_,_,_,_,_,_,_,_,_,-,-,-,-,f,-⟩:=h.all c i
  exact cy f b a
theorem pK.keep{rb':Option Nat}(h:pK B g rb w v C)(z:w.heap.size<=w'.heap.size)(j:∀b,b<w.heap.size->b≠g->rb≠aw b->w'.heap[b]?=w.heap[b]?)(x:∀b,rb'=aw b->(rb=aw b\/w.heap.size<=b)/\b<w'.heap.size):pK B g rb' w' v C:=by
 have Aa:∀b,b<w.heap.size->rb≠aw b->rb'≠aw b:=fun b hl hn e=>(x b e).1.elim hn (fun q=>by omega);refine⟨cT h.gl z,fun b e=>(x b e).2,cZ h.row (fun k e=>j k (h.lt (.inl e)).2 (fun q=>h.apart.vg (by rw[e,q])) (h.apart.vr k e)),⟨h.apart.vg,fun b e=>Aa b (h.lt (.inl e)).2 (h.apart.vr b e),Aa g h.gl h.apart.rg,fun c hc b e=>?_,h.apart.two⟩,fun c hc=>?_⟩
 .obtain⟨u,f,i⟩:=h.apart.one c hc b e
  exact⟨u,f,Aa b (h.lt (.inr ⟨c,hc,e⟩)).2 i⟩
 .refine (h.all c hc).move z (fun k hP hl=>j k hl hP.2.1 hP.2.2.1) (fun k hP hl=>⟨hP.1,hP.2.1,Aa k hl hP.2.2.1,hP.2.2.2⟩) (fun k e=>?_)
  obtain⟨u,f,i⟩:=h.apart.one c hc k e;exact j k (h.lt (.inr ⟨c,hc,e⟩)).2 f i
theorem mQ:∀(C:List nI),(∀c∈C,c.cs.length=7)->(C.flatMap (·.cs)).length=C.length*7
 |[],_=>rfl
 | c::r,h=>by
  have h1:=h c (by simp);have h2:=mQ r (fun d hd=>h d (by simp[hd]));simp only[fb,cm,bc,h1,h2];omega
theorem IM(C:List nI)(c:nI)(h:∀d∈C,d.cs.length=7)(j:Nat):((C++[c]).flatMap (·.cs))[C.length*7+j]?=c.cs[j]?:=by
 rw[fp,eK (by rw[mQ C h];omega),mQ C h,show C.length*7+j-C.length*7=j by omega];simp
theorem Q4(C:List nI)(c:nI)(h:∀d∈C,d.cs.length=7)(j:Nat)(u iv:cq)(x:bX):((C++[c]).flatMap (·.cs)).set (C.length*7+j) u=(C++[nI.mk x (c.cs.set j u) iv]).flatMap (·.cs):=by
 rw[fp,fp,List.set_append_right _ _ (by rw[mQ C h];omega),mQ C h,show C.length*7+j-C.length*7=j by omega];simp
theorem pK.add{cap2:Nat}{ts:List cq}(h:pK B g rb w v (C++[c]))(Y:aX (Dm B g rb v (C++[c])) w x xs)(W:w.ownsRow B 48 7 c.iv k ts)(V:w'.ownsRow B 48 7 (an (aw ⟨g2,0,aq⟩) (k+1) cap2) (k+1) (ts++xs))(i:w'.ownsRow B 48 7 v (C.length+1) (((C++[c]).flatMap (·.cs)).set (C.length*7+6) (an (aw ⟨g2,0,aq⟩) (k+1) cap2)))(D:c.iv.ownBlock=aw g2\/w.heap.size<=g2)(j:w.heap.size<=w'.heap.size)(G:∀b,b<w.heap.size->v.ownBlock≠aw b->c.iv.ownBlock≠aw b->w'.heap[b]?=w.heap[b]?) :
  pK B g rb w' v (C++[⟨c.x.add x,c.cs.set 6 (an (aw ⟨g2,0,aq⟩) (k+1) cap2),an (aw ⟨g2,0,aq⟩) (k+1) cap2⟩]):=by
 have F:∀d∈C,d.cs.length=7:=fun d hd=>(h.all d (by simp[hd])).len
 have z:∀b,Dm B g rb v (C++[c]) b->b<w.heap.size->Dm B g rb v (C++[⟨c.x.add x,c.cs.set 6 (an (aw ⟨g2,0,aq⟩) (k+1) cap2),an (aw ⟨g2,0,aq⟩) (k+1) cap2⟩]) b:=fun b hb hl=>by
  refine⟨hb.1,hb.2.1,hb.2.2.1,hb.2.2.2.1,fun d hd=>?_⟩;rcases cX.1 hd with hd|hd
  .exact hb.2.2.2.2 d (by simp[hd])
  .simp at hd
   subst hd;intro e;simp only[ev,du] at e;subst e;exact D.elim (fun q=>hb.2.2.2.2 c (by simp) q) (fun q=>by omega)
 have u:∀b,Dm B g rb v (C++[c]) b->b<w.heap.size->w'.heap[b]?=w.heap[b]?:=fun b hb hl=>G b hl hb.2.2.2.1 (hb.2.2.2.2 c (by simp));have Aa:=h.apart.one c (by simp);have Ab:v.ownBlock≠aw g2/\g2≠g/\rb≠aw g2\/w.heap.size<=g2:=D.imp (fun e=>Aa g2 e) id;refine⟨cT h.gl j,fun b e=>cT (h.rl b e) j,by rw[cm];rw[Q4 C c F 6 _ (an (aw ⟨g2,0,aq⟩) (k+1) cap2) (c.x.add x)] at i;exact i,⟨h.apart.vg,h.apart.vr,h.apart.rg,fun d hd b e=>?_,?_⟩,fun d hd=>?_⟩
 .rcases cX.1 hd with hd|hd
  .exact h.apart.one d (by simp[hd]) b e
  .simp at hd
   subst hd;simp only[ev,du] at e;subst e;refine Ab.elim id (fun q=>⟨fun e=>?_,fun e=>?_,fun e=>?_⟩)
   .have:=(h.lt (.inl e)).2;omega
   .have:=h.gl;omega
   .have:=h.rl _ e;omega
 .have i:=h.apart.two
  rw[sX] at i ⊢;refine⟨i.1,by simp,fun d hd d2 hd2 b e=>?_⟩;simp at hd2
  subst hd2;intro A;simp only[ev,du] at A;subst A;exact D.elim (fun q=>i.2.2 d hd c (by simp) _ e q) (fun q=>by have:=(h.lt (.inr ⟨d,by simp[hd],e⟩)).2;omega)
 .rcases cX.1 hd with hd|hd
  .refine (h.all d (by simp[hd])).move j u z (fun b e=>?_)
   have i:=h.apart.two;rw[sX] at i;exact G b (h.lt (.inr ⟨d,by simp[hd],e⟩)).2 (h.apart.one d (by simp[hd]) b e).1 (i.2.2 d hd c (by simp) b e)
  .simp at hd
   subst hd;obtain⟨E,n,e,H,T,U,S,lv,L,J,M,N,O,Q,R⟩:=h.all c (by simp);obtain⟨rfl,rfl⟩:L.length=k/\L.flatMap (·.2)=ts:=P8 Q W;refine⟨E,n,e,H,T,U,S,lv,L++[(x,xs)],?_,?_,af.move j u z e _ N,O.move j u z,by simpa using V,fun s hm=>?_⟩
   .rw[J];simp[bX.add]
   .rw[M];rfl
   .rcases cX.1 hm with hm|hm
    .exact aX.move j u z _ _ (R s hm)
    .simp at hm
     subst hm;exact aX.move j u z _ _ Y
abbrev kE:=Option Addr×Nat×Nat
def dS(s:kE):cq:=an s.1 s.2.1 s.2.2
def qb(d:kE×aK):List cq:=[dS d.1,ao ar d.2.lo,ao ar d.2.hi,ao ar d.2.dep]
theorem Tryz.infoRowL:(Tryz.prog.info? 78).map (fun i=>(i.zero,i.size,i.bytes))=aw (aw (ew #[an aq 0 0,ao ar 0,ao ar 0,ao ar 0]),4,48):=by kernel_rfl
theorem EZ(h:w.ownsRow base E sz v n xs):∀k,v.ownBlock=aw k->∃cs,w.heap[k]?=aw (aE cs E (0,0)):=by
 intro k b;rcases h.2 with ⟨rfl,-⟩|⟨g,cap,a,rfl,-,c,-⟩
 .cases b
 .cases b;exact⟨a,c⟩
theorem dU{cs:Array cq}(h:w.ownsRow base E sz v n xs)(r:aa w g cs t)(u:E≠t):∀k,v.ownBlock=aw k->k≠g:=by
 rintro k i rfl;obtain⟨Aa,f⟩:=EZ h k i;have b:w.heap[k]?=aw (aE cs t (0,0)):=r;rw[f] at b;simp only[du,mT] at b;exact u b.2.1
theorem nz{base2 n2 sz2:Nat}{u:cq}(h:w.ownsRow base E sz v n xs)(i:w.ownsRow base2 t sz2 u n2 ys)(l:E≠t):∀k,v.ownBlock=aw k->u.ownBlock≠aw k:=by
 intro k g c;obtain⟨cs,f⟩:=EZ h k g;obtain⟨Aa,b⟩:=EZ i k c;rw[f] at b;simp only[du,mT] at b;exact l b.2.1
structure uK(B gr go gl:Nat)(w:cd)(lv:cq)(D:List (kE×aK))(cur:kE)(toks:List ae)(fr hi dp o:Int):Prop where
 r:aa w gr #[dS cur,ao ar fr,ao ar hi,ao ar dp] 78
 o:aa w go #[ao ar o] 3
 l:aa w gl #[lv] 75
 own:w.ownsRow B 78 4 lv D.length (D.flatMap qb)
 lg:lv.ownBlock≠aw gr
 tk:aS B w (dS cur) toks
 fin:∀d∈D,aS B w (dS d.1) d.2.toks/\∀k,(dS d.1).ownBlock=aw k->(dS cur).ownBlock≠aw k
 le:B<=gr/\B<=go/\B<=gl
section
variable {B gr go gl:Nat} {w w':cd} {lv:cq} {D:List (kE×aK)} {cur:kE} {toks:List ae} {fr hi dp o:Int}
theorem wT{v:Value}{l:List ae}(h:aS B w v l):∀k,v.ownBlock=aw k->k<w.heap.size:=fun k hk=>(cy h k hk).2
theorem uK.moved(h:uK B gr go gl w lv D cur toks fr hi dp o)(c:∀k,k<w.heap.size->k≠gr->k≠go->k≠gl->w'.heap[k]?=w.heap[k]?){fr' hi' dp' o':Int}(u:aa w' gr #[dS cur,ao ar fr',ao ar hi',ao ar dp'] 78)(j:aa w' go #[ao ar o'] 3)(f:aa w' gl #[lv] 75):uK B gr go gl w' lv D cur toks fr' hi' dp' o':=by
 have b:∀v l,aS B w v l->aS B w' v l:=fun v l hv=>hv.moved fun k e=>c k (wT hv k e) (dU hv h.r (by decide) k e) (dU hv h.o (by decide) k e) (dU hv h.l (by decide) k e);refine⟨u,j,f,cZ h.own (fun k e=>c k (cy h.own k e).2 (fun q=>h.lg (by rw[e,q])) (dU h.own h.o (by decide) k e) (dU h.own h.l (by decide) k e)),h.lg,b _ _ h.tk,fun d hd=>⟨b _ _ (h.fin d hd).1,(h.fin d hd).2⟩,h.le⟩
theorem uK.below(h:uK B gr go gl w lv D cur toks fr hi dp o)(hb:cj w.heap.size w w'):uK B gr go gl w' lv D cur toks fr hi dp o:=
 h.moved (fun k hk _ _ _=>hb.block k hk) (h.r.below hb h.r.lt) (h.o.below hb h.o.lt) (h.l.below hb h.l.lt)
theorem uK.ne(h:uK B gr go gl w lv D cur toks fr hi dp o):gr≠go/\gr≠gl/\go≠gl:=by
 have c:∀{g g2:Nat} {cs cs2:Array cq} {t t2:TypeId},aa w g cs t->aa w g2 cs2 t2->t≠t2->g≠g2:=by
  rintro g g2 cs cs2 t t2 f k u rfl;have Ab:w.heap[g]?=aw (aE cs t (0,0)):=f;have Aa:w.heap[g]?=aw (aE cs2 t2 (0,0)):=k;rw[Ab] at Aa;simp only[du,mT] at Aa;exact u Aa.2.1
 exact⟨c h.r h.o (by decide),c h.r h.l (by decide),c h.o h.l (by decide)⟩
theorem uK.setHi(h:uK B gr go gl w lv D cur toks fr hi dp o)(x:Int):uK B gr go gl (w.setCell ⟨gr,2,aq⟩ (ao ar x)) lv D cur toks fr x dp o:=by
 obtain⟨n1,n2,n3⟩:=h.ne;exact h.moved (fun k _ hk _ _=>ds _ _ _ _ hk) (h.r.set 2 (by simp) (ao ar x)) (h.o.setOther _ _ n1) (h.l.setOther _ _ n2)
theorem uK.setDp(h:uK B gr go gl w lv D cur toks fr hi dp o)(x:Int):uK B gr go gl (w.setCell ⟨gr,3,aq⟩ (ao ar x)) lv D cur toks fr hi x o:=by
 obtain⟨n1,n2,n3⟩:=h.ne;exact h.moved (fun k _ hk _ _=>ds _ _ _ _ hk) (h.r.set 3 (by simp) (ao ar x)) (h.o.setOther _ _ n1) (h.l.setOther _ _ n2)
theorem uK.setO(h:uK B gr go gl w lv D cur toks fr hi dp o)(x:Int):uK B gr go gl (w.setCell ⟨go,0,aq⟩ (ao ar x)) lv D cur toks fr hi dp x:=by
 obtain⟨n1,n2,n3⟩:=h.ne;exact h.moved (fun k _ _ hk _=>ds _ _ _ _ hk) (h.r.setOther _ _ n1.symm) (h.o.set 0 (by simp) (ao ar x)) (h.l.setOther _ _ n3)
theorem iG{w:World}{ops:Array Oper}{rest:List Oper}{p:Oper}{a:Act}{Q:Exit->Act->cd->Prop}(C:p.guard=aq)(s x:Operand)(F:p.op=.call { callee:=.builtin .append,args:=#[s,x],argTypes:=#[75,75] })(B:Nat)(lv:cq)(D:List (kE×aK))(d:kE×aK)(N:a.eval s=lv)(A:w.ownsRow B 78 4 lv D.length (D.flatMap qb))(g:Nat)(O:a.eval x=an (aw ⟨g,0,aq⟩) 1 1)(M:aa w g #[dS d.1,ao ar d.2.lo,ao ar d.2.hi,ao ar d.2.dep] 78)(P:D.length<=1000000)(q:B<=w.heap.size)(H:Nat)(I:w.heap.size=H)(J:∀g2 c2 w',w'.ownsRow B 78 4 (an (aw ⟨g2,0,aq⟩) (D.length+1) c2) (D.length+1) (D.flatMap qb++qb d)->w.grownBy w' lv.ownBlock->(lv.ownBlock=aw g2\/g2=H)->g2<w'.heap.size->
   wpList bh ops Q rest (a.put p.dst (an (aw ⟨g2,0,aq⟩) (D.length+1) c2)) w'):wpList bh ops Q (p::rest) a w:=by
 obtain⟨i,Aa,Ab,Ac,Ad⟩:=info_parts Tryz.infoRowL;refine wpList_append_lies w C s x 75 F B 78 i _ 4 48 Tryz.underlying75 Aa Ab Ac Ad rfl (by decide) lv D.length (D.flatMap qb) N A ⟨g,0,aq⟩ 1 1 (qb d) O rfl ?_ ?_ (by omega) (by unfold cV;omega) (by omega) q H I J
 .intro j u f
  rw[iS,df];exact M.cell _ _ (by simpa [qb] using f)
 .intro u f
  simp only[qb,cL,List.not_mem_nil,or_false] at f;rcases f with rfl|rfl|rfl|rfl<;>rfl
theorem uK.cur_fresh(h:uK B gr go gl w lv D cur toks fr hi dp o):∀k,(dS cur).ownBlock=aw k->k<w.heap.size/\k≠gr/\k≠go/\k≠gl/\lv.ownBlock≠aw k:=fun k e=>
 ⟨wT h.tk k e,dU h.tk h.r (by decide) k e,dU h.tk h.o (by decide) k e,dU h.tk h.l (by decide) k e,nz h.tk h.own (by decide) k e⟩
theorem Ox(D:List (kE×aK))(x:kE×aK):(D++[x]).flatMap qb=D.flatMap qb++qb x:=by simp
theorem uK.push{g2:Nat}(h:uK B gr go gl w lv D cur toks fr hi dp o){c2:Nat}(A:w.grownBy w' lv.ownBlock)(j:w'.ownsRow B 78 4 (an (aw ⟨g2,0,aq⟩) (D.length+1) c2) (D.length+1) (D.flatMap qb++qb (cur,⟨toks,fr,hi,dp⟩)))(F:lv.ownBlock=aw g2\/w.heap.size<=g2)(x:Int) :
  uK B gr go gl (((((w'.setCell ⟨gl,0,aq⟩ (an (aw ⟨g2,0,aq⟩) (D.length+1) c2)).setCell ⟨gr,0,aq⟩ (an aq 0 0)).setCell ⟨gr,1,aq⟩ (ao ar x)).setCell ⟨gr,2,aq⟩ (ao ar 0)).setCell ⟨gr,3,aq⟩ (ao ar 0))
   (an (aw ⟨g2,0,aq⟩) (D.length+1) c2) (D++[(cur,⟨toks,fr,hi,dp⟩)]) (aq,0,0) [] x 0 0 o:=by
 obtain⟨n1,n2,n3⟩:=h.ne;have Ab:lv.ownBlock≠aw gr:=h.lg;have Ae:aa w' gr _ _:=h.r.kept A (fun e=>Ab e.symm);have Ad:aa w' go _ _:=h.o.kept A (fun e=>dU h.own h.o (by decide) go e.symm rfl);have Ac:aa w' gl _ _:=h.l.kept A (fun e=>dU h.own h.l (by decide) gl e.symm rfl)
 have Aa:g2≠gr:=by
  rcases F with e|e
  .rintro rfl;exact Ab e
  .have:=h.r.lt;omega
 have C:∀v l,aS B w v l->aS B (((((w'.setCell ⟨gl,0,aq⟩ (an (aw ⟨g2,0,aq⟩) (D.length+1) c2)).setCell ⟨gr,0,aq⟩ (an aq 0 0)).setCell ⟨gr,1,aq⟩ (ao ar x)).setCell ⟨gr,2,aq⟩ (ao ar 0)).setCell ⟨gr,3,aq⟩ (ao ar 0)) v l:=fun v l hv=>
  hv.moved fun k e=>by
   have e1:k≠gr:=dU hv h.r (by decide) k e;have u:k≠gl:=dU hv h.l (by decide) k e;have E:=nz hv h.own (by decide) k e;rw[ds _ _ _ _ (by exact e1),ds _ _ _ _ (by exact e1),ds _ _ _ _ (by exact e1),ds _ _ _ _ (by exact e1),ds _ _ _ _ (by exact u)];exact A.block k (wT hv k e) (fun q=>E q.symm)
 have G:=(Ae.setOther ⟨gl,0,aq⟩ (an (aw ⟨g2,0,aq⟩) (D.length+1) c2) (by exact n2.symm));refine⟨(((G.set 0 (by simp) (an aq 0 0)).set 1 (by simp) (ao ar x)).set 2 (by simp) (ao ar 0)).set 3 (by simp) (ao ar 0),?_,?_,?_,?_,aS.nil,?_,h.le⟩
 .exact ((((Ad.setOther _ _ n3.symm).setOther _ _ n1).setOther _ _ n1).setOther _ _ n1).setOther _ _ n1
 .exact ((((Ac.set 0 (by simp) _).setOther _ _ n2).setOther _ _ n2).setOther _ _ n2).setOther _ _ n2
 .rw[Ox,cm,eh]
  refine cZ j (fun k e=>?_);cases e
  have u:g2≠gl:=dU j Ac (by decide) g2 rfl;rw[ds _ _ _ _ (by exact Aa),ds _ _ _ _ (by exact Aa),ds _ _ _ _ (by exact Aa),ds _ _ _ _ (by exact Aa),ds _ _ _ _ (by exact u)]
 .intro e
  exact Aa (by simpa [ev] using e)
 .intro d f
  rcases cX.1 f with f|f
  .exact⟨C _ _ (h.fin d f).1,fun k _ e=>by cases e⟩
  .rw[de.1 f]
   exact⟨C _ _ h.tk,fun k _ e=>by cases e⟩
theorem uK.tok{cap:Nat}(h:uK B gr go gl w lv D cur toks fr hi dp o){t:ae}{gb:Nat}(z:w.grownBy w' (dS cur).ownBlock)(j:aS B w' (an (aw ⟨gb,0,aq⟩) (toks.length+1) cap) (toks++[t]))(f:(dS cur).ownBlock=aw gb\/w.heap.size<=gb) :
  uK B gr go gl (w'.setCell ⟨gr,0,aq⟩ (an (aw ⟨gb,0,aq⟩) (toks.length+1) cap)) lv D (aw ⟨gb,0,aq⟩,toks.length+1,cap) (toks++[t]) fr hi dp o:=by
 obtain⟨n1,n2,n3⟩:=h.ne;have x:=h.cur_fresh;have Aa:aa w' gr _ _:=h.r.kept z (fun e=>(x gr e.symm).2.1 rfl);have Ad:aa w' go _ _:=h.o.kept z (fun e=>(x go e.symm).2.2.1 rfl);have Ac:aa w' gl _ _:=h.l.kept z (fun e=>(x gl e.symm).2.2.2.1 rfl);have Ab:gb≠gr:=dU j Aa (by decide) gb rfl;refine⟨Aa.set 0 (by simp) _,Ad.setOther _ _ n1,Ac.setOther _ _ n2,?_,h.lg,?_,?_,h.le⟩
 .refine cZ h.own (fun k e=>?_)
  rw[ds _ _ _ _ (by intro q;exact h.lg (by rw[e];exact congrArg aw q))];exact z.block k (cy h.own k e).2 (fun q=>(x k q.symm).2.2.2.2 e)
 .refine j.moved (fun k e=>?_)
  cases e
  exact ds _ _ _ _ (by exact Ab)
 .intro d C
  obtain⟨u,A⟩:=h.fin d C;refine⟨u.moved fun k e=>?_,fun k e q=>?_⟩
  .rw[ds _ _ _ _ (by exact dU u h.r (by decide) k e)]
   exact z.block k (wT u k e) (fun q=>A k e q.symm)
  .have q:gb=k:=by simpa [dS,ev] using q
   subst q;rcases f with f|f
   .exact A _ e f
   .have:=wT u _ e;omega
end
def We(B gr go gl:Nat)(D:List (kE×aK))(o:Int)(x:Int)(w:cd)(e:Ending)(w':cd):Prop:=
 e=bk (dr #[])/\(∃lv,uK B gr go gl w' lv D (aq,0,0) [] (x+1) 0 0 o)/\cj B w w'
theorem yS{gr go gl:Nat}{D:List (kE×aK)}{cur:kE}{toks:List ae}{fr hi dp o:Int}(h:uK B gr go gl w lv D cur toks fr hi dp o)(x:Int)(hx : -1<=x/\x<=1000000000)(I : -1000000<=o/\o<=1000000)(hD:D.length<=1000000)(hT:toks.length<=1000000) :
  cJ bh 59 #[ao ar x,cx (aw ⟨gr,0,aq⟩),cx (aw ⟨go,0,aq⟩),cx (aw ⟨gl,0,aq⟩)] w (We B gr go gl (D++[(cur,mo o toks fr x)]) (dn o toks) x w):=by
 have Ar:B<=w.heap.size:=by have:=h.le;have:=h.r.lt;omega
 have h1:=h.setHi x;have b1:cj B w (w.setCell ⟨gr,2,aq⟩ (ao ar x)):=(ba _ _).setCell (by exact h.le.1) _;have Ap:=qP _ _ toks fr x dp h1.tk.toks hT;obtain⟨n1,n2,n3⟩:=h.ne;have As:=n1.symm;have At:=n2.symm;have Au:=n3.symm;have k1:eC.i64.wrap (o-1)=o-1:=cU _ (by omega);have k2:eC.i64.wrap (o+1)=o+1:=cU _ (by omega);have k3:eC.i64.wrap (o-1+1)=o:=by rw[cU _ (by omega)];omega
 have k4:eC.i64.wrap (x+1)=x+1:=cU _ (by omega);obtain⟨a,n,c⟩:=cur
 have Aq:lW toks=true/\eB o toks=o-1\/lW toks=false/\eB o toks=o:=by
  unfold eB;cases lW toks
  .exact .inr ⟨rfl,rfl⟩
  .exact .inl ⟨rfl,rfl⟩
 have Ao:jy toks=true/\dn o toks=eB o toks+1\/jy toks=false/\dn o toks=eB o toks:=by
  unfold dn;cases jy toks
  .exact .inr ⟨rfl,rfl⟩
  .exact .inl ⟨rfl,rfl⟩
 unfold mo;have H1:=Jh h1 b1;have F:=h.r;have I:=h.o;have C:=h.l;have Z:=F.lt;have lo:=I.lt;have Y:=C.lt;obtain⟨Aa,Ag,Ad,Ah,Ae,Ai,Af,Aj⟩:=F.n4 rfl;obtain⟨Ak,Al⟩:=I.n1 rfl;obtain⟨Ab,Ac⟩:=C.n1 rfl;clear F I C;simp only[dS] at Ap Aa;clear h h1 b1;go_in;go_wp2_with fail;refine Ap.mono ?_;rintro _ w2 ⟨rfl,hb2⟩;have H2:=Jh (H1.out.1.below hb2) (H1.out.2.trans (hb2.mono (by have:=H1.out.2.size;omega)));clear Ap hb2 H1;clear Aa Ad Ae Af Ag Ah Ai Aj Ak Al Ab Ac Z lo Y;rcases Aq with ⟨X,V⟩|⟨X,V⟩
 .rw[V] at Ao
  have H3:=Jh ((H2.out.1.setO (o-1)).setDp (o-1)) ((H2.out.2.setCell (p:=⟨go,0,aq⟩) H2.out.1.le.2.1 (ao ar (o-1))).setCell (p:=⟨gr,3,aq⟩) H2.out.1.le.1 (ao ar (o-1)));have An:=oP _ _ toks fr x (o-1) H3.out.1.tk.toks hT;have HD:=Hh V;have F:=H2.out.1.r;have I:=H2.out.1.o;have C:=H2.out.1.l;have Z:=F.lt;have lo:=I.lt;have Y:=C.lt;obtain⟨Aa,Ag,Ad,Ah,Ae,Ai,Af,Aj⟩:=F.n4 rfl;obtain⟨Ak,Al⟩:=I.n1 rfl;obtain⟨Ab,Ac⟩:=C.n1 rfl;clear F I C;simp only[dS] at An Aa;rw[X];clear V X;go_wp2_with fail;refine An.mono ?_;rintro _ w4 ⟨rfl,hb4⟩;have R:=Jh (H3.out.1.below hb4) (H3.out.2.trans (hb4.mono (by have:=H3.out.2.size;omega)));clear An hb4 H3 H2;clear Aa Ad Ae Af Ag Ah Ai Aj Ak Al Ab Ac Z lo Y;rcases Ao with ⟨X,V⟩|⟨X,V⟩
  .have A:=Jh (R.out.1.setO o) (R.out.2.setCell (p:=⟨go,0,aq⟩) R.out.1.le.2.1 (ao ar o))
   have HE:Hid (eB o toks=o-1/\dn o toks=o):=Hh ⟨HD.out,by omega⟩;have F:=R.out.1.r;have I:=R.out.1.o;have C:=R.out.1.l;have Z:=F.lt;have lo:=I.lt;have Y:=C.lt;obtain⟨Aa,Ag,Ad,Ah,Ae,Ai,Af,Aj⟩:=F.n4 rfl;obtain⟨Ak,Al⟩:=I.n1 rfl;obtain⟨Ab,Ac⟩:=C.n1 rfl;clear F I C;rw[X];clear X V;go_wp2_with (with_reducible first|refine aL ?_)
   refine Stop.out ?_;refine iG rfl _ _ rfl B lv D ((a,n,c),⟨toks,fr,x,o-1⟩) rfl (by exact A.out.1.own.alloc _) w4.heap.size (by rfl) (by have q:=aa.new (w4.setCell ⟨go,0,aq⟩ (ao ar o)) #[dS (a,n,c),ao ar fr,ao ar x,ao ar (o-1)] 78;(try simp only[gj] at q);exact q) hD (by have:=A.out.1.r.lt;have:=A.out.1.le;simp only[cF,gj] at *;omega) ((w4.setCell ⟨go,0,aq⟩ (ao ar o)).heap.size+1) (by simp) ?_;intro g2 c2 w6 Q M H N;have Am:=(mS (w4.setCell ⟨go,0,aq⟩ (ao ar o)) (aE #[dS (a,n,c),ao ar fr,ao ar x,ao ar (o-1)] 78) lv.ownBlock).trans M;have HP:=Hh (A.out.1.push Am Q (H.imp id (fun q=>by omega)) (x+1));have F:=A.out.1.r.kept Am (fun e=>A.out.1.lg e.symm);have C:=A.out.1.l.kept Am (fun e=>dU A.out.1.own A.out.1.l (by decide) gl e.symm rfl);have HB:=Hh (A.out.2.grown Am (by have:=A.out.1.r.lt;have:=A.out.1.le;omega) (fun k e=>(cy A.out.1.own k e).1));have J:=Hh A.out.1.le;clear Aa Ad Ae Af Ag Ah Ai Aj Ak Al Ab Ac Z lo Y;have Z:=F.lt;have Y:=C.lt;obtain⟨Aa,Ag,Ad,Ah,Ae,Ai,Af,Aj⟩:=F.n4 rfl
   obtain⟨Ab,Ac⟩:=C.n1 rfl;clear F C Am Q M H N;go_wp2_with fail;refine gh (v:=dr #[]) (by simp[cD,yr,go_sem]) rfl ?_;rw[HE.out.1,HE.out.2];exact⟨rfl,⟨_,HP.out⟩,((((HB.out.setCell (by exact J.out.2.2) _).setCell (by exact J.out.1) _).setCell (by exact J.out.1) _).setCell (by exact J.out.1) _).setCell (by exact J.out.1) _⟩
  .have A:=R
   have HE:Hid (eB o toks=o-1/\dn o toks=o-1):=Hh ⟨HD.out,V⟩;have F:=R.out.1.r;have I:=R.out.1.o;have C:=R.out.1.l;have Z:=F.lt;have lo:=I.lt;have Y:=C.lt;obtain⟨Aa,Ag,Ad,Ah,Ae,Ai,Af,Aj⟩:=F.n4 rfl;obtain⟨Ak,Al⟩:=I.n1 rfl;obtain⟨Ab,Ac⟩:=C.n1 rfl;clear F I C;rw[X];clear X V;go_wp2_with (with_reducible first|refine aL ?_)
   refine Stop.out ?_;refine iG rfl _ _ rfl B lv D ((a,n,c),⟨toks,fr,x,o-1⟩) rfl (by exact A.out.1.own.alloc _) w4.heap.size (by rfl) (by have q:=aa.new (w4) #[dS (a,n,c),ao ar fr,ao ar x,ao ar (o-1)] 78;(try simp only[gj] at q);exact q) hD (by have:=A.out.1.r.lt;have:=A.out.1.le;simp only[cF,gj] at *;omega) ((w4).heap.size+1) (by simp) ?_;intro g2 c2 w6 Q M H N;have Am:=(mS (w4) (aE #[dS (a,n,c),ao ar fr,ao ar x,ao ar (o-1)] 78) lv.ownBlock).trans M;have HP:=Hh (A.out.1.push Am Q (H.imp id (fun q=>by omega)) (x+1));have F:=A.out.1.r.kept Am (fun e=>A.out.1.lg e.symm);have C:=A.out.1.l.kept Am (fun e=>dU A.out.1.own A.out.1.l (by decide) gl e.symm rfl);have HB:=Hh (A.out.2.grown Am (by have:=A.out.1.r.lt;have:=A.out.1.le;omega) (fun k e=>(cy A.out.1.own k e).1));have J:=Hh A.out.1.le;clear Aa Ad Ae Af Ag Ah Ai Aj Ak Al Ab Ac Z lo Y;have Z:=F.lt;have Y:=C.lt;obtain⟨Aa,Ag,Ad,Ah,Ae,Ai,Af,Aj⟩:=F.n4 rfl;obtain⟨Ab,Ac⟩:=C.n1 rfl;clear F C Am Q M H N;go_wp2_with fail
   refine gh (v:=dr #[]) (by simp[cD,yr,go_sem]) rfl ?_;rw[HE.out.1,HE.out.2];exact⟨rfl,⟨_,HP.out⟩,((((HB.out.setCell (by exact J.out.2.2) _).setCell (by exact J.out.1) _).setCell (by exact J.out.1) _).setCell (by exact J.out.1) _).setCell (by exact J.out.1) _⟩
 .rw[V] at Ao
  have H3:=Jh (H2.out.1.setDp o) (H2.out.2.setCell (p:=⟨gr,3,aq⟩) H2.out.1.le.1 (ao ar o));have An:=oP _ _ toks fr x o H3.out.1.tk.toks hT;have HD:=Hh V;have F:=H2.out.1.r;have I:=H2.out.1.o;have C:=H2.out.1.l;have Z:=F.lt;have lo:=I.lt;have Y:=C.lt;obtain⟨Aa,Ag,Ad,Ah,Ae,Ai,Af,Aj⟩:=F.n4 rfl;obtain⟨Ak,Al⟩:=I.n1 rfl;obtain⟨Ab,Ac⟩:=C.n1 rfl;clear F I C;simp only[dS] at An Aa;rw[X];clear V X;go_wp2_with fail;refine An.mono ?_;rintro _ w4 ⟨rfl,hb4⟩;have R:=Jh (H3.out.1.below hb4) (H3.out.2.trans (hb4.mono (by have:=H3.out.2.size;omega)));clear An hb4 H3 H2;clear Aa Ad Ae Af Ag Ah Ai Aj Ak Al Ab Ac Z lo Y;rcases Ao with ⟨X,V⟩|⟨X,V⟩
  .have A:=Jh (R.out.1.setO (o+1)) (R.out.2.setCell (p:=⟨go,0,aq⟩) R.out.1.le.2.1 (ao ar (o+1)))
   have HE:Hid (eB o toks=o/\dn o toks=o+1):=Hh ⟨HD.out,V⟩;have F:=R.out.1.r;have I:=R.out.1.o;have C:=R.out.1.l;have Z:=F.lt;have lo:=I.lt;have Y:=C.lt;obtain⟨Aa,Ag,Ad,Ah,Ae,Ai,Af,Aj⟩:=F.n4 rfl;obtain⟨Ak,Al⟩:=I.n1 rfl;obtain⟨Ab,Ac⟩:=C.n1 rfl;clear F I C;rw[X];clear X V;go_wp2_with (with_reducible first|refine aL ?_)
   refine Stop.out ?_;refine iG rfl _ _ rfl B lv D ((a,n,c),⟨toks,fr,x,o⟩) rfl (by exact A.out.1.own.alloc _) w4.heap.size (by rfl) (by have q:=aa.new (w4.setCell ⟨go,0,aq⟩ (ao ar (o+1))) #[dS (a,n,c),ao ar fr,ao ar x,ao ar (o)] 78;(try simp only[gj] at q);exact q) hD (by have:=A.out.1.r.lt;have:=A.out.1.le;simp only[cF,gj] at *;omega) ((w4.setCell ⟨go,0,aq⟩ (ao ar (o+1))).heap.size+1) (by simp) ?_;intro g2 c2 w6 Q M H N;have Am:=(mS (w4.setCell ⟨go,0,aq⟩ (ao ar (o+1))) (aE #[dS (a,n,c),ao ar fr,ao ar x,ao ar (o)] 78) lv.ownBlock).trans M;have HP:=Hh (A.out.1.push Am Q (H.imp id (fun q=>by omega)) (x+1));have F:=A.out.1.r.kept Am (fun e=>A.out.1.lg e.symm);have C:=A.out.1.l.kept Am (fun e=>dU A.out.1.own A.out.1.l (by decide) gl e.symm rfl);have HB:=Hh (A.out.2.grown Am (by have:=A.out.1.r.lt;have:=A.out.1.le;omega) (fun k e=>(cy A.out.1.own k e).1));have J:=Hh A.out.1.le;clear Aa Ad Ae Af Ag Ah Ai Aj Ak Al Ab Ac Z lo Y;have Z:=F.lt;have Y:=C.lt;obtain⟨Aa,Ag,Ad,Ah,Ae,Ai,Af,Aj⟩:=F.n4 rfl
   obtain⟨Ab,Ac⟩:=C.n1 rfl;clear F C Am Q M H N;go_wp2_with fail;refine gh (v:=dr #[]) (by simp[cD,yr,go_sem]) rfl ?_;rw[HE.out.1,HE.out.2];exact⟨rfl,⟨_,HP.out⟩,((((HB.out.setCell (by exact J.out.2.2) _).setCell (by exact J.out.1) _).setCell (by exact J.out.1) _).setCell (by exact J.out.1) _).setCell (by exact J.out.1) _⟩
  .have A:=R
   have HE:Hid (eB o toks=o/\dn o toks=o):=Hh ⟨HD.out,V⟩;have F:=R.out.1.r;have I:=R.out.1.o;have C:=R.out.1.l;have Z:=F.lt;have lo:=I.lt;have Y:=C.lt;obtain⟨Aa,Ag,Ad,Ah,Ae,Ai,Af,Aj⟩:=F.n4 rfl;obtain⟨Ak,Al⟩:=I.n1 rfl;obtain⟨Ab,Ac⟩:=C.n1 rfl;clear F I C;rw[X];clear X V;go_wp2_with (with_reducible first|refine aL ?_)
   refine Stop.out ?_;refine iG rfl _ _ rfl B lv D ((a,n,c),⟨toks,fr,x,o⟩) rfl (by exact A.out.1.own.alloc _) w4.heap.size (by rfl) (by have q:=aa.new (w4) #[dS (a,n,c),ao ar fr,ao ar x,ao ar (o)] 78;(try simp only[gj] at q);exact q) hD (by have:=A.out.1.r.lt;have:=A.out.1.le;simp only[cF,gj] at *;omega) ((w4).heap.size+1) (by simp) ?_;intro g2 c2 w6 Q M H N;have Am:=(mS (w4) (aE #[dS (a,n,c),ao ar fr,ao ar x,ao ar (o)] 78) lv.ownBlock).trans M;have HP:=Hh (A.out.1.push Am Q (H.imp id (fun q=>by omega)) (x+1));have F:=A.out.1.r.kept Am (fun e=>A.out.1.lg e.symm);have C:=A.out.1.l.kept Am (fun e=>dU A.out.1.own A.out.1.l (by decide) gl e.symm rfl);have HB:=Hh (A.out.2.grown Am (by have:=A.out.1.r.lt;have:=A.out.1.le;omega) (fun k e=>(cy A.out.1.own k e).1));have J:=Hh A.out.1.le;clear Aa Ad Ae Af Ag Ah Ai Aj Ak Al Ab Ac Z lo Y;have Z:=F.lt;have Y:=C.lt;obtain⟨Aa,Ag,Ad,Ah,Ae,Ai,Af,Aj⟩:=F.n4 rfl;obtain⟨Ab,Ac⟩:=C.n1 rfl;clear F C Am Q M H N;go_wp2_with fail;refine gh (v:=dr #[]) (by simp[cD,yr,go_sem]) rfl ?_
   rw[HE.out.1,HE.out.2];exact⟨rfl,⟨_,HP.out⟩,((((HB.out.setCell (by exact J.out.2.2) _).setCell (by exact J.out.1) _).setCell (by exact J.out.1) _).setCell (by exact J.out.1) _).setCell (by exact J.out.1) _⟩
theorem aP.drop(h:aP w (an a n cap) l){L:Nat}(C:L<=l.length) :
  aP w (sliced a L l.length cap 3) (l.drop L)/\(sliced a L l.length cap 3).ownBlock=(iN a n cap).ownBlock:=by
 obtain⟨v,Ab,u,z,A,i,q⟩:=h;cases u
 have Aa:(l.drop L).length=l.length-L:=bm;unfold sliced;refine⟨⟨_,_,by rw[Aa],by omega,by omega,fun hn=>?_,fun x hx hne=>?_⟩,?_⟩
 .cases a with
  |none=>have:=i rfl;omega
  |some x=>split at hn<;>simp at hn
 .cases a with
  |none=>split at hx<;>simp at hx
  |some y=>
   have Ac:l≠[]:=by intro g;subst g;simp at hne
   obtain⟨f,g2,g3⟩:=q y rfl Ac;split at hx
   .cases hx
    refine⟨f,g2,fun j hj=>?_⟩;rw[bm] at hj;omega
   .simp at hx
    obtain⟨b,Ad,B⟩:=y;simp only at f;subst f;rw[iS] at hx;subst hx;refine⟨rfl,g2,fun j hj=>?_⟩;rw[bm] at hj;have:=g3 (L+j) (by omega);simp only[Nat.add_mul,<-Nat.add_assoc] at this;simp only[List.getElem_drop];exact this
 .cases a with
  |none=>simp[ev]
  |some y=>split<;>simp[ev,OJ]
section
variable {P:Program} {w:cd} {ops:Array Oper} {rest:List Oper} {o:Oper} {a:Act} {Q:Exit->Act->cd->Prop}
theorem wF{e:TypeId}{n:Nat}(h:(P.info? e).map (fun i=>i.size)=aw n)(w:cd):(sizeOf e).run P w=.ok n w:=by
 obtain⟨i,hi,a⟩:=Option.map_eq_some_iff.1 h;simp[sizeOf,typeInfo,hi,a]
theorem pR(q:Region.wanted o (yielded ops a.tmps)=true)(x lo:Operand)(t:TypeId)(M:o.op=.slice t x (aw lo) aq aq)(u:P.underlying t=aw (.slice (P.elem t)))(N:(P.info? (P.elem t)).map (fun i=>i.size)=aw 3)(l:List ae)(c:aP w (a.eval x) l)(k:eC)(n:Int)(L:Nat)(C:a.eval lo=ao k n)(J:n=L)(D:L<=l.length)(I:∀v',aP w v' (l.drop L)->v'.ownBlock=(a.eval x).ownBlock->wpList P ops Q rest (a.put o.dst v') w):wpList P ops Q (o::rest) a w:=by
 obtain⟨j,Ab,f,E,G,H⟩:=c.len;rw[f] at c;obtain⟨z,A⟩:=c.drop D;refine iB q fun K hK'=>?_;subst J;have Aa:=run_slice_l (P:=P) w t j l.length Ab u k (L:Int) (by omega) (by omega);unfold Oper.wp;simp only[execOp,M,f,C,Option.map_some,Option.map_none,Sem.run_bind,run_sliceAt_slice (P:=P) w t _ _ _ _ u,Aa,wF N,Result.andThen,Sem.run_pure,Oper.upon_value,eL];exact hK' _ _ (I _ z (by rw[f];exact A))
end
def mX(g:Nat)(v:cq)(r:pO)(w:cd)(e:Ending)(w':cd):Prop:=aF g w w'/\jL w' g v (Ki r).1 (Ki r).2/\∃cs,e=bk (dr #[ao ar (BA r),ew cs.toArray])/\aX (fun b=>w.heap.size<=b) w' (DR r) cs/\cs[6]?=aw (an aq 0 0)
abbrev ai:List cq:=[cG false,al ⟨#[]⟩,al ⟨#[]⟩,al ⟨#[]⟩,an aq 0 0,an aq 0 0,an aq 0 0]
theorem aX.zero(P:Nat->Prop)(w:cd):aX P w bR ai:=aX.leaf (af.leaf _ _ _ _) oC.nil
theorem Ef{t:iA}{o:E7}(h:af P w t [al o,al s,v]):∃a n c,v=an a n c:=by
 obtain⟨i,s2,a,n,c,b⟩:=h.shape;simp only[fY,and_true] at b;exact⟨a,n,c,b.2.2⟩
theorem Tx{x:iA}(hq:q<B)(hn:n<=B)(hx:af (fun b=>B<=b) w3 x cs):af (fun b=>n<=b) (aj w3 q 0 vals).drew x cs:=
 af.move (P:=fun b=>B<=b) (Q:=fun b=>n<=b) (w:=w3) (w':=(aj w3 q 0 vals).drew) (Nat.le_of_eq (aD q vals 0 w3).symm) (fun b (hb:B<=b) _=>aR q vals 0 w3 b (by omega)) (fun b (hb:B<=b) _=>dy hn hb) x cs hx
theorem kK(row:List ae)(stop:Int)(last:Bool)(i:Nat):BA (fF row stop last i)=0/\DR (fF row stop last i)=bR:=by
 unfold fF;split
 .exact⟨rfl,rfl⟩
 .split<;>exact⟨rfl,rfl⟩
theorem Dk(g:Nat)(v:cq)(t t2:ae)(row:List ae)(lv:cq)(stop:Int)(last:Bool)(w:cd)(h:jL w g v 0 0)(hr:aP w lv (t::t2::row))(ho:∀b,lv.ownBlock=aw b->b<w.heap.size)(hT:jF w)(hn:row.length<=900000)(hsh:∀t∈row,t.text.size<=1048576) :
  cJ bh 83 #[cx (aw ⟨g,0,aq⟩),jH lv stop last] w (mX g v (lK (t::t2::row) stop last t.text) w):=by
 obtain⟨ra,rc,rfl,AR,AS,-⟩:=hr.len;obtain⟨N,hN⟩:=exq ((t::t2::row).length);have AN:N=row.length+2:=by rw[hN];simp
 rw[<-hN] at hr AR ho ⊢;unfold cV at AS;have AO:N<=row.length+2/\row.length+2<=N:=by omega
 have HN:=Hh hN;clear hN AN;obtain⟨R,hR⟩:=exq (lK (t::t2::row) stop last t.text);have HR:=Hh hR;rw[<-hR];clear hR;have Ax:cj w.heap.size w ((w.alloc (aE (eG (an ra N rc) stop last) 65)).alloc (aE ai.toArray 48)):=((ba _ w).alloc lz _).alloc (by simp) _;have k0:=(aa.new w (eG (an ra N rc) stop last) 65).alloc (aE ai.toArray 48);have k1:=aa.new (w.alloc (aE (eG (an ra N rc) stop last) 65)) ai.toArray 48;simp only[cF] at k1;have Ap:=h.below Ax h.lt;have At:=hr.below Ax lz;have Aq:=hT.below Ax;have Bl:=h.lt;have AK:((w.alloc (aE (eG (an ra N rc) stop last) 65)).alloc (aE ai.toArray 48)).heap.size=w.heap.size+2:=by simp
 have HB:=Hh Ax;have HK:=Jh k0 (cE k1 (cE Ap (cE At Aq)));clear h hr hT Ax k0 k1 Ap At Aq;go_in;go_wp2_with (with_reducible first|refine j6 ?_)
 refine Stop.out ?_;obtain⟨k0,k1,Ap,At,Aq⟩:=HK.out;generalize (w.alloc (aE (eG (an ra N rc) stop last) 65)).alloc (aE ai.toArray 48)=w1 at *;refine pR rfl _ _ _ rfl Tryz.underlying55 (by kernel_rfl) (t::t2::row) (by exact At) ar 2 2 rfl rfl (by simp) ?_;intro v' hv' hvb;simp only[ec,dd] at hv';obtain⟨va,vc,rfl,-⟩:=hv'.len;have hE:=De w1 _ row hv' (fun b hb=>by rw[hvb] at hb;exact cT (ho b hb) HB.out.size) Aq.utf Aq.utf.pos (by omega) hsh;clear hv' hvb;have HZ:=Hh AK;clear AK;go_wp2_with fail;refine hE.mono ?_;clear hE;rintro _ w2 ⟨hb2,o,tt,a,n,c,rfl,hX⟩;have Ar:=EY row;have AI:=Hr row;obtain⟨⟨x,k,e⟩,hg⟩:∃q,iI row=q:=⟨_,rfl⟩;have Aa:=HR.out;unfold lK at Aa;simp only[ec,dd] at Aa;rw[hg] at hX Ar AI Aa ⊢;simp only at hX Ar AI Aa ⊢;rw[<-HN.out] at Aa;clear HR hg;have AE:cj w2.heap.size w2 (w2.alloc (aE #[al o,al tt,an a n c] 45)):=(ba _ _).alloc lz _;have As:=hb2.trans (AE.mono hb2.size);have k3:=k0.below As k0.lt;have q3:=k1.below As k1.lt;have p3:=Ap.below As Ap.lt;have r3:=At.below As lz;have e3:=aa.new w2 #[al o,al tt,an a n c] 45;have AJ:aF g w (w2.alloc (aE #[al o,al tt,an a n c] 45)):=(aF.of HB.out).trans (aF.of As)
 have AG:af (fun b=>w.heap.size+2<=b) (w2.alloc (aE #[al o,al tt,an a n c] 45)) x [al o,al tt,an a n c]:=af.below AE _ _ (af.move lz (fun _ _ _=>rfl) (fun b hb _=>by rw[<-HZ.out];exact hb) _ _ hX);have Bq:w.heap.size+2<=w2.heap.size:=by rw[<-HZ.out];exact hb2.size
 have Aw:=Jh AG AJ;have AD:=Jh k3 (cE q3 (cE p3 (cE r3 e3)));have AQ:=k3.lt;have AU:=q3.lt;have AP:=e3.lt;clear HK k0 k1 Ap At Aq hb2 As AE hX AG AJ HB
 by_cases hc1:e=2\/(e=0/\2+k<N)
 .rw[E4 hc1] at Aa
  have hL:=kJ g v (t::t2::row) (an ra N rc) stop last (2+k) _ p3 r3 (by simp;omega);rw[show ((2+k:Nat):Int)=2+(k:Int) by omega,<-Aa] at hL;have Av:=Hh Aa;have h0:BA R=0/\DR R=bR:=by rw[Aa];exact kK _ _ _ _
  have H0:=Hh h0;clear Aa h0 r3 p3 Ar;obtain⟨Ah,Ak,Ai,Al,Aj,Am⟩:=k3.n3 rfl;obtain⟨Ab,Ae,Ac,Af,Ad,Ag⟩:=e3.n3 rfl;clear k3 q3 e3;simp only[jH] at hL;rcases hc1 with rfl|⟨rfl,hlt⟩
  .go_wp2_with fail
   refine hL.mono ?_;clear hL Ah Ai Aj Ak Al Am Ab Ac Ad Ae Af Ag;rintro _ w4 ⟨rfl,hs4,p4⟩;have q4:=hs4.cells AD.out.2.1 (by omega);have AH:=q4.lt;have An:=Jh p4 (Aw.out.2.trans hs4);have Au:=Hh q4;obtain⟨Ay,A5,Az,A6,A0,A7,A1,A8,A2,A9,A3,AA,A4,AB⟩:=q4.n7 rfl;clear q4 p4 hs4;go_wp2_with fail;have Ao:=Au.out.put ai 0;obtain⟨y0,y1,y2,y3,y4,y5,y6⟩:=Ao.m7 rfl;simp only[aj] at y0 y1 y2 y3 y4 y5 y6;refine bj (v:=dr #[ao ar 0,ew #[cG false,al ⟨#[]⟩,al ⟨#[]⟩,al ⟨#[]⟩,an aq 0 0,an aq 0 0,an aq 0 0]]) (by simp[cD,yv,go_sem,y0,y1,y2,y3,y4,y5,y6]) rfl ?_;show mX g v R w _ (aj w4 (w.heap.size+1) 0 ai);exact⟨An.out.2.setAllNew (by omega) _,An.out.1.setAllOther (by omega),ai,by rw[H0.out.1],(by rw[H0.out.2];exact aX.zero _ _),rfl⟩
  .have hd:decide ((2:Int)+(k:Int)<(N:Int))=true:=by rw[decide_eq_true_iff];omega
   go_wp2_with fail;refine hL.mono ?_;clear hL Ah Ai Aj Ak Al Am Ab Ac Ad Ae Af Ag;rintro _ w4 ⟨rfl,hs4,p4⟩;have q4:=hs4.cells AD.out.2.1 (by omega);have AH:=q4.lt;have An:=Jh p4 (Aw.out.2.trans hs4);have Au:=Hh q4;obtain⟨Ay,A5,Az,A6,A0,A7,A1,A8,A2,A9,A3,AA,A4,AB⟩:=q4.n7 rfl;clear q4 p4 hs4;go_wp2_with fail;have Ao:=Au.out.put ai 0;obtain⟨y0,y1,y2,y3,y4,y5,y6⟩:=Ao.m7 rfl;simp only[aj] at y0 y1 y2 y3 y4 y5 y6;refine bj (v:=dr #[ao ar 0,ew #[cG false,al ⟨#[]⟩,al ⟨#[]⟩,al ⟨#[]⟩,an aq 0 0,an aq 0 0,an aq 0 0]]) (by simp[cD,yv,go_sem,y0,y1,y2,y3,y4,y5,y6]) rfl ?_;show mX g v R w _ (aj w4 (w.heap.size+1) 0 ai);exact⟨An.out.2.setAllNew (by omega) _,An.out.1.setAllOther (by omega),ai,by rw[H0.out.1],(by rw[H0.out.2];exact aX.zero _ _),rfl⟩
 .rw[E6 hc1] at Aa
  have AC:e≠2:=fun h=>hc1 (.inl h)
  by_cases he:e=0
  .subst he
   have hk:k=row.length:=by
    have:¬2+k<N:=fun h=>hc1 (.inr ⟨rfl,h⟩);omega
   rw[E4 rfl] at Aa;have hd:decide ((2:Int)+(k:Int)<(N:Int))=false:=by rw[decide_eq_false_iff_not];omega
   obtain⟨b,AF,rfl,hlt,c0,c1,c2⟩:=r3.get (j:=0) (by simp);simp only[iz,eA,eg] at c0 c1 c2;have Av:=Hh Aa;have AM:=Hh q3;have AL:=Hh p3;clear Aa hk hc1 r3 p3 Ar AC;obtain⟨Ah,Ak,Ai,Al,Aj,Am⟩:=k3.n3 rfl;obtain⟨Ab,Ae,Ac,Af,Ad,Ag⟩:=e3.n3 rfl;obtain⟨AV,Bc,AW,Bd,AX,Be,AY,Bf,AZ,Bg,Ba,Bh,Bb,Bi⟩:=q3.n7 rfl;clear k3 q3 e3;go_wp2_with fail;go_region
   all_goals
    go_wp2_with fail;have Ao:=(AM.out.put [cG false,al t.text,al o,al tt,an a n c,an aq 0 0,an aq 0 0] 0).drew;obtain⟨y0,y1,y2,y3,y4,y5,y6⟩:=Ao.m7 rfl;simp only[aj] at y0 y1 y2 y3 y4 y5 y6;refine bj (v:=dr #[ao ar 2,ew #[cG false,al t.text,al o,al tt,an a n c,an aq 0 0,an aq 0 0]]) (by simp[cD,yv,go_sem,y0,y1,y2,y3,y4,y5,y6]) rfl ?_;show mX g v R w _ (aj (w2.alloc (aE #[al o,al tt,an a n c] 45)) (w.heap.size+1) 0 [cG false,al t.text,al o,al tt,an a n c,an aq 0 0,an aq 0 0]).drew;rw[Av.out];refine⟨(Aw.out.2.setAllNew (by omega) _).drew,(AL.out.setAllOther (by omega)).drew,[cG false,al t.text,al o,al tt,an a n c,an aq 0 0,an aq 0 0],rfl,?_⟩;refine⟨aX.leaf ?_ oC.nil,rfl⟩;exact Tx (q:=w.heap.size+1) (B:=w.heap.size+2) (by omega) (by omega) Aw.out.1
  .rw[E6 he] at Aa
   have Bm:=Ar he AC;have hlt:2+k<(t::t2::row).length:=by simp;omega
   rw[br hlt] at Aa;obtain⟨b,AF,rfl,AT,c0,c1,c2⟩:=r3.get (j:=2+k) hlt;simp only at Aa;generalize (t::t2::row)[2+k]=tk at *;have hF:=uz g v 0 0 tk.pos e _ p3;have Bo:(e==0)=false:=by simpa using he
   have Bp:(e != 0)=true:=by simpa using he
   have Bn:(e==2)=false:=by simpa using AC
   have Av:=Hh Aa;clear Aa r3 p3 Ar hc1 he AC hlt;obtain⟨Ah,Ak,Ai,Al,Aj,Am⟩:=k3.n3 rfl;obtain⟨Ab,Ae,Ac,Af,Ad,Ag⟩:=e3.n3 rfl;clear k3 q3 e3;have Bk:(2:Int)+(k:Int)<(N:Int):=by omega
   have Bj:AF+(2+k)*3=AF+(2+k)*3:=rfl;go_wp2_with fail;refine hF.mono ?_;clear hF Ah Ai Aj Ak Al Am Ab Ac Ad Ae Af Ag c0 c1 c2;rintro _ w4 ⟨rfl,p4,hw4⟩;have hs4:aF g (w2.alloc (aE #[al o,al tt,an a n c] 45)) w4:=by rw[hw4];exact ((aF.refl _ _).set _ _).set _ _
   clear hw4;have H0:Hid (BA R=0/\DR R=bR):=Hh (by rw[Av.out];exact⟨rfl,rfl⟩);have p4:jL w4 g v (Ki R).1 (Ki R).2:=by rw[Av.out];exact p4
   have q4:=hs4.cells AD.out.2.1 (by omega);have AH:=q4.lt;have An:=Jh p4 (Aw.out.2.trans hs4);have Au:=Hh q4;obtain⟨Ay,A5,Az,A6,A0,A7,A1,A8,A2,A9,A3,AA,A4,AB⟩:=q4.n7 rfl;clear q4 p4 hs4;go_wp2_with fail;have Ao:=Au.out.put ai 0;obtain⟨y0,y1,y2,y3,y4,y5,y6⟩:=Ao.m7 rfl;simp only[aj] at y0 y1 y2 y3 y4 y5 y6;refine bj (v:=dr #[ao ar 0,ew #[cG false,al ⟨#[]⟩,al ⟨#[]⟩,al ⟨#[]⟩,an aq 0 0,an aq 0 0,an aq 0 0]]) (by simp[cD,yv,go_sem,y0,y1,y2,y3,y4,y5,y6]) rfl ?_;show mX g v R w _ (aj w4 (w.heap.size+1) 0 ai);exact⟨An.out.2.setAllNew (by omega) _,An.out.1.setAllOther (by omega),ai,by rw[H0.out.1],(by rw[H0.out.2];exact aX.zero _ _),rfl⟩
def yO(row:List ae)(m:Nat)(pre:List E7):Prop:=pre.length=m/\gH row=pre++gH (row.drop m)
theorem yO.zero(row:List ae):yO row 0 []:=⟨rfl,rfl⟩
theorem yO.step(h:yO row m pre)(b:m<row.length)(a:row[m].kind=3){x:E7}(c:lm row[m].text=aw x):yO row (m+1) (pre++[x]):=by
 refine⟨by simp[h.1],?_⟩;rw[h.2,cg b,gH,E4 a,c];simp
theorem yO.stop(h:yO row m pre)(b:m<row.length)(a:row[m].kind≠3):gH row=pre/\pre.length=m:=by
 refine⟨?_,h.1⟩;rw[h.2,cg b,gH,E6 a,eI]
theorem yO.done(h:yO row m pre)(a:row.length<=m):gH row=pre/\pre.length=m:=by
 refine⟨?_,h.1⟩;rw[h.2,ek a,gH,eI]
theorem Tryz.infoStr:(Tryz.prog.info? 9).map (fun i=>(i.zero,i.size,i.bytes))=aw (aw (al ⟨#[]⟩),1,16):=by kernel_rfl
def TS(w W:cd)(line xc:Array cq)(v:cq)(pre:List E7):Prop:=cj w.heap.size w W/\aa W w.heap.size line 65/\aa W (w.heap.size+1) ai.toArray 48/\aa W (w.heap.size+2) xc 48/\aI fx 9 (w.heap.size+3) W v pre/\w.heap.size+3<=W.heap.size
theorem TS.step{xc:Array cq}(h:TS w W line xc v pre)(hb:cj W.heap.size W W'):TS w W' line xc v pre:=
 ⟨h.1.trans (hb.mono h.1.size),h.2.1.below hb h.2.1.lt,h.2.2.1.below hb h.2.2.1.lt,h.2.2.2.1.below hb h.2.2.2.1.lt,h.2.2.2.2.1.below hb lz,dy h.2.2.2.2.2 hb.size⟩
theorem LA{l:List E7}(p:q<B)(i:n<=B)(h:aI fx 9 B w3 v l):oC (fun b=>n<=b) (aj w3 q 0 vals).drew v l:=by
 have f:aI fx 9 B (aj w3 q 0 vals).drew v l:=h.moved (fun k hk=>aR q vals 0 w3 k (by have:=(cy h k hk).1;omega));exact⟨f.row,fun k hk=>by have c:=cy f k hk;exact⟨dy i c.1,c.2⟩⟩
theorem Er(g:Nat)(oa:Option Addr)(n oc:Nat)(t:ae)(row:List ae)(lv:cq)(stop:Int)(last:Bool)(w:cd)(h:jL w g (an oa n oc) 0 0)(hr:aP w lv (t::row))(hT:Tab w)(hTg:0<w.heap.size)(hn:row.length<=900000)(hsh:∀t∈row,t.text.size<=1048576)(hq:∀t∈row,t.kind=3->lm t.text≠aq) :
  cJ bh 84 #[cx (aw ⟨g,0,aq⟩),jH lv stop last] w (mX g (an oa n oc) (gQ n (t::row) stop last t.text) w):=by
 obtain⟨ra,rc,rfl,Bm,Ct,-⟩:=hr.len;obtain⟨N,hN⟩:=exq ((t::row).length);have Cn:N<=row.length+1/\row.length+1<=N:=by rw[hN];simp
 rw[<-hN] at hr Bm ⊢;unfold cV at Ct;have HN:=Hh hN;clear hN;obtain⟨R,hR⟩:=exq (gQ n (t::row) stop last t.text);have HR:=Hh hR;rw[<-hR];clear hR;have Ao:=h.lt;obtain⟨b,Al,rfl,AJ,c0,c1,c2⟩:=hr.get (j:=0) (by simp);simp only[iz,eA,eg] at c0 c1 c2;have H0:=Jh h (cE hr hT);clear h hr hT;go_in;go_wp2_with fail
 have BN:cj w.heap.size w (((w.alloc (aE (eG (an (aw ⟨b,Al,aq⟩) N rc) stop last) 65)).alloc (aE ai.toArray 48)).alloc (aE #[cG true,al t.text,al ⟨#[]⟩,al ⟨#[]⟩,an aq 0 0,an aq 0 0,an aq 0 0] 48)):=
  (((ba _ w).alloc lz _).alloc (by simp) _).alloc (by simp only[cF];omega) _
 have kA:=((aa.new w (eG (an (aw ⟨b,Al,aq⟩) N rc) stop last) 65).alloc (aE ai.toArray 48)).alloc (aE #[cG true,al t.text,al ⟨#[]⟩,al ⟨#[]⟩,an aq 0 0,an aq 0 0,an aq 0 0] 48);have kB:=(aa.new (w.alloc (aE (eG (an (aw ⟨b,Al,aq⟩) N rc) stop last) 65)) ai.toArray 48).alloc (aE #[cG true,al t.text,al ⟨#[]⟩,al ⟨#[]⟩,an aq 0 0,an aq 0 0,an aq 0 0] 48);have kC:=aa.new ((w.alloc (aE (eG (an (aw ⟨b,Al,aq⟩) N rc) stop last) 65)).alloc (aE ai.toArray 48)) #[cG true,al t.text,al ⟨#[]⟩,al ⟨#[]⟩,an aq 0 0,an aq 0 0,an aq 0 0] 48;simp only[cF] at kB kC;have BS:(((w.alloc (aE (eG (an (aw ⟨b,Al,aq⟩) N rc) stop last) 65)).alloc (aE ai.toArray 48)).alloc (aE #[cG true,al t.text,al ⟨#[]⟩,al ⟨#[]⟩,an aq 0 0,an aq 0 0,an aq 0 0] 48)).heap.size=w.heap.size+3:=by simp
 generalize ((w.alloc (aE (eG (an (aw ⟨b,Al,aq⟩) N rc) stop last) 65)).alloc (aE ai.toArray 48)).alloc (aE #[cG true,al t.text,al ⟨#[]⟩,al ⟨#[]⟩,an aq 0 0,an aq 0 0,an aq 0 0] 48)=wA at *;have HA:=Jh BN (cE kA (cE kB (cE kC BS)));clear BN kA kB kC BS
 go_loopw [4,7,8,9] (fun _ iv _ _ wr=>∃(m:Nat) (pre:List E7) (v:cq),m<=row.length/\iv=ao ar ((1+m:Nat):Int)/\yO row m pre/\cj w.heap.size w wr/\aa wr w.heap.size (eG (an (aw ⟨b,Al,aq⟩) N rc) stop last) 65/\
   aa wr (w.heap.size+1) ai.toArray 48/\aa wr (w.heap.size+2) #[cG true,al t.text,al ⟨#[]⟩,al ⟨#[]⟩,an aq 0 0,v,an aq 0 0] 48/\aI fx 9 (w.heap.size+3) wr v pre/\w.heap.size+3<=wr.heap.size) (fun _ iv _ _ _=>N-(cR iv).toNat)
 .exact⟨0,[],_,ck _,rfl,yO.zero _,HA.out.1,HA.out.2.1,HA.out.2.2.1,HA.out.2.2.2.1,aI.nil,by rw[HA.out.2.2.2.2];exact cA _⟩
 clear HA c0 c1 c2 AJ;obtain⟨m,pre,v,hm,rfl,AB,Ab,k0,k1,k2,Aa,hz⟩:=hrel;obtain⟨Bo,Br,Bg⟩:=H0.out;have hp:=Bo.below Ab Ao;have hr:=Br.below Ab lz;have Bh:=Bg.below Ab hTg;have Cx:pre.length<=row.length:=by rw[AB.1];exact hm
 have BL:=Hh AB;obtain⟨M,hM⟩:=exq (1+m);have Cm:M<=1+m/\1+m<=M:=by omega
 rw[<-hM];have Bj:=k0.lt;have Bk:=k1.lt;have Bl:=k2.lt
 by_cases hlab:∃h:m<row.length,row[m].kind=3
 .obtain⟨Au,h3⟩:=hlab
  have As:M<(t::row).length:=by simp;omega
  have AG:(t::row)[M]=row[m]:=by subst hM;simp[Nat.add_comm 1]
  obtain⟨bb,ob,he,AJ,c0,c1,c2⟩:=hr.get As;cases he
  rw[AG] at c0 c1 c2;rw[h3] at c0;obtain⟨x,hx,BR⟩:=(DI row[m].text).resolve_left (fun h=>hq _ (cH _) h3 h.1);have hQ:=Ez row[m].text wr (by have:=hsh _ (cH Au);omega) Bh;rw[BR] at hQ;have Cl:=Hh (BL.out.step Au h3 hx);have AE:decide ((M:Int)<(N:Int))=true:=by rw[decide_eq_true_iff];omega
  obtain⟨va,vc,rfl,-⟩:=Aa.row.len;generalize row[m]=tk at *;have HK:=Jh k0 (cE k1 (cE k2 (cE Aa Ab)));obtain⟨Ad,Ag,Ae,Ah,Af,Ai⟩:=k0.n3 rfl;obtain⟨Aw,A3,Ax,A4,Ay,A5,Az,A6,A0,A7,A1,A8,A2,A9⟩:=k2.n7 rfl;clear k0 k1 k2 Aa Ab AB Bo Br Bg hp hr Bh AG BR hM;go_wp2_with fail;refine hQ.mono ?_;clear hQ Ad Ae Af Ag Ah Ai Aw Ax Ay Az A0 A1 A2 A3 A4 A5 A6 A7 A8 A9 c0 c1 c2;rintro _ w2 ⟨rfl,hb2⟩;obtain⟨k0,k1,k2,Aa,Ab⟩:=HK.out;have AC:=k2.below hb2 k2.lt;have AA:=Aa.below hb2 lz;have C5:=hb2.size;have Cu:=AC.lt;have Ck:=Jh (k0.below hb2 k0.lt) (cE (k1.below hb2 k1.lt) (cE AC (Ab.trans (hb2.mono Ab.size))));clear k0 k1 k2 Aa Ab hb2;obtain⟨AM,AT,AN,AU,AO,AV,AP,-⟩:=AC.n4 rfl
  obtain⟨-,-,-,-,-,-,-,AW,AQ,AX,AR,AY,AS,AZ⟩:=AC.n7 rfl;go_wp2_with (with_reducible first|refine aL ?_)
  refine Stop.out ?_;have AI:=aI.lit (f:=fx) (E:=9) (base:=w2.heap.size) (w:=w2) [x] lz (by simp[cV]);refine fA rfl _ _ _ rfl (w.heap.size+3) 9 16 (al ⟨#[]⟩) Tryz.underlying46 Tryz.infoStr rfl (fun _=>rfl) pre [x] (by exact AA.alloc _) AI.row (by simp;unfold cV;omega) (by simp;omega) (by simp;omega) (w2.alloc (aE #[al x] 9)) (ba _ _) ?_;intro v3 w3 own3 hb3 hg3;obtain⟨C1,C2,rfl,-⟩:=own3.row.len;have Cz:∀k,(iN va pre.length vc).ownBlock=aw k->w.heap.size+3<=k:=fun k hk=>(cy AA k hk).1;have Bc:=(AC.alloc (aE #[al x] 9)).below hb3 (by omega);have Cv:=Bc.lt;have HX:=Jh own3 hb3;clear own3 hg3 AC AM AN AO AP AQ AR AS AT AU AV AW AX AY AZ AA AI hb3;have Bf:=Hh Bc;obtain⟨BW,Cd,BX,Ce,BY,Cf,BZ,Cg,Ca,Ch,Cb,Ci,Cc,Cj⟩:=Bc.n7 rfl;clear Bc;go_wp2;go_roundw
  .
   obtain⟨own3,hb3⟩:=HX.out;obtain⟨k0,k1,k2,Ab⟩:=Ck.out;have C0:=hb3.size;simp only[cF] at C0;have Co:cj w.heap.size w w3:=(Ab.alloc (by omega) (aE #[al x] 9)).trans (hb3.mono (by omega))
   refine⟨m+1,_,_,by omega,by go_num,Cl.out,Co.setCell (by show w.heap.size<=w.heap.size+2;omega) _,
    ((k0.alloc _).below hb3 (by omega)).setOther _ _ (by show w.heap.size+2≠_;omega),((k1.alloc _).below hb3 (by omega)).setOther _ _ (by show w.heap.size+2≠_;omega),Bf.out.setI 5 _,?_,by rw[gj];omega⟩
   have ho:=own3.setOther ⟨w.heap.size+2,5,aq⟩ (an C1 (pre++[x]).length C2) (fun h=>by have h9:w.heap.size+3<=w.heap.size+2:=(cy own3 _ h).1;omega);simp only[cm,bc,cY,df] at ho;exact ho
  simp[cR];omega
 .have Ak:gH row=pre/\pre.length=m:=by
   by_cases Au:m<row.length
   .exact AB.stop Au (fun h3=>hlab ⟨Au,h3⟩)
   .exact AB.done (by omega)
  have Ac:=HR.out;unfold gQ at Ac;simp only[ec,dd,Ak.1,Ak.2] at Ac;rw[<-hM] at Ac;obtain⟨va,vc,rfl,-⟩:=Aa.row.len;have Aq:=Hh Ac;have HS:=Hh (show TS w wr (eG (an (aw ⟨b,Al,aq⟩) N rc) stop last) #[cG true,al t.text,al ⟨#[]⟩,al ⟨#[]⟩,an aq 0 0,an va pre.length vc,an aq 0 0] (an va pre.length vc) pre from ⟨Ab,k0,k1,k2,Aa,hz⟩);clear Ak Ac AB BL HR Ab k0 k1 k2 Aa Bo Br Bg Bh hp hM
  by_cases Au:m<row.length
  focus
   have As:M<(t::row).length:=by simp;omega
   have AG:(t::row)[M]=row[m]:=by
     have hM:M=1+m:=by omega
     subst hM;simp[Nat.add_comm 1]
   obtain⟨bb,ob,he,AJ,c0,c1,c2⟩:=hr.get As;cases he
   have h3:((t::row)[M].kind==3)=false:=by
    rw[Fc,AG];exact fun h3=>hlab ⟨Au,h3⟩
   have AE:decide ((M:Int)<(N:Int))=true:=by rw[decide_eq_true_iff];omega
   have Cs:((M:Int)==(N:Int))=false:=by rw[Fc];omega
   have BP:(t::row)[M]?=aw (t::row)[M]:=br As;have BO:(t::row).drop M=(t::row)[M]::(t::row).drop (M+1):=cg As;generalize (t::row)[M]=tk at *;have Bd:=Jh BP BO;have Ar:=rP tk pg wr;clear AG hlab BP BO;obtain⟨kk,kt,kp⟩:=tk;simp only[fo] at Ar;simp only at c0 c1 c2 h3;obtain⟨Ab,k0,k1,k2,Aa,Ap⟩:=HS.out;obtain⟨Ad,Ag,Ae,Ah,Af,Ai⟩:=k0.n3 rfl;clear Ab k0 k1 k2 Aa Ap hr;go_wp2_with fail;refine Ar.mono ?_;clear Ar c0 c1 c2 Ad Ae Af Ag Ah Ai;rintro _ w2 ⟨rfl,hb2⟩;have Am:=Hh (HS.out.step hb2);clear hb2 HS hz AJ Bj Bk Bl;have Ac:=Aq.out;rw[Bd.out.1,Bd.out.2,sG] at Ac;clear Aq
   by_cases hsg:nT ⟨kk,kt,kp⟩ pg=false
   focus
    rw[E4 hsg] at Ac;rw[hsg];have Aj:=Hh Ac;clear Ac;obtain⟨Ab,k0,k1,k2,Aa,Ap⟩:=Am.out;have hL:=kJ g (an oa n oc) (t::row) (an (aw ⟨b,Al,aq⟩) N rc) stop last (M) _ (H0.out.1.below Ab Ao) (H0.out.2.1.below Ab lz) (by simp;omega);rw[<-Aj.out,show (((M:Nat)):Int)=(M:Int) by omega] at hL;have H9:Hid (BA R=0/\DR R=bR):=Hh (by rw[Aj.out];exact kK _ _ _ _);simp only[jH] at hL;have At:=k0.lt;obtain⟨Ad,Ag,Ae,Ah,Af,Ai⟩:=k0.n3 rfl;clear Ab k0 k1 k2 Aa;go_wp2_with fail;have Ba:=Am
   rotate_left
   focus
    rw[E6 hsg] at Ac;have An:nT ⟨kk,kt,kp⟩ pg=true:=by simpa using hsg
    rw[An];clear hsg An
    by_cases hdp:64<n
    focus
     rw[E4 hdp] at Ac;simp only at Ac;have Cp:decide ((64:Int)<(n:Int))=true:=by rw[decide_eq_true_iff];omega
     have Aj:=Hh Ac;obtain⟨Ab,k0,k1,k2,Aa,Ap⟩:=Am.out;have Bb:=H0.out.1.below Ab Ao;obtain⟨bb,ob,he,AJ,c0,c1,c2⟩:=(H0.out.2.1.below Ab lz).get As;cases he
     have AK:(t::row)[M].pos=kp:=by
      have:=Bd.out.1;rw[br As] at this;rw[Option.some.inj this]
     rw[AK] at c2;have hF:=uz g (an oa n oc) 0 0 kp 5 _ Bb;have At:=k0.lt;have BQ:=Bb.lt;have Bq:=Bb.cell 0 _ rfl;obtain⟨Ad,Ag,Ae,Ah,Af,Ai⟩:=k0.n3 rfl;clear Ac Ab k0 k1 k2 Aa Bb c0 c1 AK hdp;go_wp2_with fail;refine hF.mono ?_;clear hF Ad Ae Af Ag Ah Ai c2 Bq;rintro _ w4 ⟨rfl,p4,hw4⟩;obtain⟨Ab,k0,k1,k2,Aa,-⟩:=Am.out;have Av:aF g w2 w4:=by rw[hw4];exact ((aF.refl _ _).set _ _).set _ _
     have q4:=Av.cells k1 (by omega);have Cw:=q4.lt;have p4:jL w4 g (an oa n oc) (Ki R).1 (Ki R).2:=by rw[Aj.out];exact p4
     have Be:=Jh p4 ((aF.of Ab).trans Av);have BM:=Hh q4;have H9:Hid (BA R=0/\DR R=bR):=Hh (by rw[Aj.out];exact⟨rfl,rfl⟩);obtain⟨B6,BE,B7,BF,B8,BG,B9,BH,BB,BI,BC,BJ,BD,BK⟩:=q4.n7 rfl;clear q4 p4 Av Ab k0 k1 k2 Aa hw4;go_wp2_with fail
    rotate_left
    focus
     rw[E6 hdp] at Ac;have Cp:decide ((64:Int)<(n:Int))=false:=by rw[decide_eq_false_iff_not];omega
     have Bq:=(H0.out.1.below Am.out.1 Ao).cell 0 _ rfl;have BQ:=(H0.out.1.below Am.out.1 Ao).lt;rw[<-HN.out] at Ac
     by_cases Ak:N=M+1
     case pos=>
      rw[E4 Ak] at Ac;have Bi:((M:Int)+1==(N:Int))=true:=by rw[beq_iff_eq];omega
      have Aj:=Hh Ac;clear Ac Ak hdp;obtain⟨Ab,k0,k1,k2,Aa,Ap⟩:=Am.out;have At:=k0.lt;have Bm:=k1.lt;have Bn:=k2.lt;have HK:=Jh k1 (cE Aa (cE Ab (H0.out.1.below Ab Ao)));obtain⟨Ad,Ag,Ae,Ah,Af,Ai⟩:=k0.n3 rfl;obtain⟨Bs,Bz,Bt,B0,Bu,B1,Bv,B2,Bw,B3,Bx,B4,By,B5⟩:=k1.n7 rfl;obtain⟨Aw,A3,Ax,A4,Ay,A5,Az,A6,A0,A7,A1,A8,A2,A9⟩:=k2.n7 rfl;clear Ab k0 k1 k2 Aa;go_wp2_with fail;go_region
      all_goals
       go_wp2_with fail;obtain⟨k1,Aa,Ab,Bp⟩:=HK.out;have AL:=(k1.put [cG true,al t.text,al ⟨#[]⟩,al ⟨#[]⟩,an aq 0 0,an va pre.length vc,an aq 0 0] 0).drew;obtain⟨y0,y1,y2,y3,y4,y5,y6⟩:=AL.m7 rfl;simp only[aj] at y0 y1 y2 y3 y4 y5 y6;refine bj (v:=dr #[ao ar 3,ew #[cG true,al t.text,al ⟨#[]⟩,al ⟨#[]⟩,an aq 0 0,an va pre.length vc,an aq 0 0]]) (by simp[cD,Tryz.results84,go_sem,y0,y1,y2,y3,y4,y5,y6]) rfl ?_;show mX g (an oa n oc) R w _ (aj w2 (w.heap.size+1) 0 [cG true,al t.text,al ⟨#[]⟩,al ⟨#[]⟩,an aq 0 0,an va pre.length vc,an aq 0 0]).drew;rw[Aj.out];refine⟨((aF.of Ab).setAllNew (by omega) _).drew,(Bp.setAllOther (by omega)).drew,[cG true,al t.text,al ⟨#[]⟩,al ⟨#[]⟩,an aq 0 0,an va pre.length vc,an aq 0 0],rfl,?_⟩;refine⟨aX.leaf (af.leaf _ _ _ _) ?_,rfl⟩;exact LA (q:=w.heap.size+1) (B:=w.heap.size+3) (by omega) (by omega) Aa
     focus
      rw[E6 Ak] at Ac;have Bi:((M:Int)+1==(N:Int))=false:=by rw[Fc];omega
      have AH:M+1<(t::row).length:=by rw[<-HN.out];omega
      obtain⟨C3,C6,Cr,Cy,d0,d1,d2⟩:=(H0.out.2.1.below Am.out.1 lz).get AH;cases Cr
      have AF:row.drop M=(t::row)[M+1]::row.drop (M+1):=cg AH;rw[AF,sG] at Ac;have Ar:=rP (t::row)[M+1] mZ w2;generalize (t::row)[M+1]=tk2 at *;obtain⟨BT,BV,BU⟩:=tk2;simp only[fo] at Ar;simp only at d0 d1 d2;obtain⟨Ab,k0,k1,k2,Aa,Ap⟩:=Am.out;have At:=k0.lt;obtain⟨Ad,Ag,Ae,Ah,Af,Ai⟩:=k0.n3 rfl;have Aq:=Hh Ac;have C4:Al+(M+1)*3=Al+(M+1)*3:=rfl;clear Ab k0 k1 k2 Aa Ac AF hdp;go_wp2_with fail;refine Ar.mono ?_;clear Ar d0 d1 d2 Ad Ae Af Ag Ah Ai Bq BQ;rintro _ w5 ⟨rfl,hb5⟩;have AD:=Hh (Am.out.step hb5);clear hb5 Am;have Ac:=Aq.out;clear Aq
      by_cases hsg:nT ⟨BT,BV,BU⟩ mZ=false
      focus
       rw[E4 hsg] at Ac;rw[hsg];have Aj:=Hh Ac;clear Ac hsg;obtain⟨Ab,k0,k1,k2,Aa,Ap⟩:=AD.out;have hL:=kJ g (an oa n oc) (t::row) (an (aw ⟨b,Al,aq⟩) N rc) stop last ((M+1)) _ (H0.out.1.below Ab Ao) (H0.out.2.1.below Ab lz) (by simp;omega);rw[<-Aj.out,show ((((M+1):Nat)):Int)=(M:Int)+1 by omega] at hL;have H9:Hid (BA R=0/\DR R=bR):=Hh (by rw[Aj.out];exact kK _ _ _ _);simp only[jH] at hL;have At:=k0.lt;obtain⟨Ad,Ag,Ae,Ah,Af,Ai⟩:=k0.n3 rfl;clear Ab k0 k1 k2 Aa;go_wp2_with fail;have Ba:=AD
      rotate_left
      focus
       rw[E6 hsg] at Ac;have An:nT ⟨BT,BV,BU⟩ mZ=true:=by simpa using hsg
       rw[An];clear hsg An
       by_cases hmore:M+2<N
       focus
        rw[E4 hmore] at Ac;have Aj:=Hh Ac;have Cq:decide ((M:Int)+1+1<(N:Int))=true:=by rw[decide_eq_true_iff];omega
        clear Ac;obtain⟨Ab,k0,k1,k2,Aa,Ap⟩:=AD.out;have hL:=kJ g (an oa n oc) (t::row) (an (aw ⟨b,Al,aq⟩) N rc) stop last ((M+2)) _ (H0.out.1.below Ab Ao) (H0.out.2.1.below Ab lz) (by simp;omega);rw[<-Aj.out,show ((((M+2):Nat)):Int)=(M:Int)+1+1 by omega] at hL;have H9:Hid (BA R=0/\DR R=bR):=Hh (by rw[Aj.out];exact kK _ _ _ _);simp only[jH] at hL;have At:=k0.lt;obtain⟨Ad,Ag,Ae,Ah,Af,Ai⟩:=k0.n3 rfl;clear Ab k0 k1 k2 Aa;go_wp2_with fail;have Ba:=AD
       rotate_left
       .rw[E6 hmore] at Ac
        have Aj:=Hh Ac;have Cq:decide ((M:Int)+1+1<(N:Int))=false:=by rw[decide_eq_false_iff_not];omega
        clear Ac;obtain⟨Ab,k0,k1,k2,Aa,Ap⟩:=AD.out;have At:=k0.lt;have Bm:=k1.lt;have Bn:=k2.lt;have HK:=Jh k1 (cE Aa (cE Ab (H0.out.1.below Ab Ao)));obtain⟨Ad,Ag,Ae,Ah,Af,Ai⟩:=k0.n3 rfl;obtain⟨Bs,Bz,Bt,B0,Bu,B1,Bv,B2,Bw,B3,Bx,B4,By,B5⟩:=k1.n7 rfl;obtain⟨Aw,A3,Ax,A4,Ay,A5,Az,A6,A0,A7,A1,A8,A2,A9⟩:=k2.n7 rfl;clear Ab k0 k1 k2 Aa;go_wp2_with fail;go_region
        all_goals
         go_wp2_with fail;obtain⟨k1,Aa,Ab,Bp⟩:=HK.out;have AL:=(k1.put [cG true,al t.text,al ⟨#[]⟩,al ⟨#[]⟩,an aq 0 0,an va pre.length vc,an aq 0 0] 0).drew;obtain⟨y0,y1,y2,y3,y4,y5,y6⟩:=AL.m7 rfl;simp only[aj] at y0 y1 y2 y3 y4 y5 y6;refine bj (v:=dr #[ao ar 4,ew #[cG true,al t.text,al ⟨#[]⟩,al ⟨#[]⟩,an aq 0 0,an va pre.length vc,an aq 0 0]]) (by simp[cD,Tryz.results84,go_sem,y0,y1,y2,y3,y4,y5,y6]) rfl ?_;show mX g (an oa n oc) R w _ (aj w5 (w.heap.size+1) 0 [cG true,al t.text,al ⟨#[]⟩,al ⟨#[]⟩,an aq 0 0,an va pre.length vc,an aq 0 0]).drew;rw[Aj.out];refine⟨((aF.of Ab).setAllNew (by omega) _).drew,(Bp.setAllOther (by omega)).drew,[cG true,al t.text,al ⟨#[]⟩,al ⟨#[]⟩,an aq 0 0,an va pre.length vc,an aq 0 0],rfl,?_⟩;refine⟨aX.leaf (af.leaf _ _ _ _) ?_,rfl⟩;exact LA (q:=w.heap.size+1) (B:=w.heap.size+3) (by omega) (by omega) Aa
  rotate_left 4
  focus
   have AE:decide ((M:Int)<(N:Int))=false:=by rw[decide_eq_false_iff_not];omega
   have Cs:((M:Int)==(N:Int))=true:=by rw[beq_iff_eq];omega
   have Ac:=Aq.out;rw[ek (by simp;omega),E4 (by rfl)] at Ac;have Aj:=Hh Ac;clear Ac Aq hlab hr;obtain⟨Ab,k0,k1,k2,Aa,Ap⟩:=HS.out;have hL:=kJ g (an oa n oc) (t::row) (an (aw ⟨b,Al,aq⟩) N rc) stop last (M) _ (H0.out.1.below Ab Ao) (H0.out.2.1.below Ab lz) (by simp;omega);rw[<-Aj.out,show (((M:Nat)):Int)=(M:Int) by omega] at hL;have H9:Hid (BA R=0/\DR R=bR):=Hh (by rw[Aj.out];exact kK _ _ _ _);simp only[jH] at hL;have At:=k0.lt;obtain⟨Ad,Ag,Ae,Ah,Af,Ai⟩:=k0.n3 rfl;clear Ab k0 k1 k2 Aa;go_wp2_with fail;have Ba:=HS
  all_goals
   try (
    refine hL.mono ?_;clear hL Ad Ae Af Ag Ah Ai;rintro _ w4 ⟨rfl,Av,p4⟩;obtain⟨Ab,k0,k1,k2,Aa,-⟩:=Ba.out;have q4:=Av.cells k1 (by omega);have Cw:=q4.lt;have Be:=Jh p4 ((aF.of Ab).trans Av);have BM:=Hh q4;obtain⟨B6,BE,B7,BF,B8,BG,B9,BH,BB,BI,BC,BJ,BD,BK⟩:=q4.n7 rfl;clear q4 p4 Av Ab k0 k1 k2 Aa;go_wp2_with fail
    skip)
   have AL:=BM.out.put ai 0;obtain⟨y0,y1,y2,y3,y4,y5,y6⟩:=AL.m7 rfl;simp only[aj] at y0 y1 y2 y3 y4 y5 y6;refine bj (v:=dr #[ao ar 0,ew #[cG false,al ⟨#[]⟩,al ⟨#[]⟩,al ⟨#[]⟩,an aq 0 0,an aq 0 0,an aq 0 0]]) (by simp[cD,Tryz.results84,go_sem,y0,y1,y2,y3,y4,y5,y6]) rfl ?_;show mX g (an oa n oc) R w _ (aj w4 (w.heap.size+1) 0 ai);exact⟨Be.out.2.setAllNew (by omega) _,Be.out.1.setAllOther (by omega),ai,by rw[H9.out.1],(by rw[H9.out.2];exact aX.zero _ _),rfl⟩
def Vi(w W:cd)(line:Array cq):Prop:=cj w.heap.size w W/\aa W w.heap.size line 65/\aa W (w.heap.size+1) ai.toArray 48/\w.heap.size+2<=W.heap.size
theorem Vi.step(h:Vi w W line)(hb:cj W.heap.size W W'):Vi w W' line:=
 ⟨h.1.trans (hb.mono h.1.size),h.2.1.below hb h.2.1.lt,h.2.2.1.below hb h.2.2.1.lt,dy h.2.2.2 hb.size⟩
theorem aX.shape7{t:bX}(h:aX P w t cs):∃n vo vt va vn vc la ln lc ia k cap,cs=[cG t.block,al n,al vo,al vt,an va vn vc,an la ln lc,an ia k cap]:=by
 cases t
 unfold aX at h;obtain⟨_,_,_,_,_,_,rfl,i,b,-⟩:=h.open;obtain⟨va,vn,vc,rfl⟩:=Ef i;obtain⟨la,lc,rfl,-⟩:=b.1.len;exact⟨_,_,_,_,_,_,_,_,_,_,_,_,rfl⟩
theorem QK(g:Nat)(oa:Option Addr)(n oc:Nat)(lv:cq)(stop:Int)(last:Bool)(w:cd)(h:jL w g (an oa n oc) 0 0)(E:aP w lv [])(M:∀b,lv.ownBlock=aw b->b<w.heap.size)(W:jF w)(hn:([]:List ae).length<=900000)(hsh:∀t∈([]:List ae),t.text.size<=1048576)(hq:∀t∈([]:List ae),t.kind=3->lm t.text≠aq) :
  cJ bh 52 #[cx (aw ⟨g,0,aq⟩),jH lv stop last] w (mX g (an oa n oc) (bn n [] stop last) w):=by
 obtain⟨u,x,rfl,Ah,Ai,-⟩:=E.len;obtain⟨N,C⟩:=exq (([]:List ae).length);have Aa:N<=([]:List ae).length/\([]:List ae).length<=N:=by omega
 rw[<-C] at E Ah M ⊢;unfold cV at Ai;have HN:=Hh C;clear C;obtain⟨R,D⟩:=exq (bn n [] stop last);have U:=Hh D;rw[<-D];clear D;have Ag:=h.lt;have Ad:cj w.heap.size w ((w.alloc (aE (eG (an u N x) stop last) 65)).alloc (aE ai.toArray 48)):=((ba _ w).alloc lz _).alloc (by simp) _;have O:=(aa.new w (eG (an u N x) stop last) 65).alloc (aE ai.toArray 48);have I:=aa.new (w.alloc (aE (eG (an u N x) stop last) 65)) ai.toArray 48;simp only[cF] at I;have Af:((w.alloc (aE (eG (an u N x) stop last) 65)).alloc (aE ai.toArray 48)).heap.size=w.heap.size+2:=by simp
 have V:=Hh (show Vi w ((w.alloc (aE (eG (an u N x) stop last) 65)).alloc (aE ai.toArray 48)) (eG (an u N x) stop last) from ⟨Ad,O,I,by rw[Af];exact cA _⟩);have Q:=Jh h (cE E (cE M W));clear Ad O I Af h E M W;have Ak:((N:Int)==0)=true:=by rw[beq_iff_eq];simp at Aa;omega
 have Ac:Hid (R=.empty):=U;have J:Hid (BA R=1/\DR R=bR):=Hh (by rw[Ac.out];exact⟨rfl,rfl⟩);go_in;go_wp2_with fail;obtain⟨Ae,k0,k1,Al⟩:=V.out;have Aj:=Hh k1;have Y:jL ((w.alloc (aE (eG (an u N x) stop last) 65)).alloc (aE ai.toArray 48)) g (an oa n oc) (Ki R).1 (Ki R).2:=by rw[Ac.out];exact Q.out.1.below Ae Ag
 have Ab:=Jh Y (aF.of (g:=g) Ae);obtain⟨Z,y1,y2,y3,y4,y5,y6⟩:=k1.m7 rfl;refine bj (v:=dr #[ao ar 1,ew #[cG false,al ⟨#[]⟩,al ⟨#[]⟩,al ⟨#[]⟩,an aq 0 0,an aq 0 0,an aq 0 0]]) (by simp[cD,pP,go_sem,Z,y1,y2,y3,y4,y5,y6]) rfl ?_;exact⟨Ab.out.2,Ab.out.1,ai,by rw[J.out.1],(by rw[J.out.2];exact aX.zero _ _),rfl⟩
theorem SF(b:Bool)(n o s:E7)(u:Option Addr)(x w:Nat)(i:Option Addr)(q j:Nat)(f:Option Addr)(k c:Nat):∀v∈(#[cG b,al n,al o,al s,an u x w,an i q j,an f k c]:Array cq).toList,v.oneCell'=true:=by
 intro v d;simp at d
 rcases d with rfl|rfl|rfl|rfl|rfl|rfl|rfl<;>rfl
theorem Fy{vals:Array cq}(hq:q<B)(hn:n<=B)(hx:aX (fun b=>B<=b) w3 x cs):aX (fun b=>n<=b) (w3.setRow q vals) x cs:=
 aX.move (P:=fun b=>B<=b) (Q:=fun b=>n<=b) (w:=w3) (w':=(w3.setRow q vals)) (Nat.le_of_eq (setRow_size w3 q vals).symm) (fun b (hb:B<=b) _=>ml w3 q b vals (by omega)) (fun b (hb:B<=b) _=>dy hn hb) x cs hx
theorem aF.setRowNew(h:aF g w w')(hq:w.heap.size<=q)(vals:Array cq):aF g w (w'.setRow q vals):=
 ⟨below_setRow h.1 (ck _) _,fun k hk hn=>(ml w' q k vals (by omega)).trans (h.2 k hk hn)⟩
theorem QJ(g:Nat)(oa:Option Addr)(n oc:Nat)(t:ae)(r:List ae)(lv:cq)(stop:Int)(last:Bool)(w:cd)(h:jL w g (an oa n oc) 0 0)(hr:aP w lv (t::r))(ho:∀b,lv.ownBlock=aw b->b<w.heap.size)(hT:jF w)(hn:(t::r).length<=900000)(hsh:∀u∈(t::r),u.text.size<=1048576)(hq:∀u∈(t::r),u.kind=3->lm u.text≠aq)(hs0:nT t mZ=false)(hk1:t.kind=1) :
  cJ bh 52 #[cx (aw ⟨g,0,aq⟩),jH lv stop last] w (mX g (an oa n oc) (bn n (t::r) stop last) w):=by
 obtain⟨ra,rc,rfl,A6,A7,-⟩:=hr.len;obtain⟨N,hN⟩:=exq ((t::r).length);have Ao:N<=(t::r).length/\(t::r).length<=N:=by omega
 rw[<-hN] at hr A6 ho ⊢;unfold cV at A7;have HN:=Hh hN;clear hN;obtain⟨R,hR⟩:=exq (bn n (t::r) stop last);have HR:=Hh hR;rw[<-hR];clear hR;have Ax:=h.lt;have A0:cj w.heap.size w ((w.alloc (aE (eG (an ra N rc) stop last) 65)).alloc (aE ai.toArray 48)):=((ba _ w).alloc lz _).alloc (by simp) _;have kA:=(aa.new w (eG (an ra N rc) stop last) 65).alloc (aE ai.toArray 48);have kB:=aa.new (w.alloc (aE (eG (an ra N rc) stop last) 65)) ai.toArray 48;simp only[cF] at kB;have A2:((w.alloc (aE (eG (an ra N rc) stop last) 65)).alloc (aE ai.toArray 48)).heap.size=w.heap.size+2:=by simp
 have HS:=Hh (show Vi w ((w.alloc (aE (eG (an ra N rc) stop last) 65)).alloc (aE ai.toArray 48)) (eG (an ra N rc) stop last) from ⟨A0,kA,kB,by rw[A2];exact cA _⟩);have Q:=Jh h (cE hr (cE ho hT));clear A0 kA kB A2 h hr ho hT;simp only[bc] at Ao hn;have AD:1<=N:=by omega
 have AF:((N:Int)==0)=false:=by rw[Fc];omega
 obtain⟨bb,ob,he,A8,c0,c1,c2⟩:=(Q.out.2.1.below HS.out.1 lz).get (j:=0) (by simp);cases he
 simp only[iz,eA,eg] at c0 c1 c2;have Aq:=rP t mZ ((w.alloc (aE (eG (an (aw ⟨bb,ob,aq⟩) N rc) stop last) 65)).alloc (aE ai.toArray 48));have Ac:=HR.out;simp only[bn] at Ac;rw[sG] at Ac;have As:=Hh Ac;clear Ac HR;have Aw:=Jh hsh hq;have AH:=hsh t (by simp);clear hsh hq;simp only[fo] at Aq;have Az:=Jh hs0 hk1;clear hs0 hk1;go_in;go_wp2_with fail;refine Aq.mono ?_;generalize (w.alloc (aE (eG (an (aw ⟨bb,ob,aq⟩) N rc) stop last) 65)).alloc (aE ai.toArray 48)=w1 at *;clear Aq c0 c1 c2 A8;rintro _ w2 ⟨rfl,hb2⟩;have Ab:=Hh (HS.out.step hb2);clear hb2 HS;have Ac:=As.out;clear As;have hs0:=Az.out.1;have hk1:=Az.out.2;rw[E6 (by simp[hs0])] at Ac;have Au:nT t mZ=false:=hs0;rw[Au];clear Au hs0;obtain⟨AB,AI,A4,A9,c0,c1,c2⟩:=(Q.out.2.1.below Ab.out.1 lz).get (j:=0) (by simp);cases A4
 simp only[iz,eA,eg] at c0 c1 c2;rw[E6 (by simpa using hk1)] at Ac;have AG:(t.kind != 1)=false:=by simp[hk1]
 cases r with
 |nil=>
  have hd:decide ((1:Int)<(N:Int))=false:=by rw[decide_eq_false_iff_not];simp at Ao;omega
  rw[E6 (by simp[cu])] at Ac;have hC:=Er g oa n oc t [] (an (aw ⟨bb,ob,aq⟩) N rc) stop last w2 (Q.out.1.below Ab.out.1 Ax) (Q.out.2.1.below Ab.out.1 lz) (Q.out.2.2.2.below Ab.out.1).utf (Q.out.2.2.2.below Ab.out.1).utf.pos (by simp) (fun t ht=>by cases ht) (fun t ht=>by cases ht);rw[<-Ac] at hC;obtain⟨Ad,k0,k1,Ar⟩:=Ab.out;have Ay:=k0.lt;obtain⟨Ae,Ah,Af,Ai,Ag,Aj⟩:=k0.n3 rfl;clear Ad k0 k1 Ac hk1;simp only[jH] at hC;go_wp2_with fail;clear Ae Af Ag Ah Ai Aj c0 c1 c2;refine hC.mono ?_;clear hC;rintro _ w4 ⟨M,p4,cs,rfl,K,O⟩;obtain⟨Y,Am,U,va,vn,vc,la,ln,lc,Al,W,Aa,rfl⟩:=aX.shape7 K;obtain⟨Ad,k0,k1,Ar⟩:=Ab.out;have q4:=M.cells k1 (by omega);have A1:=q4.lt;have Ak:=Jh p4 (cE ((aF.of Ad).trans M) (cE K O));have Ap:=Hh q4;clear q4 p4 M Ad k0 k1 K O;generalize (DR R).block=V at *;go_wp2_with (with_reducible first|refine bv ?_)
  refine Stop.out ?_;refine az rfl 48 _ _ rfl rfl _ rfl #[cG V,al Y,al Am,al U,an va vn vc,an la ln lc,an Al W Aa] rfl _ _ Ap.out rfl (by kernel_rfl) (SF _ _ _ _ _ _ _ _ _ _ _ _ _) ?_;have At:aa (w4.setRow (w.heap.size+1) #[cG V,al Y,al Am,al U,an va vn vc,an la ln lc,an Al W Aa]) (w.heap.size+1) #[cG V,al Y,al Am,al U,an va vn vc,an la ln lc,an Al W Aa] 48:=fR _ _ _ _ _ _ Ap.out;obtain⟨y0,y1,y2,y3,y4,y5,y6⟩:=At.m7 rfl;go_wp2;refine bj (v:=dr #[ao ar (BA R),ew #[cG V,al Y,al Am,al U,an va vn vc,an la ln lc,an Al W Aa]]) (by simp[cD,pP,go_sem,y0,y1,y2,y3,y4,y5,y6]) rfl ?_;exact⟨Ak.out.2.1.setRowNew (by omega) _,(ml _ _ _ _ (by omega)).trans Ak.out.1,_,rfl,Fy (B:=w2.heap.size) (by omega) (by omega) Ak.out.2.2.1,Ak.out.2.2.2⟩
 |cons t2 r2=>
  have AE:2<=N:=by simp at Ao;omega
  have hd:decide ((1:Int)<(N:Int))=true:=by rw[decide_eq_true_iff];simp at Ao;omega
  obtain⟨AC,AJ,A5,AA,d0,d1,d2⟩:=(Q.out.2.1.below Ab.out.1 lz).get (j:=1) (by simp);cases A5
  simp only[Nat.one_mul,lE,eg] at d0 d1 d2;have Aq:=rP t2 Gc w2;rw[sG] at Ac;have As:=Hh Ac;obtain⟨Ad,k0,k1,Ar⟩:=Ab.out;have Ay:=k0.lt;obtain⟨Ae,Ah,Af,Ai,Ag,Aj⟩:=k0.n3 rfl;clear Ad k0 k1 Ac hk1;simp only[fo] at Aq;go_wp2_with fail;refine Aq.mono ?_;clear Aq Ae Af Ag Ah Ai Aj c0 c1 c2 d0 d1 d2;rintro _ w5 ⟨rfl,hb5⟩;have A3:=Hh (Ab.out.step hb5);clear hb5 Ab;have Ac:=As.out;clear As;have Ab:=A3
  by_cases hsq:nT t2 Gc=true
  .rw[E4 hsq] at Ac
   rw[hsq];have hC:=Dk g (an oa n oc) t t2 r2 (an (aw ⟨bb,ob,aq⟩) N rc) stop last w5 (Q.out.1.below Ab.out.1 Ax) (Q.out.2.1.below Ab.out.1 lz) (fun b hb=>cT (Q.out.2.2.1 b hb) Ab.out.1.size) (Q.out.2.2.2.below Ab.out.1) (by simp at hn;omega) (fun t ht=>Aw.out.1 t (by simp[ht]));rw[<-Ac] at hC;obtain⟨Ad,k0,k1,Ar⟩:=Ab.out;have Ay:=k0.lt;obtain⟨Ae,Ah,Af,Ai,Ag,Aj⟩:=k0.n3 rfl;clear Ad k0 k1 Ac hsq;simp only[jH] at hC;go_wp2_with fail;clear Ae Af Ag Ah Ai Aj;refine hC.mono ?_;clear hC;rintro _ w4 ⟨M,p4,cs,rfl,K,O⟩;obtain⟨Y,Am,U,va,vn,vc,la,ln,lc,Al,W,Aa,rfl⟩:=aX.shape7 K;obtain⟨Ad,k0,k1,Ar⟩:=Ab.out;have q4:=M.cells k1 (by omega);have A1:=q4.lt;have Ak:=Jh p4 (cE ((aF.of Ad).trans M) (cE K O));have Ap:=Hh q4;clear q4 p4 M Ad k0 k1 K O;generalize (DR R).block=V at *;go_wp2_with (with_reducible first|refine bv ?_)
   refine Stop.out ?_;refine az rfl 48 _ _ rfl rfl _ rfl #[cG V,al Y,al Am,al U,an va vn vc,an la ln lc,an Al W Aa] rfl _ _ Ap.out rfl (by kernel_rfl) (SF _ _ _ _ _ _ _ _ _ _ _ _ _) ?_;have At:aa (w4.setRow (w.heap.size+1) #[cG V,al Y,al Am,al U,an va vn vc,an la ln lc,an Al W Aa]) (w.heap.size+1) #[cG V,al Y,al Am,al U,an va vn vc,an la ln lc,an Al W Aa] 48:=fR _ _ _ _ _ _ Ap.out;obtain⟨y0,y1,y2,y3,y4,y5,y6⟩:=At.m7 rfl;go_wp2;refine bj (v:=dr #[ao ar (BA R),ew #[cG V,al Y,al Am,al U,an va vn vc,an la ln lc,an Al W Aa]]) (by simp[cD,pP,go_sem,y0,y1,y2,y3,y4,y5,y6]) rfl ?_;exact⟨Ak.out.2.1.setRowNew (by omega) _,(ml _ _ _ _ (by omega)).trans Ak.out.1,_,rfl,Fy (B:=w5.heap.size) (by omega) (by omega) Ak.out.2.2.1,Ak.out.2.2.2⟩
  .rw[E6 hsq] at Ac
   have Av:nT t2 Gc=false:=by simpa using hsq
   rw[Av];have hC:=Er g oa n oc t (t2::r2) (an (aw ⟨bb,ob,aq⟩) N rc) stop last w5 (Q.out.1.below Ab.out.1 Ax) (Q.out.2.1.below Ab.out.1 lz) (Q.out.2.2.2.below Ab.out.1).utf (Q.out.2.2.2.below Ab.out.1).utf.pos (by simp at hn ⊢;omega) (fun t ht=>Aw.out.1 t (fi _ ht)) (fun t ht=>Aw.out.2 t (fi _ ht));rw[<-Ac] at hC;obtain⟨Ad,k0,k1,Ar⟩:=Ab.out;have Ay:=k0.lt;obtain⟨Ae,Ah,Af,Ai,Ag,Aj⟩:=k0.n3 rfl;clear Ad k0 k1 Ac hsq Av;simp only[jH] at hC;go_wp2_with fail;clear Ae Af Ag Ah Ai Aj;refine hC.mono ?_;clear hC;rintro _ w4 ⟨M,p4,cs,rfl,K,O⟩;obtain⟨Y,Am,U,va,vn,vc,la,ln,lc,Al,W,Aa,rfl⟩:=aX.shape7 K;obtain⟨Ad,k0,k1,Ar⟩:=Ab.out;have q4:=M.cells k1 (by omega);have A1:=q4.lt;have Ak:=Jh p4 (cE ((aF.of Ad).trans M) (cE K O));have Ap:=Hh q4;clear q4 p4 M Ad k0 k1 K O;generalize (DR R).block=V at *;go_wp2_with (with_reducible first|refine bv ?_)
   refine Stop.out ?_;refine az rfl 48 _ _ rfl rfl _ rfl #[cG V,al Y,al Am,al U,an va vn vc,an la ln lc,an Al W Aa] rfl _ _ Ap.out rfl (by kernel_rfl) (SF _ _ _ _ _ _ _ _ _ _ _ _ _) ?_;have At:aa (w4.setRow (w.heap.size+1) #[cG V,al Y,al Am,al U,an va vn vc,an la ln lc,an Al W Aa]) (w.heap.size+1) #[cG V,al Y,al Am,al U,an va vn vc,an la ln lc,an Al W Aa] 48:=fR _ _ _ _ _ _ Ap.out;obtain⟨y0,y1,y2,y3,y4,y5,y6⟩:=At.m7 rfl;go_wp2;refine bj (v:=dr #[ao ar (BA R),ew #[cG V,al Y,al Am,al U,an va vn vc,an la ln lc,an Al W Aa]]) (by simp[cD,pP,go_sem,y0,y1,y2,y3,y4,y5,y6]) rfl ?_;exact⟨Ak.out.2.1.setRowNew (by omega) _,(ml _ _ _ _ (by omega)).trans Ak.out.1,_,rfl,Fy (B:=w5.heap.size) (by omega) (by omega) Ak.out.2.2.1,Ak.out.2.2.2⟩
end Go.Proofs.YtgmpmolfcaihfaaGreatDoor
