/- Laws that TidyWell rests on; conditions: those that each names. -/
import Derived.Test.YtgmpmolfcaihfaaGreatDoorWgf
set_option linter.unusedSimpArgs false
set_option linter.unusedVariables false
set_option maxRecDepth 100000
set_option maxHeartbeats 20000000
open And renaming intro→cE
open Bool renaming and_eq_true→cP,and_true→ot,false_eq_true→fm,false_or→j0,true_and→ie
open Go renaming Addr→pC,Calls→cJ,IntKind→eC,TypeId→ff,Value→cq,World→cd,maxLen→cV,results→cD,wpQuiet_nil→py
open Go.Addr renaming add_lit→iS
open Go.Ending renaming returned→bk
open Go.IntKind renaming i64→ar
open Go.IntWalk renaming i64_in→cU
open Go.Lib renaming countByte→vq,hasSuffix→vu,indexAny→me
open Go.Obj renaming cells→aE
open Go.Obj.cells renaming injEq→mT
open Go.Proofs.Tryz renaming prog→bh,underlying55→mA
open Go.RowKit renaming Below→cj,intOf→cR
open Go.RowKit.Below renaming heap_setCell→ds,refl→ba
open Go.Value renaming bool→cG,int→ao,pointer→cx,slice→an,slice→iN,string→al,tuple→dr
open Go.Value.slice renaming injEq→fS
open Go.World renaming ownsRow_nil→ir,size_alloc→cF
open Go.World.ownsRow renaming lt→cy
open Int renaming toNat_natCast→eL
open List renaming append_assoc→ef,concat_eq_append→hU,cons_append→cf,drop_eq_getElem_cons→cg,drop_eq_nil_of_le→ek,drop_length→ei,drop_of_length_le→fg,drop_zero→dd,eq_nil_of_length_eq_zero→cC,eq_nil_or_concat→gS,filter_cons_of_neg→jx,filter_cons_of_pos→e8,flatMap_append→fp,flatMap_cons→fb,flatMap_map→vm,getElem?_cons_succ→ft,getElem?_eq_getElem→br,getElem?_eq_some_iff→fv,getElem_mem→cH,getLast?_concat→eM,getLast?_eq_getElem?→gk,head?_cons→nj,isEmpty_nil→s8,length_append→cm,length_cons→bc,length_drop→bm,length_map→cW,length_nil→cY,length_pos_iff→ey,length_take→c8,length→fh,map_append→eJ,map_cons→cI,map_map→ix,map_take→rj,mem_append→cX,mem_cons→cL,mem_map_of_mem→gw,mem_of_getElem?→mv,mem_singleton→de,nil_append→cM,take_append_drop→el,take_succ_cons→cN
open Nat renaming add_zero→eA,le_refl→cA,lt_of_lt_of_le→cT,sub_self→j9,zero_add→df,zero_le→ck
open Option renaming getD_some→jz,isSome_none→yW,isSome_some→zd,map_some→ns,none→aq,some→aw
open Option.some renaming injEq→du,inj→dt
namespace Go.Proofs.YtgmpmolfcaihfaaGreatDoor
variable{gap:Bool}{l:Bs}{s:E7}{d:Int}{xs:List cq}{Q R:List aB}{T a b:List ae}{B B1 base c g i j k n sz:Nat}{E:ff}{rv sv v:cq}{w w' w2:cd}{q r:aK}
def pM{α β:Type}(P:α->β->Prop):List α->List β->Prop
 |[],[]=>True
 |a::l,b::m=>P a b/\pM P l m
 |_,_=>False
theorem pM.map_eq{α β:Type}{f:β->α}:∀{l:List α} {m:List β},pM (fun a b=>a=f b) l m->l=m.map f
 |[],[],_=>rfl
 |a::l,b::m,h=>by rw[cI,<-pM.map_eq h.2,<-h.1]
 |[],_::_,h=>h.elim
 |_::_,[],h=>h.elim
theorem pM.imp{α β:Type}{P Q:α->β->Prop}:∀{l:List α} {m:List β},(∀a b,b∈m->P a b->Q a b)->pM P l m->pM Q l m
 |[],[],_,_=>trivial
 |a::l,b::m,h,hp=>⟨h a b (by simp) hp.1,pM.imp (fun a b hb=>h a b (by simp[hb])) hp.2⟩
 |[],_::_,_,h=>h.elim
 |_::_,[],_,h=>h.elim
theorem pM.mem{α β:Type}{P:α->β->Prop}:∀{l:List α} {m:List β},pM P l m->∀b∈m,∃a∈l,P a b
 |[],[],_,b,hb=>by cases hb
 | a::l,c::m,h,b,hb=>by
  rcases cL.1 hb with rfl|hb
  .exact⟨a,by simp,h.1⟩
  .obtain⟨x,h1,h2⟩:=pM.mem h.2 b hb
   exact⟨x,by simp[h1],h2⟩
 |[],_::_,h,_,_=>h.elim
 |_::_,[],h,_,_=>h.elim
def q9(ls:List Bs):Bs:=ls.flatMap fun a=>a++[10]
def kH:List Bs->Nat->Int->List aK
 |[],_,_=>[]
 |a::r,p,o=>mo o (aC a p).1 p ((p+a.length:Nat):Int)::kH r (p+a.length+1) (dn o (aC a p).1)
theorem ko:∀(ls:List Bs) (p:Nat) (o:Int),jb (ls++[[]]) p o=kH ls p o
 |[],p,o=>by simp[jb,kH]
 | a::r,p,o=>by
  obtain⟨x,q,e⟩:∃x q,r++[[]]=x::q:=by cases r<;>simp
  rw[cf,kH,<-ko r,e,jb]
theorem xI(l:Bs)(h:qW l=true):∃ls,jX l=ls++[[]]/\l=q9 ls/\∀a∈ls,10∉a:=by
 revert h
 refine um (P:=fun l=>qW l=true->∃ls,jX l=ls++[[]]/\l=q9 ls/\∀a∈ls,10∉a) ?_ ?_ l
 .intro a f h
  rw[oz a f]
  have:a=[]:=by
   rcases gS a with rfl|⟨q,c,rfl⟩
   .rfl
   .exfalso
    rw[hU] at f h;unfold qW at h;rw[eM] at h;exact f (by rw[of_decide_eq_true h];simp)
  subst this;exact⟨[],rfl,rfl,fun a h=>by cases h⟩
 .intro a b f r h
  have k:qW b=true:=by
   unfold qW at h ⊢;rw[List.getLast?_append,List.getLast?_cons] at h
   cases hl:b.getLast? with
   |none=>rfl
   |some c=>rw[hl] at h;exact h
  obtain⟨ls,i,g,j⟩:=r k;refine⟨a::ls,by rw[o6 a b f,i];rfl,?_,fun x hx=>?_⟩
  .unfold q9
   rw[fb,ef,List.singleton_append];unfold q9 at g;rw[<-g]
  .rcases cL.1 hx with rfl|hx
   .exact f
   .exact j x hx
def Wd(l a:Bs)(r:aK):Prop:=∃(q z:Bs) (o:Int),l=q++(a++z)/\(aC a q.length).2.2=0/\r=mo o (aC a q.length).1 (q.length:Nat) ((q.length+a.length:Nat):Int)
theorem AX(l:Bs):∀(ls:List Bs) (pre:Bs) (o:Int),l=pre++q9 ls->(aC (q9 ls) pre.length).2.2=0->pM (Wd l) ls (kH ls pre.length o)
 |[],_,_,_,_=>trivial
 | a::r,pre,o,hl,h0=>by
  have e:q9 (a::r)=a++10::q9 r:=by unfold q9;rw[fb];simp
  rw[e] at hl h0;obtain⟨c,f,-⟩:=ql a _ pre.length h0;have b:(pre++(a++[10])).length=pre.length+a.length+1:=by simp;omega
  refine⟨⟨pre,10::q9 r,o,hl,c,rfl⟩,?_⟩;have:=AX l r (pre++(a++[10])) (dn o (aC a pre.length).1) (by rw[hl];simp) (by rw[b];exact f)
  rwa [b] at this
def CL:Int->List aK->Prop
 |_,[]=>True
 |o,r::R=>r.dep=eB o r.toks/\CL (dn o r.toks) R
theorem tK:∀(ls:List Bs) (p:Nat) (o:Int),CL o (kH ls p o)
 |[],_,_=>trivial
 |a::r,p,o=>⟨rfl,tK r _ _⟩
def wB(r:aK):aB:=⟨r.toks,if r.toks.isEmpty then 0 else r.dep⟩
theorem vV:∀{R:List aK} {x:List ae} {q:List (List ae)},bq (R.map (·.toks))=x::q->∃d,lV R=aw d/\d.toks=x
 |[],_,_,h=>by cases h
 | r::R,x,q,h=>by
  rw[cI] at h;rw[lV]
  cases hr:r.toks with
  |nil=>
   rw[hr,bq] at h;simp only[s8,if_true];exact vV h
  |cons t p=>
   rw[hr,bq] at h;cases h
   exact⟨r,by simp,hr⟩
theorem Iw(h:xx r (aw q)=true):¬(fe r.toks=true/\il q.toks=true):=by
 rintro⟨b,a⟩;unfold xx at h;have j:=(xq b).1;have f:=(xz a).1
 have i:nD r=false:=by
  obtain⟨p,t,e,k⟩:=DX b;unfold nD;rw[e,eM];exact zS k
 have g:nE q=false:=by
  unfold nE
  cases hq:q.toks with
  |nil=>rfl
  |cons t p=>
   rw[hq] at a;exact zS (v:=mZ) a
 simp[j,f,i,g] at h
theorem Tf{R:List aK}(h:xx r (lV R)=true):rf r.toks (R.map (·.toks))=(r.toks,R.map (·.toks)):=by
 unfold rf;split
 .next c=>
  cases hd:bq (R.map (·.toks)) with
  |nil=>rfl
  |cons x q=>
   obtain⟨d,a,b⟩:=vV hd;rw[a] at h;simp only;rw[E6];intro i;exact Iw h ⟨c,by rw[b];exact i⟩
 .rfl
theorem Rh(o:Int):eB o []=o/\dn o []=o:=⟨rfl,rfl⟩
theorem Fe:∀(n:Nat) (gap:Bool) (R:List aK) (o:Int) (prev:Option aK),R.length<=n->CL o R->iw prev R=true->jm R=true->
  (gap=true->∃p q R',prev=aw p/\R=q::R'/\q.toks≠[]/\jy p.toks=false/\lW q.toks=false)->(∀p,prev=aw p->gap=false->p.toks≠[])->
  iL (eu n gap (R.map (·.toks))) o (prev.map fun p=>jy p.toks)=(if gap then [⟨[],0⟩] else [])++R.map wB
 | 0,gap,R,o,prev,hn,_,_,_,hg,_=>by
  obtain rfl:=cC (Nat.le_zero.1 hn)
  cases gap with
  |false=>rfl
  |true=>obtain⟨p,q,R',-,h,-⟩:=hg rfl;cases h
 | n+1,gap,[],o,prev,_,_,_,_,hg,_=>by
  cases gap with
  |false=>rfl
  |true=>obtain⟨p,q,R',-,h,-⟩:=hg rfl;cases h
 | n+1,gap,r::R,o,prev,hn,hd,he,hj,hg,hp=>by
  simp only[bc] at hn;rw[iw,cP] at he;rw[jm,cP] at hj;obtain⟨hd1,hd2⟩:=hd;rw[cI]
  cases hr:r.toks with
  |nil=>
   have hgf:gap=false:=by
    cases gap with
    |false=>rfl
    |true=>
     obtain⟨p,q,R',-,h,i,-⟩:=hg rfl;cases h
     exact absurd hr i
   subst hgf;rw[hr] at he hd2;simp only[s8,Bool.not_true,j0] at he;obtain⟨Aa,Ab⟩:=he;unfold sI at Aa;split at Aa
   .next p q i=>
    simp only[cP,Bool.not_eq_true',List.isEmpty_eq_false_iff] at Aa
    obtain⟨R',rfl⟩:∃R',R=q::R':=by
     cases R with
     |nil=>cases i
     |cons x R'=>cases i;exact⟨R',rfl⟩
    have Ad:q.toks≠[]:=by
     intro e;rw[iw,e] at Ab;simp only[s8,Bool.not_true,j0,cP] at Ab;have:=Ab.1;unfold sI at this;cases hh:R'.head?<;>simp[hh,hr] at this
    rw[eu]
    have k:=Fe n true (q::R') o (aw p) (by omega) (by rw[(Rh o).2] at hd2;exact hd2) (by
     rw[iw,cP] at Ab ⊢
     exact⟨by cases hqt:q.toks with
      |nil=>exact absurd hqt Ad
      |cons t x=>rfl,Ab.2⟩) hj.2 (fun _=>⟨p,q,R',rfl,rfl,Ad,Aa.2.1,Aa.2.2⟩) (fun _ _ h=>by cases h)
    rw[k];have:wB r=⟨[],0⟩:=by unfold wB;rw[hr];rfl
    rw[cI (f:=wB) (a:=r),this];simp
   .cases Aa
  |cons t q=>
   have Ac:=Tf hj.1;rw[hr] at Ac;rw[eu,Ac,iL];simp only;have k:=Fe n false R (dn o (t::q)) (aw r) (by omega) (by rw[<-hr];exact hd2) he.2 hj.2 (fun h=>by cases h) (fun p e _=>by cases e;rw[hr];simp);rw[ns,hr] at k;rw[k,cI]
   have C:wB r=⟨t::q,eB o (t::q)⟩:=by
    unfold wB;rw[hd1,hr];rfl
   rw[C]
   congr 1
   cases gap with
   |false=>rfl
   |true=>
    obtain⟨p,E,R',rfl,h,D,A,z⟩:=hg rfl;cases h
    rw[hr] at z;simp[A,z]
structure K4(l:Bs):Prop where
 nl:qW l=true
 tail:∀r∈aA l,lQ l r r.toks.length=[]
 emp:iw aq (aA l)=true
 ind:∀r∈aA l,jd l r=true
 spc:∀r∈aA l,iZ l r (r.toks.length-1) 1=true
 aln:eU l (aA l) (-1) true=true
 jn:jm (aA l)=true
theorem zK:∀(r:List ae) (s n i:Nat),ng r s n=aw i->s<=i/\(dX (r.take (i-s))).length=n/\∃t,r[i-s]?=aw t/\dD t=false
 |[],_,_,_,h=>by cases h
 | t::r,s,0,i,h=>by
  rw[ng] at h;split at h
  .next hc=>
   obtain⟨h1,h2,h3⟩:=zK r (s+1) 0 i h;have e:i-s=(i-(s+1))+1:=by omega
   refine⟨by omega,?_,?_⟩
   .rw[e,cN]
    unfold dX at h2 ⊢;rw[jx (by rw[hc];decide)];exact h2
   .rw[e,ft];exact h3
  .next hc=>
   cases h
   exact⟨cA _,by rw[j9];rfl,t,by rw[j9];rfl,by simpa using hc⟩
 | t::r,s,n+1,i,h=>by
  rw[ng] at h;split at h
  .next hc=>
   obtain⟨h1,h2,h3⟩:=zK r (s+1) (n+1) i h;have e:i-s=(i-(s+1))+1:=by omega
   refine⟨by omega,?_,?_⟩
   .rw[e,cN]
    unfold dX at h2 ⊢;rw[jx (by rw[hc];decide)];exact h2
   .rw[e,ft];exact h3
  .next hc=>
   obtain⟨h1,h2,h3⟩:=zK r (s+1) n i h;have e:i-s=(i-(s+1))+1:=by omega
   refine⟨by omega,?_,?_⟩
   .rw[e,cN]
    unfold dX at h2 ⊢;rw[e8 (by simpa using hc),bc,h2]
   .rw[e,ft];exact h3
theorem Nz{p:List ae}{k:pO}(h:sV n p k){x:bX}(e:k=.attr x):∃a u q,p=a::u::q/\a.kind=1:=by
 cases h with
 |attr h1 _ _=>exact⟨_,_,_,rfl,h1⟩
 |_=>cases e
theorem vT{r:List ae}{k:pO}(h:lS r)(R:sV n (dX r) k)(hi:gK r=aw i):∀t∈r.take i,Vd (kG t):=by
 have Ab:ng r 0 1=aw i/\bZ (r[i]?.getD ⟨0,⟨#[]⟩,0⟩) Gc=true:=by
  unfold gK at hi;split at hi
  .next j Q=>
   split at hi
   .next A=>cases hi;exact⟨Q,A⟩
   .cases hi
  .cases hi
 have Af:=(iq hi).2;obtain⟨-,E,H,B,L⟩:=zK r 0 1 i Ab.1;rw[Nat.sub_zero] at E B;obtain⟨a,F⟩:∃a,dX (r.take i)=[a]:=List.length_eq_one_iff.1 E;have A:=Ab.2;rw[B,jz] at A
 have Aa:dX r=a::H::dX (r.drop (i+1)):=by
  have e:r=r.take i++H::r.drop (i+1):=by
   have:=fv.1 B;obtain⟨Ae,e⟩:=this;rw[<-e,<-cg Ae,el]
  conv=>lhs;rw[e,qK,F]
  unfold dX;rw[e8 (by rw[L];rfl)];rfl
 have Ad:U1 (dX r)=true:=by rw[Aa];exact A
 obtain⟨x,rfl⟩:=R.facts.at_.1 Ad
 have Ac:a.kind=1:=by
  obtain⟨W,u,q,e,J⟩:=Nz R rfl;rw[Aa] at e;cases e
  exact J
 intro t C;have U:t∈r:=List.mem_of_mem_take C;refine R7 (h.told t U) ?_
 cases hc:dD t with
 |false=>
  have:t∈dX (r.take i):=by
   unfold dX;exact List.mem_filter.2 ⟨C,by rw[hc];rfl⟩
  rw[F,de] at this;subst this;exact .inl Ac
 |true=>
  rcases (qy t).1 hc with M|N
  .exfalso
   obtain⟨u,v,e⟩:=List.append_of_mem C
   have I:r=u++t::(v++r.drop i):=by
    conv=>lhs;rw[<-el i r,e]
    simp
   have:=h.rem u _ t I M;have P:r.drop i=[]:=(List.append_eq_nil_iff.1 this).2;have:=congrArg fh P;rw[bm] at this;simp at this
   omega
  .exact .inr N
theorem AJ:∀(L:List (List ae)) (st:List bX),st≠[]->(dZ L st).isSome=true->∀r∈L,∃n k,sV n (dX r) k
 |[],_,_,_=>by intro r hr;cases hr
 | a::L,st,hs,h=>by
  obtain⟨k,h1,h2,h3,h4,h5⟩:=nM hs h;intro r hr;rcases cL.1 hr with rfl|hr
  .exact⟨_,k,h2⟩
  .exact AJ L _ h4 h5 r hr
def kR(l:Bs)(r:aK):Nat:=(lQ l r ((gK r.toks).getD 0)).length
theorem ME(r:aK):sP (wB r)=(gK r.toks).isSome:=rfl
theorem Cx(l:Bs):∀(R:List aK) (col:Int) (near:Bool),(∀r∈R,∀i,gK r.toks=aw i->rD l r i=true->uH l r i=((cQ (wB r)+kR l r:Nat):Int)/\1<=kR l r/\(lQ l r i).length=kR l r)->
  eU l R col near=true->fV (R.map fun r=>(wB r,kR l r)) col near=true
 |[],_,_,_,h=>h
 | r::R,col,near,hr,h=>by
  have ih:=fun c n=>Cx l R c n (fun x hx=>hr x (by simp[hx]));rw[cI,fV];rw[eU] at h;simp only[ME]
  cases he:gK r.toks with
  |none=>
   rw[he] at h;simp only[cP] at h;simp only[yW,fm,if_false,cP];exact⟨h.1,ih _ _ h.2⟩
  |some i=>
   rw[he] at h;simp only[cP,decide_eq_true_eq] at h;obtain⟨g1,g2,g3⟩:=h;obtain⟨q1,q2,q3⟩:=hr r (by simp) i he g1;rw[q1] at g2 g3;rw[q3] at g3;simp only[zd,if_true,cP,decide_eq_true_eq];exact⟨q2,g2,ih _ _ g3⟩
theorem Cy(l:Bs):∀(X:List (Nat×aB)) (R:List aK) (col:Int) (near:Bool),pM (fun (x:Nat×aB) (r:aK)=>gK r.toks=gK x.2.toks/\∀i,gK r.toks=aw i->rD l r i=true/\uH l r i=((cQ x.2+(zW x).2:Nat):Int)/\(lQ l r i).length=(zW x).2) X R->
  fV (X.map zW) col near=true->eU l R col near=true
 |[],[],_,_,_,h=>h
 | x::X,r::R,col,near,hr,h=>by
  obtain⟨⟨h1,h2⟩,h3⟩:=hr;have ih:=fun c n=>Cy l X R c n h3;rw[cI,fV] at h;rw[eU];have ha:sP (zW x).1=(gK r.toks).isSome:=by rw[h1];rfl
  rw[ha] at h
  cases he:gK r.toks with
  |none=>
   rw[he] at h;simp only[yW,fm,if_false,cP] at h;simp only[cP];exact⟨h.1,ih _ _ h.2⟩
  |some i=>
   rw[he] at h;simp only[zd,if_true,cP,decide_eq_true_eq] at h;obtain⟨b,d,f⟩:=h2 i he;have e:(zW x).1=x.2:=rfl;rw[e] at h;simp only[cP,decide_eq_true_eq];rw[d,f];exact⟨b,h.2.1,ih _ _ h.2.2⟩
 |[],_::_,_,_,h,_=>h.elim
 |_::_,[],_,_,h,_=>h.elim
def Me(l:Bs)(r:aK)(j:Nat):Nat:=if gK r.toks=aw j then kR l r else nu r.toks (wB r).ind j
theorem wJ(c:jd l r=true)(n:iZ l r (r.toks.length-1) 1=true)(k:j<r.toks.length)(f:gK r.toks≠aw j):lQ l r j=iR (Me l r j):=by
 unfold Me nu;rw[E6 f]
 by_cases b:j=0
 .subst b
  rw[E4 rfl];unfold jd at c
  have Aa:r.toks.isEmpty=false:=by
   cases hr:r.toks with
   |nil=>rw[hr] at k;simp at k
   |cons t q=>rfl
  rw[Aa,j0] at c
  have hi:(wB r).ind=(2*r.dep).toNat:=by
   unfold wB aB.ind;simp only[Aa,fm,if_false]
  rw[hi];exact (FV c).1
 .rw[E6 b]
  rcases (vH l r _ 1).1 n j (by omega) (by omega) with h|h
  .exfalso
   unfold KI at h;split at h
   .next i hi=>
    rw[hi] at f;exact f (by congr 1;omega)
   .omega
  .have:=(FV h).1
   rwa [eL] at this
theorem ug(c:gK r.toks=aw i)(h:rD l r i=true):lQ l r i=iR (kR l r)/\1<=kR l r:=by
 have b:kR l r=(lQ l r i).length:=by unfold kR;rw[c];rfl
 unfold rD at h;rw[cP] at h;refine⟨?_,?_⟩
 .have:=(FV h.2).1
  rw[b]
  rwa [eL] at this
 .rw[b]
  refine ey.2 fun e=>?_;have:=h.1;rw[e] at this;cases this
theorem Sl(hi:lY l r)(L:lS r.toks){k:pO}(I:sV n (dX r.toks) k)(F:jd l r=true)(M:iZ l r (r.toks.length-1) 1=true)(f:gK r.toks=aw i)(h:rD l r i=true) :
  uH l r i=((cQ (wB r)+kR l r:Nat):Int):=by
 have Ad:=iq f;obtain⟨x,g2⟩:=ug f h
 have A:=hi.col (g:=Me l r) Ad.2 (fun j hj=>by
  by_cases e:j=i
  .subst e
   rw[x];unfold Me;rw[E4 f]
  .exact wJ F M (by omega) (by rw[f];intro q;cases q;exact e rfl))
 have Ac:Me l r i=kR l r:=by unfold Me;rw[E4 f]
 have Aa:bz (wB r)=fu (jP (Me l r) 0 (r.toks.take i)):=by
  unfold bz dw;have Ab:(wB r).eq=i:=by unfold aB.eq wB;simp only[f];rfl
  have C:(wB r).toks=r.toks:=rfl;rw[Ab,C,wQ,dd,su]
  congr 1
  refine mh 0 _ (fun j _ hj=>?_);unfold Me;rw[f,E6];intro q;cases q
  rw[c8] at hj;omega
 have E:Vd (fu (jP (Me l r) 0 (r.toks.take i))):=EG _ _ 0 (vT L I f);unfold uH;rw[A,Ac,(E.app (Dp _).1).2,(Dp _).2,<-Aa];rfl
theorem xV(hv:(aT l).2.2=0)(h:K4 l):l=iC ((aA l).map (·.toks)):=by
 obtain⟨S,x,hx,-⟩:=iD hv;obtain⟨L,c1,O,c3⟩:=xI l h.nl;have hR:aA l=kH L 0 0:=by rw[fK S,c1,ko]
 have Ad:=AX l L [] 0 (by rw[cM];exact O) (by rw[<-O];exact S);rw[cY,<-hR] at Ad;have Ab:=tK L 0 0;rw[<-hR] at Ab;have hl:=nW S;have hK:=AJ _ [bR] (by simp) (by rw[hx];rfl)
 have Ai:∀r∈aA l,lY l r:=fun r hr=>by
  obtain⟨a,-,q,z,o,G,N,rfl⟩:=Ad.mem r hr;exact lY.of G N
 have Ae:=Fe (aA l).length false (aA l) 0 aq lz Ab h.emp h.jn (fun q=>by cases q) (fun p q=>by cases q)
 have hT:di ((aA l).map (·.toks))=(aA l).map wB:=by
  unfold di;rw[cW];exact Ae
 have hZ:=Cx l (aA l) (-1) true (fun r hr i he hg=>by
  obtain⟨n,k,hk⟩:=hK r.toks (gw hr);refine⟨Sl (Ai r hr) (hl r hr) hk (h.ind r hr) (h.spc r hr) he hg,(ug he hg).2,?_⟩;unfold kR;rw[he]
  rfl) h.aln
 have hW:=qC _ [] 0 true (.inl ⟨rfl,hZ⟩);rw[List.map_nil,cM,ix,ix] at hW
 have Af:∀r∈aA l,∀i,gK r.toks=aw i->rD l r i=true:=by
  have hk:∀(R:List aK) (col:Int) (near:Bool),eU l R col near=true->∀r∈R,∀i,gK r.toks=aw i->rD l r i=true:=by
   intro R
   induction R with
   |nil=>intro _ _ _ r hr;cases hr
   |cons d R ih=>
    intro col near F r hr i he;rw[eU] at F
    cases hd:gK d.toks with
    |none=>
     rw[hd] at F;simp only[cP] at F;rcases cL.1 hr with rfl|hr
     .rw[hd] at he;cases he
     .exact ih _ _ F.2 r hr i he
    |some j=>
     rw[hd] at F;simp only[cP] at F;rcases cL.1 hr with rfl|hr
     .rw[hd] at he;cases he;exact F.1
     .exact ih _ _ F.2.2 r hr i he
  exact hk _ _ _ h.aln
 obtain⟨s1,s2⟩:=nR ((aA l).map (·.toks))
 have Ah:lT ((aA l).map (·.toks))=(aA l).map fun r=>wZ (wB r,kR l r):=by
  unfold lT;rw[hT];exact hW
 rw[s1,Ah,vm]
 have Aa:L=(aA l).map fun r=>eY (wZ (wB r,kR l r)):=by
  refine pM.map_eq (pM.imp (fun a r hr hp=>?_) Ad);obtain⟨q,z,o,G,N,Ag⟩:=hp;have hI:=lY.of (o:=o) G N;rw[<-Ag] at hI
  have Aj:uD (eX l r.hi r.lo r.toks) r.toks=a:=by
   have:=(xg a.length a q z q.length lz lz N (by rw[fg lz];intro c hc;cases hc)).2;rw[<-G,fg lz,cM] at this;rw[Ag];exact this
  rw[<-Aj,hI.text (g:=Me l r) (fun j hj=>?_) (h.tail r hr)]
  .unfold eY zt
   refine congrArg fu (mh 0 _ (fun j _ _=>?_));unfold Me gW wZ;simp only;have ht:(wB r).toks=r.toks:=rfl;rw[ht]
   by_cases e:gK r.toks=aw j
   .rw[E4 e,E4 e]
    have F:sP (wB r)=true:=by rw[ME,e];rfl
    have G:=(ug e (Af r hr j e)).2;rw[F,E4 rfl];show _=cQ (wB r)+kR l r-1-cQ (wB r)+1;omega
   .rw[E6 e,E6 e]
  .by_cases e:gK r.toks=aw j
   .have G:=(ug e (Af r hr j e)).1
    rw[G];unfold Me;rw[E4 e]
   .exact wJ (h.ind r hr) (h.spc r hr) hj e
 have Ac:q9 L=(aA l).flatMap fun r=>qj (wZ (wB r,kR l r)):=by
  rw[Aa];unfold q9;rw[vm];rfl
 exact O.trans Ac
def uT(p q:Option (List ae)):Bool:=match p,q with
 |some p,aw q=>!p.isEmpty&&(!jy p&&!lW q)
 |_,_=>false
def lG:Option (List ae)->List (List ae)->Bool
 |_,[]=>true
 |p,r::R=>(!r.isEmpty || uT p R.head?)&&lG (aw r) R
theorem FM:∀(R:List aK) (p:Option aK),iw p R=lG (p.map fun d=>m0 d.toks) (R.map fun d=>m0 d.toks)
 |[],_=>rfl
 | r::R,p=>by
  rw[iw,cI,lG,FM R (aw r)];have e1:(m0 r.toks).isEmpty=r.toks.isEmpty:=by cases r.toks<;>rfl
  have a:sI p R.head?=uT (p.map fun d=>m0 d.toks) ((R.map fun d=>m0 d.toks).head?):=by
   cases R with
   |nil=>cases p<;>rfl
   |cons q R=>
    cases p with
    |none=>rfl
    |some p=>
     have b:(m0 p.toks).isEmpty=p.toks.isEmpty:=by cases p.toks<;>rfl
     simp only[sI,uT,nj,ns,cI,b,Bj,Cm]
  rw[e1,a];rfl
theorem FL:∀(R:List (List ae)) (p:Option (List ae)),lG (p.map m0) (R.map m0)=lG p R
 |[],_=>rfl
 | r::R,p=>by
  rw[cI,lG,lG,<-FL R (aw r)];have e1:(m0 r).isEmpty=r.isEmpty:=by cases r<;>rfl
  have a:uT (p.map m0) ((R.map m0).head?)=uT p R.head?:=by
   cases R with
   |nil=>cases p<;>rfl
   |cons q R=>
    cases p with
    |none=>rfl
    |some p=>
     have b:(m0 p).isEmpty=p.isEmpty:=by cases p<;>rfl
     simp only[uT,nj,ns,cI,b,Bj,Cm]
  rw[e1,a];rfl
theorem Ml:∀(F:List rG) (d:Int) (pv:Option (List ae)),(∀f∈F,f.toks≠[])->(∀p,pv=aw p->p≠[])->lG pv ((iL F d (pv.map jy)).map (·.toks))=true
 |[],_,pv,_,_=>by cases pv<;>rfl
 | f::F,d,pv,h,hp=>by
  have hf:=h f (by simp);have ih:=Ml F (dn d f.toks) (aw f.toks) (fun g hg=>h g (by simp[hg])) (fun p e=>by cases e;exact hf)
  have hfe:f.toks.isEmpty=false:=by
   cases hq:f.toks with
   |nil=>exact absurd hq hf
   |cons t q=>rfl
  rw[ns] at ih
  have Aa:∀p,lG p (f.toks::(iL F (dn d f.toks) (aw (jy f.toks))).map (·.toks))=true:=fun p=>by
   rw[lG,hfe,ih];rfl
  rw[iL,eJ,cI];split
  .next j=>
   show lG pv ([]::f.toks::_)=true;rw[lG,Aa];simp only[s8,Bool.not_true,j0,ot,nj];simp only[cP] at j;obtain⟨-,k,u,i⟩:=j
   cases pv with
   |none=>cases k
   |some p=>
    have Ab:p.isEmpty=false:=by
     cases hq:p with
     |nil=>exact absurd hq (hp p rfl)
     |cons t q=>rfl
    unfold uT;simp only[Ab]
    cases ho:jy p with
    |true=>rw[ns,ho] at i;simp at i
    |false=>simpa using u
  .exact Aa pv
def RN:List (List ae)->Prop
 |[]=>True
 |r::L=>(∀x q,bq L=x::q->¬(fe r=true/\il x=true))/\RN L
def VM:List rG->Prop
 |[]=>True
 |f::F=>(∀g G,F=g::G->¬(fe f.toks=true/\il g.toks=true))/\VM F
theorem QT{r x:List ae}(h:r≠[]):il (r++x)=il r:=by
 cases r with
 |nil=>exact absurd rfl h
 |cons t q=>rfl
theorem IZ:∀(n:Nat) (gap:Bool) (l:List (List ae)) (f:rG) (F:List rG),eu n gap l=f::F->∃x q,bq l=x::q/\il f.toks=il x
 |0,_,_,_,_,h=>by cases h
 |n+1,_,[],_,_,h=>by cases h
 | n+1,gap,[]::l,f,F,h=>by
  rw[eu] at h;exact IZ n true l f F h
 | n+1,gap,(t::q)::l,f,F,h=>by
  rw[eu] at h;cases h
  refine⟨t::q,l,rfl,?_⟩;simp only;unfold rf;split
  .split
   .split
    .exact QT (by simp)
    .rfl
   .rfl
  .rfl
theorem FN:∀(n:Nat) (gap:Bool) (l:List (List ae)),(∀r∈l,lW r=true->jy r=false)->VM (eu n gap l)
 |0,_,_,_=>trivial
 |n+1,_,[],_=>trivial
 | n+1,gap,[]::l,h=>by
  rw[eu];exact FN n true l (fun r hr=>h r (by simp[hr]))
 | n+1,gap,(t::q)::l,h=>by
  have hl:∀r∈l,lW r=true->jy r=false:=fun r hr=>h r (by simp[hr]);rw[eu];unfold rf
  have hplain:(∀x p,bq l=x::p->fe (t::q)=true->il x=true->False)->VM (⟨t::q,gap⟩::eu n false l):=fun hno=>by
   refine⟨fun g G e hc=>?_,FN n false l hl⟩;obtain⟨x,p,h1,h2⟩:=IZ _ _ _ _ _ e;exact hno x p h1 hc.1 (by rw[<-h2];exact hc.2)
  split
  .next hlast=>
   split
   .next x p hd=>
    split
    .next hx=>
     have hin:=(iP hd).2.2;refine⟨fun g G e hc=>?_,FN n false p (fun r hr=>hl r (hin r (.inr hr)))⟩;have h1:=hc.1;simp only at h1;rw[QF (iP hd).1] at h1;have h2:=hl x (hin x (.inl rfl)) (xz hx).1;rw[(xq h1).1] at h2;cases h2
    .next hx=>exact hplain (fun y p2 h1 _ h3=>by rw[hd] at h1;cases h1;exact hx h3)
   .next hd=>exact hplain (fun y p2 h1 _ _=>by rw[hd] at h1;cases h1)
  .next hlast=>exact hplain (fun _ _ _ h2 _=>hlast h2)
theorem Qj:∀(F:List rG) (d:Int) (pv:Option Bool),VM F->(∀f∈F,f.toks≠[])->RN ((iL F d pv).map (·.toks))/\∀x q,bq ((iL F d pv).map (·.toks))=x::q->∃f G,F=f::G/\x=f.toks
 |[],_,_,_,_=>⟨trivial,fun x q h=>by cases h⟩
 | f::F,d,pv,h,hn=>by
  obtain⟨i1,i2⟩:=Qj F (dn d f.toks) (aw (jy f.toks)) h.2 (fun g hg=>hn g (by simp[hg]));have hf:=hn f (by simp)
  have hdf:∀L,bq (f.toks::L)=f.toks::L:=fun L=>by
   cases hq:f.toks with
   |nil=>exact absurd hq hf
   |cons t p=>rfl
  have hA:RN (f.toks::(iL F (dn d f.toks) (aw (jy f.toks))).map (·.toks)):=by
   refine⟨fun x q hx hc=>?_,i1⟩;obtain⟨g,G,e1,rfl⟩:=i2 x q hx;exact h.1 g G e1 hc
  rw[iL,eJ,cI];split
  .refine⟨⟨fun x q _ hc=>(by have a:fe []=true:=hc.1;cases a),hA⟩,fun x q hx=>?_⟩
   have hx:bq (f.toks::_)=x::q:=hx;rw[hdf] at hx;cases hx
   exact⟨f,F,rfl,rfl⟩
  .refine⟨hA,fun x q hx=>?_⟩
   have hx:bq (f.toks::_)=x::q:=hx;rw[hdf] at hx;cases hx
   exact⟨f,F,rfl,rfl⟩
theorem TY:∀R:List (List ae),RN R->RN (R.map m0)
 |[],_=>trivial
 | r::R,h=>by
  refine⟨fun x q hx hc=>?_,TY R h.2⟩;rw[xG] at hx
  cases hd:bq R with
  |nil=>rw[hd] at hx;cases hx
  |cons y p=>
   rw[hd] at hx;cases hx
   exact h.1 y p hd ⟨by rw[<-BL];exact hc.1,by rw[<-BS];exact hc.2⟩
theorem QN(h:¬(fe r.toks=true/\il q.toks=true)):xx r (aw q)=true:=by
 unfold xx
 cases ho:jy r.toks with
 |false=>rfl
 |true=>
  cases hl:nD r with
  |true=>rfl
  |false=>
   cases hc:lW q.toks with
   |false=>simp[hc]
   |true=>
    cases hh:nE q with
    |true=>simp[hh]
    |false=>
     exfalso
     refine h ⟨?_,?_⟩
     .rcases gS r.toks with e|⟨p,t,e⟩
      .rw[e] at ho;cases ho
      .rw[hU] at e
       unfold nD at hl;rw[e,eM] at hl;unfold jy at ho;rw[e,qK] at ho;have:dX [t]=[t]:=by unfold dX;have hl:dD t=false:=hl;rw[e8 (by rw[hl];rfl)];rfl
       rw[this,eM] at ho;unfold fe;rw[e,eM];exact ho
     .cases hq:q.toks with
      |nil=>rw[hq] at hc;cases hc
      |cons t p=>
       unfold nE at hh;rw[hq,nj] at hh;unfold lW at hc;rw[hq] at hc;have:dX (t::p)=t::dX p:=by unfold dX;have hh:dD t=false:=hh;rw[e8 (by rw[hh];rfl)]
       rw[this] at hc;exact hc
theorem BO:∀R:List aK,RN (R.map (·.toks))->jm R=true
 |[],_=>rfl
 | r::R,h=>by
  rw[jm,cP];refine⟨?_,BO R h.2⟩
  cases hq:lV R with
  |none=>unfold xx;cases jy r.toks<;>cases nD r<;>rfl
  |some q=>
   have hdr:∃p,bq (R.map (·.toks))=q.toks::p:=by
    have a:∀(R:List aK) (q:aK),lV R=aw q->∃p,bq (R.map (·.toks))=q.toks::p:=by
     intro R
     induction R with
     |nil=>intro q h;cases h
     |cons d R ih=>
      intro q h;rw[lV] at h
      cases hd:d.toks with
      |nil=>
       rw[hd] at h;simp only[s8,if_true] at h;rw[cI,hd,bq];exact ih q h
      |cons t p=>
       rw[hd] at h;simp only[List.isEmpty_cons,fm,if_false,du] at h;subst h;rw[cI,hd];exact⟨_,rfl⟩
    exact a R q hq
   obtain⟨p,b⟩:=hdr;exact QN (h.1 _ _ b)
theorem Br:∀R:List (List ae),RN (R.map m0)->RN R
 |[],_=>trivial
 | r::R,h=>by
  refine⟨fun x q hx hc=>?_,Br R h.2⟩;refine h.1 (m0 x) (q.map m0) (by rw[xG,hx];rfl) ⟨by rw[BL];exact hc.1,by rw[BS];exact hc.2⟩
def MN:Int->List aB->Prop
 |_,[]=>True
 |o,r::R=>(r.toks≠[]->r.dep=eB o r.toks)/\MN (dn o r.toks) R
theorem Ih:∀(F:List rG) (d:Int) (pv:Option Bool),MN d (iL F d pv)
 |[],_,_=>trivial
 | f::F,d,pv=>by
  have ih:=Ih F (dn d f.toks) (aw (jy f.toks));rw[iL];split
  .exact⟨fun h=>absurd rfl h,fun _=>rfl,ih⟩
  .exact⟨fun _=>rfl,ih⟩
open Go.RowKit Go.Tab
abbrev RS(s:E7)(v:cq):cq:=.agg #[al s,v]
theorem Ck(s:E7)(i j:Nat):(s.extract i j).data.toList=(s.data.toList.take j).drop i:=by
 simp[ByteArray.data_extract,Array.toList_extract,List.extract,List.drop_take]
theorem VT(w:cd)(A B:Array cq)(T U:ff)(n:Nat):aa (((w.alloc (aE A T)).alloc (aE B U)).drewN n) w.heap.size A T/\aa (((w.alloc (aE A T)).alloc (aE B U)).drewN n) (w.heap.size+1) B U/\cj w.heap.size w (((w.alloc (aE A T)).alloc (aE B U)).drewN n):=by
 have q:=aa.new (w.alloc (aE A T)) B U;simp only[cF] at q;exact⟨(aa.new w A T).alloc _,q,ag (((ba _ w).alloc lz _).alloc (by simp) _) n⟩
theorem uC(s:E7)(ra:Option pC)(rn rc:Nat)(lv:cq)(r:aK)(i:Nat)(w:cd)(h:aP w lv r.toks)(hl:r.toks.length<=1000000)(hi:i<=r.toks.length)(hs:s.size<=800000)(hf:TR s.data.toList r) :
  cJ bh 108 #[RS s (an ra rn rc),Ny lv r.lo r.hi r.dep,ao ar (i:Nat)] w fun e w'=>e=bk (al (au (lQ s.data.toList r i)))/\cj w.heap.size w w':=by
 obtain⟨f1,W,X,-⟩:=hf i hi;rw[aM] at X;obtain⟨x,H⟩:∃x:Nat,pJ r i=x:=⟨(pJ r i).toNat,by omega⟩;obtain⟨y,F⟩:∃y:Nat,jh r i=y:=⟨(jh r i).toNat,by omega⟩
 have hE:s.extract x y=au (lQ s.data.toList r i):=by
  apply jA
  rw[Ck,aV];unfold lQ kQ;rw[H,F];rfl
 rw[<-hE];rw[H] at f1 W;rw[F] at W X;have Ah:(0:Int)<=x/\(x:Int)<=y/\(y:Int)<=s.size:=⟨f1,W,X⟩;clear hE hf f1 W X;obtain⟨Aa,lo,Ab,Ad⟩:=r;obtain⟨a,c,rfl,h1,h2,-⟩:=h.len;unfold cV at h2;simp only at hl hi h1 h2 h H F ⊢;have G:=Hh (VT w #[al s,an ra rn rc] #[an a Aa.length c,ao ar lo,ao ar Ab,ao ar Ad] 94 78);have U:=Hh h;clear h
 cases i with
 |zero=>
  have H:lo=x:=H;subst H
  by_cases O:0<Aa.length
  .obtain⟨b,Af,rfl,Ae,I⟩:=gD U.out O
   have F:Aa[0].pos=y:=by
    unfold jh at F
    simpa [br O] using F
   rw[F] at I;have L:=Hh I;clear I F hi;go_in;go_wp2_with fail;go_quiet (fail)
   have q2:=(L.out _ (G.out nq).2.2).2.2;have j:=G.out nq;have Y:=j.1.cell 0 _ rfl;obtain⟨e1,Z,e3⟩:=j.2.1.m3 rfl;have l0:=j.1.lt;have l1:=j.2.1.lt;clear j;go_wp2;go_ret;exact⟨rfl,(G.out nq).2.2⟩
  .obtain rfl:Aa=[]:=List.length_eq_zero_iff.1 (by omega)
   have F:Ab=y:=F;subst F;clear U;go_in;go_wp2_with fail;go_quiet (fail)
   have j:=G.out nq;have Y:=j.1.cell 0 _ rfl;obtain⟨e1,Z,e3⟩:=j.2.1.m3 rfl;have l0:=j.1.lt;have l1:=j.2.1.lt;clear j;go_wp2;go_ret;exact⟨rfl,(G.out nq).2.2⟩
 |succ i=>
  have Ac:i<Aa.length:=by omega
  obtain⟨b,Af,rfl,Ae,I⟩:=gD U.out Ac
  have H:Aa[i].pos+(Aa[i].text.size:Int)=x:=by
   unfold pJ at H
   simpa [br Ac] using H
  have L:=Hh I;generalize Aa[i]=u at *;obtain⟨uk,ut,up⟩:=u;simp only at H L;have kw:eC.i64.wrap (up+(ut.size:Int))=(x:Int):=by rw[H];exact cU _ (by omega)
  have k0:eC.i64.wrap (((i+1:Nat):Int)-1)=(i:Int):=by rw[cU _ (by omega)];omega
  clear I H
  by_cases O:i+1<Aa.length
  .obtain⟨b',Ag,e',-,hr⟩:=gD U.out O
   cases e'
   have F:Aa[i+1].pos=y:=by
    unfold jh at F
    simpa [br O] using F
   rw[F] at hr;have HR:=Hh hr;clear hr F hi;go_in;go_wp2_with fail;go_quiet (fail)
   obtain⟨q0,q1,q2⟩:=L.out _ (G.out nq).2.2;have r2:=(HR.out _ (G.out nq).2.2).2.2;have j:=G.out nq;have Y:=j.1.cell 0 _ rfl;obtain⟨e1,Z,e3⟩:=j.2.1.m3 rfl;have l0:=j.1.lt;have l1:=j.2.1.lt;clear j;have lb:b<w.heap.size+1+1:=by omega
   go_wp2;go_ret;exact⟨rfl,(G.out nq).2.2.alloc (G.out nq).2.2.size _⟩
  .have F:Ab=y:=by
    unfold jh at F
    simpa [List.getElem?_eq_none (show Aa.length<=i+1 by omega)] using F
   subst F;clear hi;go_in;go_wp2_with fail;go_quiet (fail)
   obtain⟨q0,q1,q2⟩:=L.out _ (G.out nq).2.2;have j:=G.out nq;have Y:=j.1.cell 0 _ rfl;obtain⟨e1,Z,e3⟩:=j.2.1.m3 rfl;have l0:=j.1.lt;have l1:=j.2.1.lt;clear j;go_wp2;go_ret;exact⟨rfl,(G.out nq).2.2.alloc (G.out nq).2.2.size _⟩
theorem vX(s:E7)(n:Int)(w:cd):cJ bh 110 #[al s,ao ar n] w fun e w'=>e=bk (cG (qA s.data.toList n))/\w'=w:=by
 have i:=fun W=>Tryz.strings_Count_one s 32 W;have e1:=dN (s.size:Int) n;have k:=dN (vq s.data.toList 32:Int) n
 have c:qA s.data.toList n=(decide ((s.size:Int)=n)&&decide ((vq s.data.toList 32:Int)=n)):=by
  unfold qA;rw[aM];rfl
 rw[c];generalize decide ((s.size:Int)=n)=f at *;generalize decide ((vq s.data.toList 32:Int)=n)=j at *;generalize (vq s.data.toList 32:Int)=m at *;clear c;go_in;cases f
 .go_wp2
  go_ret;exact⟨rfl,rfl⟩
 .go_wp2_with fail
  refine (i _).mono ?_;rintro _ _ ⟨rfl,rfl⟩;go_wp2;go_ret;exact⟨rfl,rfl⟩
theorem oQ(w:cd)(a:Option pC)(n c:Nat)(lo hi d:Int):cJ bh 109 #[Ny (an a n c) lo hi d] w fun e w'=>e=bk (cG (decide (n=0)))/\cj w.heap.size w w':=by
 have Aa:cj w.heap.size w (w.alloc (aE #[an a n c,ao ar lo,ao ar hi,ao ar d] 78)):=(ba _ w).alloc lz _;have f:=Hh Aa;have e1:((n:Int)==0)=decide (n=0):=by rw[dN];congr 1;simp
 clear Aa;generalize decide (n=0)=b at *;go_in;go_wp2;go_ret;exact⟨rfl,f.out⟩
theorem Tz(l:Bs):qW l=(l.isEmpty || vu l [10]):=by
 unfold qW vu;rcases gS l with rfl|⟨q,c,rfl⟩
 .rfl
 .rw[hU,eM]
  have e:List.isSuffixOf [10] (q++[c])=((10:UInt8)==c):=by
   unfold List.isSuffixOf;rw[List.reverse_append];simp[List.isPrefixOf]
  have a:(q++[c]).isEmpty=false:=by cases q<;>rfl
  rw[e,a,j0];show decide (c=10)=_
  by_cases h:c=10
  .subst h;rfl
  .rw[decide_eq_false h]
   symm
   rw[Fc];exact fun q=>h q.symm
theorem Oz(s:E7)(E:Option pC)(G F:Nat)(w:cd)(v:s.size<=800000):cJ bh 72 #[RS s (an E G F)] w fun e w'=>e=bk (cG (qW s.data.toList))/\cj w.heap.size w w':=by
 have f:=fun W=>Tryz.strings_HasSuffix s ⟨#[10]⟩ W (by omega);have i:Hid (cj w.heap.size w (w.alloc (aE #[al s,an E G F] 94))):=Hh ((ba _ w).alloc lz _);have u:=wD s ⟨#[]⟩
 have j:s.data.toList.isEmpty=decide (s=⟨#[]⟩):=by
  by_cases h:s=⟨#[]⟩
  .subst h;rfl
  .rw[decide_eq_false h]
   cases hl:s.data.toList with
   |nil=>exact absurd (jA (by rw[hl])) h
   |cons a l=>rfl
 have Aa:s.toList.isEmpty=decide (s=⟨#[]⟩):=by
  by_cases h:s=⟨#[]⟩
  .subst h;rw[decide_eq_true rfl];kernel_rfl
  .rw[decide_eq_false h]
   exact vM fun h0=>h (jA (cC (by rw[aM];exact h0)))
 rw[Tz,j];change ∀W,cJ _ _ _ _ (fun e w'=>e=bk (cG (vu s.data.toList [10]))/\_) at f;generalize decide (s=⟨#[]⟩)=b at *;generalize vu s.data.toList [10]=k at *;clear j v;go_in;cases b
 .go_wp2_with fail
  refine (f _).mono ?_;rintro _ _ ⟨rfl,rfl⟩;clear f;go_wp2;go_ret;exact⟨rfl,i.out⟩
 .go_wp2
  go_ret;exact⟨rfl,i.out⟩
theorem UN(r:aK):KI r=match ng r.toks 0 1 with
  |some j=>if bZ (r.toks[j]?.getD ⟨0,⟨#[]⟩,0⟩) Gc then (j:Int) else -1
  |none=>-1:=by
 unfold KI gK
 cases ng r.toks 0 1 with
 |none=>rfl
 |some j=>
  simp only;split<;>rename_i h
  .split at h
   .next q=>cases h;rw[E4 q]
   .cases h
  .split at h
   .cases h
   .next q=>rw[E6 q]
theorem Il(w:cd)(lv:cq)(r:aK)(h:aP w lv r.toks)(hl:r.toks.length<=1000000) :
  cJ bh 111 #[Ny lv r.lo r.hi r.dep] w fun e w'=>e=bk (ao ar (KI r))/\cj w.heap.size w w':=by
 have G:=UN r;obtain⟨l,lo,hi,d⟩:=r;simp only at h hl G ⊢;obtain⟨a,c,rfl,h1,h2,-⟩:=h.len;unfold cV at h2;have Aa:cj w.heap.size w (w.alloc (aE #[an a l.length c,ao ar lo,ao ar hi,ao ar d] 78)):=(ba _ w).alloc lz _;have F:=yY _ _ l lo hi d 1 (h.below Aa lz) hl (by omega);have S:=(aa.new w #[an a l.length c,ao ar lo,ao ar hi,ao ar d] 78)
 cases hp:ng l 0 1 with
 |none=>
  rw[hp] at G F;rw[G];simp only[rA] at F;clear h G hp S;go_in;go_wp2_with fail;refine F.mono ?_;rintro _ w2 ⟨rfl,E⟩;have J:=Hh (Aa.trans (E.mono Aa.size));clear F Aa E;go_wp2;go_ret;exact⟨rfl,J.out⟩
 |some j=>
  have T:=(yu l 0 1 j hp).2;rw[df] at T;rw[hp] at G F;simp only[br T,jz] at G;rw[G];simp only[rA] at F;obtain⟨b,Ao,rfl,Am,X⟩:=gD h T;have L:=fun W=>fO l[j] ⟨#[61]⟩ W (by decide);have Ak:bZ l[j] Gc=aO l[j] [61]:=(uA l[j] 61).symm;have V:=Hh X;generalize l[j]=t at *;obtain⟨kd,tx,ps⟩:=t;simp only[fo] at L V;rw[Ak];change ∀W,cJ _ _ _ _ (fun e w'=>e=bk (cG (aO ⟨kd,tx,ps⟩ [61]))/\_) at L;generalize aO ⟨kd,tx,ps⟩ [61]=ab at *;have U:=Hh S;clear h G hp X S Ak;go_in;go_wp2_with fail;refine F.mono ?_;rintro _ w2 ⟨rfl,E⟩;have Ab:=U.out.below E U.out.lt;obtain⟨q0,q1,q2⟩:=V.out w2 (Aa.trans (E.mono Aa.size));have An:=Ab.lt;have J:=Hh (Aa.trans (E.mono Aa.size));obtain⟨Ac,Ag,Ad,Ah,Ae,Ai,Af,Aj⟩:=Ab.n4 rfl;clear F Aa E Ab;go_wp2_with fail;refine (L _).mono ?_;rintro _ w3 ⟨rfl,H⟩;have Al:=Hh (J.out.trans (H.mono J.out.size));clear L H;cases ab
  all_goals
   go_wp2;go_ret;exact⟨rfl,Al.out⟩
def RY(l:Bs)(r:aK):Prop:=TR l r/\r.toks.length<=1000000/\-1000000<=r.dep/\r.dep<=1000000
abbrev wK(s:cq)(r:aK):Obj:=aE #[s,ao ar r.lo,ao ar r.hi,ao ar r.dep] 78
structure RX(B g:Nat)(s:E7)(rv sv:cq)(r:aK)(w W:cd):Prop where
 own:aS B W sv r.toks
 t:aa W g #[al s,rv] 94
 b:aa W w.heap.size #[sv,ao ar r.lo,ao ar r.hi,ao ar r.dep] 78
 p:cj w.heap.size w W
theorem RX.of(h1:aS B w sv r.toks)(h2:aa w g #[al s,rv] 94):RX B g s rv sv r w (w.alloc (wK sv r)):=
 ⟨h1.alloc _,h2.alloc _,aa.new _ _ _,(ba _ _).alloc lz _⟩
theorem RX.below{W W':cd}(h:RX B g s rv sv r w W)(hb:cj W.heap.size W W'):RX B g s rv sv r w W':=
 ⟨h.own.below hb lz,h.t.below hb h.t.lt,h.b.below hb h.b.lt,av h.p hb⟩
theorem Fz(s:E7)(rv:cq)(R:List aK)(w:cd)(hR:iQ B w rv R)(P:∀r∈R,RY s.data.toList r)(hs:s.size<=800000) :
  cJ bh 75 #[RS s rv] w fun e w'=>e=bk (cG (jB s.data.toList R))/\cj w.heap.size w w':=by
 obtain⟨Z,L,rfl,At,Aq,-⟩:=hR.len;unfold cV at Aq;have HR:=Hh hR;have HF:=Hh P;have H0:Hid (cj w.heap.size w (w.alloc (aE #[al s,an Z R.length L] 94))/\aa (w.alloc (aE #[al s,an Z R.length L] 94)) w.heap.size #[al s,an Z R.length L] 94):=Hh ⟨(ba _ w).alloc lz _,aa.new _ _ _⟩;clear hR P;go_in;go_wp2;go_loopw [8] (fun i wr=>∃k:Nat,k<=R.length/\i=ao ar (k:Int)/\Hid (jB s.data.toList (R.drop k)=jB s.data.toList R)/\cj w.heap.size w wr/\aa wr w.heap.size #[al s,an Z R.length L] 94) (fun i _=>R.length-(cR i).toNat)
 .exact⟨0,ck _,rfl,Hh rfl,H0.out.1,H0.out.2⟩
 clear H0;obtain⟨k,hk,rfl,U,T,M⟩:=hrel
 by_cases H:k<R.length
 .
  obtain⟨b,Am,s0,rfl,As,Aa,q0,q1,q2,q3⟩:=(HR.out.below T).get H;have P:=HF.out R[k] (cH H);have hD:R.drop k=R[k]::R.drop (k+1):=cg H;have HD:=Hh hD;generalize R[k]=r at *;obtain⟨a,c,he⟩:=Aa.len;obtain⟨sa,sn,sc⟩:=s0;simp only[dS,fS] at he;obtain⟨rfl,rfl,rfl⟩:=he;simp only[dS] at q0 Aa;have O:=Hh (RX.of Aa M);have Ag:=Hh P;have W:=Hh T;have Ar:=P.2.1;have Au:=M.lt;clear Aa P T hD;obtain⟨Ai,Ak,Aj,Al⟩:=M.n2 rfl;clear M;have An:jB s.data.toList (R.drop k)=(jd s.data.toList r&&jB s.data.toList (R.drop (k+1))):=by rw[HD.out];rfl
  have Ah:=Hh An;have kd:eC.i64.wrap (2*r.dep)=2*r.dep:=by have:=Ag.out.2.2;exact cU _ (by omega)
  obtain⟨J,Ao⟩:=exq (wr.alloc (wK (an sa r.toks.length sc) r));rw[<-Ao] at O;have X:=fun x:bG J=>O.out.below x.below;have c0:=fun x:bG J=>(X x).t.cell 0 _ rfl;have c1:=fun x:bG J=>(X x).t.cell 1 _ rfl;have d0:=fun x:bG J=>(X x).b.cell 0 _ rfl;have d1:=fun x:bG J=>(X x).b.cell 1 _ rfl;have d2:=fun x:bG J=>(X x).b.cell 2 _ rfl;have d3:=fun x:bG J=>(X x).b.cell 3 _ rfl;have Ac:=fun x:bG J=>bG.call x (uC s (aw ⟨b,Am,aq⟩) R.length L _ r 0 x.w (X x).own.toks Ag.out.2.1 (ck _) hs Ag.out.1);have Ae:=fun x:bG J=>bG.call x (oQ x.w sa r.toks.length sc r.lo r.hi r.dep);obtain⟨A,hA⟩:=exq (lQ s.data.toList r 0);rw[<-hA] at Ac;change ∀x:bG J,cJ _ _ #[_,_,ao ar 0] _ _ at Ac;have Ad:=fun x:bG J=>bG.call x ((vX (au A) (2*r.dep) x.w).mono fun e w' h=>⟨h.1,by rw[h.2];exact ba _ _⟩)
  have HI:Hid (jd s.data.toList r=(decide (r.toks.length=0) || qA A (2*r.dep))):=Hh (by
   unfold jd;rw[hA]
   congr 1
   cases r.toks<;>rfl)
  rw[aV] at Ad;generalize qA A (2*r.dep)=bB at *;generalize au A=sA at *;generalize decide (r.toks.length=0)=bE at *;have Ab:=Hh (W.out.trans (O.out.p.mono W.out.size));have Af:=Hh O.out.t;clear hA An O X;subst Ao
  cases bE with
  |true=>
   go_wp2_with fail;refine eD _ (by kernel_rfl) (by kernel_rfl) (ba _ _) ?_;repeat (go_big_quiet_step ((first|(with_reducible exact Ae _))))
   refine py ?_;rintro _ ⟨x,rfl⟩;have HN:Hid (cj w.heap.size w x.w/\aa x.w w.heap.size #[al s,an (aw ⟨b,Am,aq⟩) R.length L] 94):=Hh ⟨Ab.out.trans (x.below.mono Ab.out.size),Af.out.below x.below Af.out.lt⟩;clear Ac Ad Ae c0 c1 d0 d1 d2 d3;go_wp2;go_roundw
   .exact⟨k+1,H,by go_num,Hh (by rw[<-U.out,Ah.out,HI.out];rfl),HN.out⟩
   simp[cR];omega
  |false=>
   go_wp2_with fail;refine eD _ (by kernel_rfl) (by kernel_rfl) (ba _ _) ?_;repeat (go_big_quiet_step ((first|(with_reducible exact Ae _)|(with_reducible exact Ac _)|(with_reducible exact Ad _))))
   refine py ?_;rintro _ ⟨x,rfl⟩
   cases bB with
   |false=>
    have Ap:=Hh (Ab.out.trans (x.below.mono Ab.out.size));clear Ac Ad Ae c0 c1 d0 d1 d2 d3;go_wp2;go_ret;rw[<-U.out,Ah.out,HI.out];exact⟨rfl,Ap.out⟩
   |true=>
    have HN:Hid (cj w.heap.size w x.w/\aa x.w w.heap.size #[al s,an (aw ⟨b,Am,aq⟩) R.length L] 94):=Hh ⟨Ab.out.trans (x.below.mono Ab.out.size),Af.out.below x.below Af.out.lt⟩;clear Ac Ad Ae c0 c1 d0 d1 d2 d3;go_wp2;go_roundw
    .exact⟨k+1,H,by go_num,Hh (by rw[<-U.out,Ah.out,HI.out];rfl),HN.out⟩
    simp[cR];omega
 .obtain rfl:k=R.length:=by omega
  have W:=Hh T;have HE:=Hh U.out;rw[ei] at HE;clear T;obtain⟨Ai,Ak,Aj,Al⟩:=M.n2 rfl;clear M;go_wp2;go_ret;rw[<-HE.out];exact⟨rfl,W.out⟩
theorem Rv(l:Bs):Lib.containsAny l [9,13]=FY l:=by
 have f:∀l:Bs,decide (0<=me l [9,13])=FY l:=by
  intro l
  induction l with
  |nil=>rfl
  |cons c l ih=>
   have i:=Lib.indexAny_ge [9,13] l;unfold FY at ih ⊢;rw[List.any_cons,me,<-ih]
   by_cases h:([9,13]:Bs).contains c=true
   .rw[E4 h]
    have:(decide (c=9) || decide (c=13))=true:=by
     simpa using h
    rw[this];rfl
   .rw[E6 h]
    have:(decide (c=9) || decide (c=13))=false:=by
     simpa using h
    rw[this,j0]
    by_cases e:me l [9,13] = -1
    .rw[e];rfl
    .rw[E6 (by simpa using e),decide_eq_true (by omega),decide_eq_true (by omega)]
 exact f l
theorem Ex(s:E7)(r:aK)(i:Nat):(au (lQ s.data.toList r i)).size<=s.size:=by
 show (lQ s.data.toList r i).toArray.size<=_;unfold lQ kQ;have:=aM s;simp
 omega
theorem OE(s:E7)(rv:cq)(R:List aK)(w:cd)(hR:iQ B w rv R)(V:∀r∈R,RY s.data.toList r)(hs:s.size<=800000) :
  cJ bh 73 #[RS s rv] w fun e w'=>e=bk (cG (pE s.data.toList R))/\cj w.heap.size w w':=by
 obtain⟨ra,O,rfl,A4,A2,-⟩:=hR.len;unfold cV at A2;have HR:=Hh hR;have HF:=Hh V;have H0:Hid (cj w.heap.size w (w.alloc (aE #[al s,an ra R.length O] 94))/\aa (w.alloc (aE #[al s,an ra R.length O] 94)) w.heap.size #[al s,an ra R.length O] 94):=Hh ⟨(ba _ w).alloc lz _,aa.new _ _ _⟩;clear hR V;go_in;go_wp2;go_loopw [9] (fun i wr=>∃k:Nat,k<=R.length/\i=ao ar (k:Int)/\Hid (pE s.data.toList (R.drop k)=pE s.data.toList R)/\cj w.heap.size w wr/\aa wr w.heap.size #[al s,an ra R.length O] 94) (fun i _=>R.length-(cR i).toNat)
 .exact⟨0,ck _,rfl,Hh rfl,H0.out.1,H0.out.2⟩
 clear H0;obtain⟨k,hk,rfl,HA,hb,N⟩:=hrel
 by_cases H:k<R.length
 .
  obtain⟨b,A0,s0,rfl,A3,Aa,q0,q1,q2,q3⟩:=(HR.out.below hb).get H;have V:=HF.out R[k] (cH H);have hD:R.drop k=R[k]::R.drop (k+1):=cg H;have HD:=Hh hD;generalize R[k]=r at *;obtain⟨a,c,he⟩:=Aa.len;obtain⟨sa,sn,sc⟩:=s0;simp only[dS,fS] at he;obtain⟨rfl,rfl,rfl⟩:=he;simp only[dS] at q0 Aa;have T:=Hh (RX.of Aa N);have A1:=Hh V;have I:=Hh hb;have Aw:=V.2.1;have A5:=N.lt;clear Aa V hb hD;obtain⟨Ac,Ae,Ad,Af⟩:=N.n2 rfl;clear N;have Au:Hid (pE s.data.toList (R.drop k)=(yK s.data.toList r&&pE s.data.toList (R.drop (k+1)))):=Hh (by rw[HD.out];rfl);obtain⟨w1,rfl⟩:=exq wr;have Ax:=Hh A1.out.1;go_wp2;go_loopw [16] (fun i W=>∃j:Nat,j<=r.toks.length/\i=ao ar (j:Int)/\Hid (sM s.data.toList r (r.toks.length-j) j=sM s.data.toList r r.toks.length 0)/\RX B w.heap.size s (an (aw ⟨b,A0,aq⟩) R.length O) (an sa r.toks.length sc) r w1 W) (fun i _=>r.toks.length-(cR i).toNat)
  .exact⟨0,ck _,rfl,Hh rfl,T.out⟩
  clear T q0 q1 q2 q3 Ac Ad Ae Af;obtain⟨j,hj,rfl,HJ,Z⟩:=hrel;have Ab:=uC s (aw ⟨b,A0,aq⟩) R.length O _ r j wr Z.own.toks Aw hj hs Ax.out;have Av:=Ex s r j;have As:=(Ax.out j hj).2.2.2;have T:=Hh Z;have ht:=Z.t;have hv:=Z.b;have Ay:=ht.lt;have Az:=hv.lt;obtain⟨Ag,Ai,Ah,Aj⟩:=ht.n2 rfl;obtain⟨Ak,Ao,Al,Ap,Am,Aq,An,Ar⟩:=hv.n4 rfl;clear ht hv Z
  by_cases hjl:j<r.toks.length
  .have L:Hid (sM s.data.toList r (r.toks.length-j) j=(!FY (lQ s.data.toList r j)&&sM s.data.toList r (r.toks.length-(j+1)) (j+1))):=Hh (by
    rw[show r.toks.length-j=(r.toks.length-(j+1))+1 by omega];rfl)
   obtain⟨A,U⟩:=exq (lQ s.data.toList r j);rw[<-U] at Ab Av As L
   have At:=fun W=>Tryz.strings_ContainsAny_laid (au A) ⟨#[9,13]⟩ W (by omega) (by decide) (fun q c hc=>As c (mv hc)) (fun q c hc=>by
    have:=mv hc;simp at this
    rcases this with rfl|rfl<;>decide)
   change ∀W,cJ _ _ _ _ (fun e w'=>e=bk (cG (Lib.containsAny A [9,13]))/\_) at At;rw[Rv] at At;generalize FY A=bB at *;generalize au A=sA at *;clear U Av As;go_wp2_with fail;refine Ab.mono ?_;rintro _ w4 ⟨rfl,G⟩;clear Ab;have P:=Hh (T.out.below G);clear G;go_wp2_with fail;refine (At _).mono ?_;rintro _ w5 ⟨rfl,hb5⟩;clear At;have H5:=Hh (P.out.below hb5);clear hb5 Ak Al Am An Ao Ap Aq Ar Ag Ah Ai Aj Ay Az
   cases bB with
   |false=>
    go_wp2;go_roundw
    .exact⟨j+1,hjl,by go_num,Hh (by rw[<-HJ.out,L.out];rfl),H5.out⟩
    simp[cR];omega
   |true=>
    go_wp2;go_ret;rw[<-HA.out,Au.out];unfold yK;rw[<-HJ.out,L.out];exact⟨rfl,I.out.trans (H5.out.p.mono I.out.size)⟩
  .obtain rfl:j=r.toks.length:=by omega
   rw[j9] at HJ;have L:Hid (yK s.data.toList r=(lQ s.data.toList r r.toks.length).isEmpty):=Hh (by unfold yK;rw[<-HJ.out];rfl);obtain⟨A,U⟩:=exq (lQ s.data.toList r r.toks.length);rw[<-U] at Ab L;clear Av As
   have he:(au A).toList.isEmpty=A.isEmpty:=by
    cases A with
    |nil=>kernel_rfl
    |cons x A=>exact vM (by show (x::A).toArray.size≠0;simp)
   generalize A.isEmpty=bE at *;generalize au A=sA at *;clear U;go_wp2_with fail;refine Ab.mono ?_;rintro _ w4 ⟨rfl,G⟩;clear Ab;have P:=Hh (T.out.below G);clear G Ak Al Am An Ao Ap Aq Ar Ag Ah Ai Aj Ay Az
   cases bE with
   |true=>
    go_wp2;go_roundw
    .exact⟨k+1,H,by go_num,Hh (by rw[<-HA.out,Au.out,L.out];rfl),I.out.trans (P.out.p.mono I.out.size),P.out.t⟩
    simp[cR];omega
   |false=>
    go_wp2;go_ret;rw[<-HA.out,Au.out,L.out];exact⟨rfl,I.out.trans (P.out.p.mono I.out.size)⟩
 .obtain rfl:k=R.length:=by omega
  have I:=Hh hb;have HE:=Hh HA.out;rw[ei] at HE;clear hb;obtain⟨Ac,Ae,Ad,Af⟩:=N.n2 rfl;clear N;go_wp2;go_ret;rw[<-HE.out];exact⟨rfl,I.out⟩
theorem JH(s:E7)(rv:cq)(R:List aK)(w:cd)(hR:iQ B w rv R)(hF:∀r∈R,RY s.data.toList r)(hs:s.size<=800000) :
  cJ bh 76 #[RS s rv] w fun e w'=>e=bk (cG (l9 s.data.toList R))/\cj w.heap.size w w':=by
 obtain⟨ra,rc,rfl,A9,A5,-⟩:=hR.len;unfold cV at A5;have HR:=Hh hR;have HF:=Hh hF;have H0:Hid (cj w.heap.size w (w.alloc (aE #[al s,an ra R.length rc] 94))/\aa (w.alloc (aE #[al s,an ra R.length rc] 94)) w.heap.size #[al s,an ra R.length rc] 94):=Hh ⟨(ba _ w).alloc lz _,aa.new _ _ _⟩;clear hR hF;go_in;go_wp2;go_loopw [10] (fun i wr=>∃k:Nat,k<=R.length/\i=ao ar (k:Int)/\Hid (l9 s.data.toList (R.drop k)=l9 s.data.toList R)/\cj w.heap.size w wr/\aa wr w.heap.size #[al s,an ra R.length rc] 94) (fun i _=>R.length-(cR i).toNat)
 .exact⟨0,ck _,rfl,Hh rfl,H0.out.1,H0.out.2⟩
 clear H0;obtain⟨k,hk,rfl,HA,hb,U⟩:=hrel
 by_cases M:k<R.length
 .
  obtain⟨b,A2,s0,rfl,A8,Aa,q0,q1,q2,q3⟩:=(HR.out.below hb).get M;have hF:=HF.out R[k] (cH M);have hD:R.drop k=R[k]::R.drop (k+1):=cg M;have HD:=Hh hD;generalize R[k]=r at *;obtain⟨a,c,he⟩:=Aa.len;obtain⟨sa,sn,sc⟩:=s0;simp only[dS,fS] at he;obtain⟨rfl,rfl,rfl⟩:=he;simp only[dS] at q0 Aa;have L:=Hh (RX.of Aa U);have A4:=Hh hF;have O:=Hh hb;have Ab:=hF.2.1;have AA:=U.lt;clear Aa hF hb hD;obtain⟨As,Au,At,Av⟩:=U.n2 rfl;clear U;have A0:Hid (l9 s.data.toList (R.drop k)=(iZ s.data.toList r (r.toks.length-1) 1&&l9 s.data.toList (R.drop (k+1)))):=Hh (by rw[HD.out];rfl);obtain⟨w1,rfl⟩:=exq wr;have A3:=Hh A4.out.1;have Aw:=Il _ _ r L.out.own.toks Ab;obtain⟨E,hE⟩:=exq (KI r);rw[<-hE] at Aw;have HE:=Hh hE;clear hE;go_wp2_with fail;refine Aw.mono ?_;rintro _ w2 ⟨rfl,hb2⟩;clear Aw;have H2:=Hh (L.out.below hb2);clear hb2 L q0 q1 q2 q3 As At Au Av;go_wp2;go_loopw [6] (fun i W=>∃j:Nat,1<=j/\(j<=r.toks.length\/j=1)/\i=ao ar (j:Int)/\Hid (iZ s.data.toList r (r.toks.length-j) j=iZ s.data.toList r (r.toks.length-1) 1)/\RX B w.heap.size s (an (aw ⟨b,A2,aq⟩) R.length rc) (an sa r.toks.length sc) r w1 W) (fun i _=>r.toks.length-(cR i).toNat)
  .exact⟨1,cA _,.inr rfl,rfl,Hh rfl,H2.out⟩
  clear H2;obtain⟨j,AB,hj,rfl,HJ,hX⟩:=hrel;have L:=Hh hX;have ht:=hX.t;have hv:=hX.b;have Ay:=ht.lt;have Az:=hv.lt;obtain⟨Ac,Ae,Ad,Af⟩:=ht.n2 rfl;obtain⟨Ag,Ak,Ah,Al,Ai,Am,Aj,An⟩:=hv.n4 rfl;clear ht hv hX
  by_cases hjl:j<r.toks.length
  .have A7:j<=r.toks.length:=by omega
   have P:Hid (iZ s.data.toList r (r.toks.length-j) j=((decide ((j:Int)=KI r) || qA (lQ s.data.toList r j) (lF r.toks j))&&iZ s.data.toList r (r.toks.length-(j+1)) (j+1))):=Hh (by
    rw[show r.toks.length-j=(r.toks.length-(j+1))+1 by omega];rfl)
   rw[<-HE.out] at P;have X:=fun x:bG wr=>L.out.below x.below;have c0:=fun x:bG wr=>(X x).t.cell 0 _ rfl;have c1:=fun x:bG wr=>(X x).t.cell 1 _ rfl;have d0:=fun x:bG wr=>(X x).b.cell 0 _ rfl;have d1:=fun x:bG wr=>(X x).b.cell 1 _ rfl;have d2:=fun x:bG wr=>(X x).b.cell 2 _ rfl;have d3:=fun x:bG wr=>(X x).b.cell 3 _ rfl;have Aq:=fun x:bG wr=>bG.call x (uC s (aw ⟨b,A2,aq⟩) R.length rc _ r j x.w (X x).own.toks Ab A7 hs A3.out);have Ao:=fun x:bG wr=>bG.call x (DT x.w _ r.toks (X x).own.toks Ab (j:Int) (Jt (by omega)));rw[eL] at Ao;obtain⟨A,hA⟩:=exq (lQ s.data.toList r j);rw[<-hA] at Aq P;obtain⟨G,hG⟩:=exq (lF r.toks j);rw[<-hG] at Ao P;have Ar:=fun x:bG wr=>bG.call x ((vX (au A) (G:Nat) x.w).mono fun e w' h=>⟨h.1,by rw[h.2];exact ba _ _⟩);rw[aV] at Ar;generalize qA A (G:Nat)=bB at *;generalize au A=sA at *;clear hA hG X;have A1:=dN (j:Int) E;generalize decide ((j:Int)=E)=bE at *
   cases bE with
   |true=>
    have Ax:((j:Int) != E)=false:=by rw[bne,A1];rfl
    go_wp2_with fail;refine eD wr (by kernel_rfl) (by kernel_rfl) (ba _ _) ?_;repeat (go_big_quiet_step (fail))
    refine py ?_;rintro _ ⟨x,rfl⟩;have Ap:=Hh (L.out.below x.below);clear Aq Ar Ao c0 c1 d0 d1 d2 d3 Ag Ah Ai Aj Ak Al Am An Ac Ad Ae Af Ay Az;go_wp2;go_roundw
    .exact⟨j+1,by omega,.inl hjl,by go_num,Hh (by rw[<-HJ.out,P.out];rfl),Ap.out⟩
    simp[cR];omega
   |false=>
    have Ax:((j:Int) != E)=true:=by rw[bne,A1];rfl
    go_wp2_with fail;refine eD wr (by kernel_rfl) (by kernel_rfl) (ba _ _) ?_;repeat (go_big_quiet_step ((first|(with_reducible exact Ao _)|(with_reducible exact Aq _)|(with_reducible exact Ar _))))
    refine py ?_;rintro _ ⟨x,rfl⟩
    cases bB with
    |false=>
     have Ap:=Hh (L.out.below x.below);clear Aq Ar Ao c0 c1 d0 d1 d2 d3 Ag Ah Ai Aj Ak Al Am An Ac Ad Ae Af Ay Az;go_wp2;go_ret;rw[<-HA.out,A0.out,<-HJ.out,P.out];exact⟨rfl,O.out.trans (Ap.out.p.mono O.out.size)⟩
    |true=>
     have Ap:=Hh (L.out.below x.below);clear Aq Ar Ao c0 c1 d0 d1 d2 d3 Ag Ah Ai Aj Ak Al Am An Ac Ad Ae Af Ay Az;go_wp2;go_roundw
     .exact⟨j+1,by omega,.inl hjl,by go_num,Hh (by rw[<-HJ.out,P.out];rfl),Ap.out⟩
     simp[cR];omega
  .have A6:r.toks.length-j=0:=by omega
   rw[A6] at HJ;go_wp2;go_roundw
   .exact⟨k+1,M,by go_num,Hh (by rw[<-HA.out,A0.out,<-HJ.out];rfl),O.out.trans (L.out.p.mono O.out.size),L.out.t⟩
   simp[cR];omega
 .obtain rfl:k=R.length:=by omega
  have O:=Hh hb;have HE:=Hh HA.out;rw[ei] at HE;clear hb;obtain⟨As,Au,At,Av⟩:=U.n2 rfl;clear U;go_wp2;go_ret;rw[<-HE.out];exact⟨rfl,O.out⟩
theorem tL{a:Option pC}{cap:Nat}{L:List aK}(h:iQ B w (an a n cap) L)(A:j<L.length) :
  ∃b off,∃(sa:Option pC) (sc:Nat),a=aw ⟨b,off,aq⟩/\b<w.heap.size/\∀W,cj w.heap.size w W->aP W (an sa L[j].toks.length sc) L[j].toks/\W.cell? ⟨b,off+j*4,aq⟩=aw (an sa L[j].toks.length sc)/\
   W.cell? ⟨b,off+j*4+1,aq⟩=aw (ao ar L[j].lo)/\W.cell? ⟨b,off+j*4+2,aq⟩=aw (ao ar L[j].hi)/\W.cell? ⟨b,off+j*4+3,aq⟩=aw (ao ar L[j].dep)/\b<W.heap.size:=by
 obtain⟨b,off,s,rfl,g,Aa,q0,u,v,x⟩:=h.get A;obtain⟨a,c,k⟩:=Aa.len;obtain⟨sa,C,sc⟩:=s;simp only[dS,fS] at k;obtain⟨rfl,rfl,rfl⟩:=k;exact⟨b,off,sa,sc,rfl,g,fun W hW=>⟨(Aa.below hW lz).toks,(hW.cell (p:=⟨b,off+j*4,aq⟩) g).trans q0,(hW.cell (p:=⟨b,off+j*4+1,aq⟩) g).trans u,(hW.cell (p:=⟨b,off+j*4+2,aq⟩) g).trans v,(hW.cell (p:=⟨b,off+j*4+3,aq⟩) g).trans x,cT g hW.size⟩⟩
def yV(R:List aK):Nat->Option aK
 |0=>aq
 |k+1=>R[k]?
theorem Dg(s:E7)(rv:cq)(R:List aK)(w:cd)(hR:iQ B w rv R)(hF:∀r∈R,r.toks.length<=1000000)(hn:R.length<=1000000) :
  cJ bh 74 #[RS s rv] w fun e w'=>e=bk (cG (iw aq R))/\cj w.heap.size w w':=by
 obtain⟨ra,rc,rfl,AD,A5,-⟩:=hR.len;unfold cV at A5;have HR:=Hh hR;have HF:=Hh hF;have H0:Hid (cj w.heap.size w (w.alloc (aE #[al s,an ra R.length rc] 94))/\aa (w.alloc (aE #[al s,an ra R.length rc] 94)) w.heap.size #[al s,an ra R.length rc] 94):=Hh ⟨(ba _ w).alloc lz _,aa.new _ _ _⟩;clear hR hF;go_in;go_wp2;go_loopw [8] (fun i wr=>∃k:Nat,k<=R.length/\i=ao ar (k:Int)/\Hid (iw (yV R k) (R.drop k)=iw aq R)/\cj w.heap.size w wr/\aa wr w.heap.size #[al s,an ra R.length rc] 94) (fun i _=>R.length-(cR i).toNat)
 .exact⟨0,ck _,rfl,Hh rfl,H0.out.1,H0.out.2⟩
 clear H0;obtain⟨k,hk,rfl,Z,hb,Y⟩:=hrel
 by_cases H:k<R.length
 .obtain⟨b,AE,sa,sc,rfl,AB,hq⟩:=tL HR.out H
  have HQ:=Hh hq;obtain⟨-,q0,q1,q2,q3,AC⟩:=hq wr hb
  have J:Hid (iw (yV R k) (R.drop k)=((!R[k].toks.isEmpty || sI (yV R k) (R.drop (k+1)).head?)&&iw (yV R (k+1)) (R.drop (k+1)))):=Hh (by
   rw[cg H,iw]
   simp only[yV,br H])
  have hi:R[k].toks.isEmpty=decide (R[k].toks.length=0):=by cases R[k].toks<;>rfl
  rw[hi] at J;clear hi hq;generalize R[k]=r at *;have HB:=Hh hb;have HG:=Hh Y;have A6:=Y.lt;obtain⟨Ar,At,As,Au⟩:=Y.n2 rfl;clear hb Y;have Ae:=oQ (wr.alloc (wK (an sa r.toks.length sc) r)) sa r.toks.length sc r.lo r.hi r.dep;obtain⟨bE,hE⟩:=exq (decide (r.toks.length=0));rw[<-hE] at Ae J;clear hE;go_wp2_with fail;refine Ae.mono ?_;rintro _ w4 ⟨rfl,M⟩;clear Ae;have hA:cj w.heap.size w (wr.alloc (wK (an sa r.toks.length sc) r)):=HB.out.alloc HB.out.size _;have Ad:=Hh (av hA M);have Aw:=(HG.out.alloc (wK (an sa r.toks.length sc) r)).below M (HG.out.alloc _).lt;have Av:=Hh Aw;have A6:=Aw.lt;clear M Ar As At Au q0 q1 q2 q3 hA HB HG;obtain⟨Af,Ah,Ag,Ai⟩:=Aw.n2 rfl;clear Aw
  cases bE with
  |false=>
   go_wp2;go_roundw
   .exact⟨k+1,H,by go_num,Hh (by rw[<-Z.out,J.out];rfl),Ad.out,Av.out⟩
   simp[cR];omega
  |true=>
   cases k with
   |zero=>
    go_wp2;go_ret;rw[<-Z.out,J.out];exact⟨rfl,Ad.out⟩
   |succ m=>
    have kq:eC.i64.wrap ((R.length:Int)-1)=(R.length:Int)-1:=cU _ (by omega);have km:eC.i64.wrap ((m:Int)+1-1)=(m:Int):=by rw[cU _ (by omega)];omega
    have kp:eC.i64.wrap ((m:Int)+1+1)=((m+2:Nat):Int):=by rw[cU _ (by omega)];omega
    have e0:((m:Int)+1==0)=false:=by rw[Fc];omega
    by_cases hl:m+2=R.length
    .have e1:((m:Int)+1==(R.length:Int)-1)=true:=by rw[beq_iff_eq];omega
     have hh:(R.drop (m+2)).head?=aq:=by rw[ek (by omega)];rfl
     have Ac:Hid (iw aq R=false):=Hh (by rw[<-Z.out,J.out,hh];unfold sI;split<;>simp_all);clear hl hh;go_wp2;go_ret;rw[Ac.out];exact⟨rfl,Ad.out⟩
    .have e1:((m:Int)+1==(R.length:Int)-1)=false:=by rw[Fc];omega
     have A1:m<R.length:=by omega
     have Ax:m+2<R.length:=by omega
     obtain⟨b',A2,pa,pc,e',-,hp⟩:=tL HR.out A1;cases e'
     obtain⟨b',A2,ta,tc,e',-,ht⟩:=tL HR.out Ax;cases e'
     have HP:=Hh hp;have HT:=Hh ht
     have Ac:Hid (iw aq R=((!R[m].toks.isEmpty&&(!jy R[m].toks&&!lW R[m+2].toks))&&iw (yV R (m+2)) (R.drop (m+2)))):=Hh (by
      rw[<-Z.out,J.out];have hh:(R.drop (m+2)).head?=aw R[m+2]:=by rw[List.head?_drop,br Ax]
      show ((false || sI (R[m]?) (R.drop (m+2)).head?)&&iw (yV R (m+2)) (R.drop (m+2)))=_;rw[hh,br A1]
      rfl)
     have A9:=HF.out R[m] (cH A1);have AA:=HF.out R[m+2] (cH Ax);have hi:R[m].toks.isEmpty=decide (R[m].toks.length=0):=by cases R[m].toks<;>rfl
     rw[hi] at Ac;clear hi hp ht J;generalize R[m]=p at *;generalize R[m+2]=q at *;obtain⟨-,p0,p1,p2,p3,pb⟩:=HP.out _ Ad.out;have Ae:=oQ w4 pa p.toks.length pc p.lo p.hi p.dep;generalize decide (p.toks.length=0)=bE at *;go_wp2_with fail;refine Ae.mono ?_;rintro _ w5 ⟨rfl,N⟩;have Aa:=Jh (av Ad.out N) (Av.out.below N Av.out.lt);clear Ae Ad Av Af Ag Ah Ai p0 p1 p2 p3 pb N
     cases bE with
     |true=>
      go_wp2;go_ret;rw[Ac.out];exact⟨rfl,Aa.out.1⟩
     |false=>
      obtain⟨pt,p0,p1,p2,p3,pb⟩:=HP.out _ Aa.out.1;have A4:=oP w5 _ p.toks p.lo p.hi p.dep pt A9;have Az:=Aa.out.2;have A7:=Az.lt;obtain⟨Aj,Al,Ak,Am⟩:=Az.n2 rfl;generalize jy p.toks=bO at *;clear Az pt;go_wp2_with fail;refine A4.mono ?_;rintro _ w6 ⟨rfl,U⟩;have Ab:=Jh (av Aa.out.1 U) (Aa.out.2.below U Aa.out.2.lt);clear A4 Aa Aj Ak Al Am p0 p1 p2 p3 pb U
      cases bO with
      |true=>
       go_wp2;go_ret;rw[Ac.out];exact⟨rfl,Ab.out.1⟩
      |false=>
       obtain⟨tt,t0,t1,t2,t3,tb⟩:=HT.out _ Ab.out.1;have A3:=qP w6 _ q.toks q.lo q.hi q.dep tt AA;have A0:=Ab.out.2;have A8:=A0.lt;obtain⟨An,Ap,Ao,Aq⟩:=A0.n2 rfl;generalize lW q.toks=bC at *;clear A0 tt;go_wp2_with fail;refine A3.mono ?_;rintro _ w7 ⟨rfl,X⟩;have Ay:=Jh (av Ab.out.1 X) (Ab.out.2.below X Ab.out.2.lt);clear A3 Ab An Ao Ap Aq t0 t1 t2 t3 tb X
       cases bC with
       |true=>
        go_wp2;go_ret;rw[Ac.out];exact⟨rfl,Ay.out.1⟩
       |false=>
        go_wp2;go_roundw
        .exact⟨m+2,Nat.le_of_lt Ax,by go_num,Hh (by rw[Ac.out];rfl),Ay.out.1,Ay.out.2⟩
        simp[cR];omega
 .obtain rfl:k=R.length:=by omega
  have HB:=Hh hb;have HE:=Hh Z.out;rw[ei] at HE;clear hb;obtain⟨Ar,At,As,Au⟩:=Y.n2 rfl;clear Y;go_wp2;go_ret;rw[<-HE.out];exact⟨by cases yV R R.length<;>rfl,HB.out⟩
theorem Ux{l:List ae}(h:jy l=true):0<l.length:=by
 cases l with
 |nil=>cases h
 |cons t l=>simp
theorem KA{l:List ae}(h:0<l.length):l.getLast?=aw (l[l.length-1]'(by omega)):=by
 rw[gk,br (by omega)]
theorem KC(r:aK)(R:List aK):lV (r::R)=if decide (r.toks.length=0)=true then lV R else aw r:=by
 rw[lV];have:r.toks.isEmpty=decide (r.toks.length=0):=by cases r.toks<;>rfl
 rw[this]
theorem Kt(s:E7)(rv:cq)(R:List aK)(w:cd)(hR:iQ B w rv R)(hF:∀r∈R,r.toks.length<=1000000)(hn:R.length<=1000000) :
  cJ bh 78 #[RS s rv] w fun e w'=>e=bk (cG (jm R))/\cj w.heap.size w w':=by
 obtain⟨ra,rc,rfl,AQ,AJ,-⟩:=hR.len;unfold cV at AJ;have HR:=Hh hR;have HF:=Hh hF;have H0:Hid (cj w.heap.size w (w.alloc (aE #[al s,an ra R.length rc] 94))/\aa (w.alloc (aE #[al s,an ra R.length rc] 94)) w.heap.size #[al s,an ra R.length rc] 94):=Hh ⟨(ba _ w).alloc lz _,aa.new _ _ _⟩;clear hR hF;go_in;go_wp2;go_loopw [10] (fun i wr=>∃k:Nat,k<=R.length/\i=ao ar (k:Int)/\Hid (jm (R.drop k)=jm R)/\cj w.heap.size w wr/\aa wr w.heap.size #[al s,an ra R.length rc] 94) (fun i _=>R.length-(cR i).toNat)
 .exact⟨0,ck _,rfl,Hh rfl,H0.out.1,H0.out.2⟩
 clear H0;obtain⟨k,hk,rfl,HA,Z,T⟩:=hrel
 by_cases X:k<R.length
 .obtain⟨b,Ax,sa,sc,rfl,AP,hq⟩:=tL HR.out X
  have HQ:=Hh hq;obtain⟨-,q0,q1,q2,q3,AI⟩:=hq wr Z;have HD:Hid (jm (R.drop k)=(xx R[k] (lV (R.drop (k+1)))&&jm (R.drop (k+1)))):=Hh (by rw[cg X,jm]);have AM:=HF.out R[k] (cH X);clear hq;generalize R[k]=r at *;obtain⟨w1,rfl⟩:=exq wr;have HB:=Hh Z;have HG:=Hh T;have AD:=T.lt;obtain⟨Aa,Ac,Ab,Ad⟩:=T.n2 rfl;clear Z T;have hA:cj w.heap.size w (w1.alloc (wK (an sa r.toks.length sc) r)):=HB.out.alloc HB.out.size _;have AA:=oP (w1.alloc (wK (an sa r.toks.length sc) r)) _ r.toks r.lo r.hi r.dep (HQ.out _ hA).1 AM;have At:=Jh hA (cE (HG.out.alloc (wK (an sa r.toks.length sc) r)) (aa.new w1 #[an sa r.toks.length sc,ao ar r.lo,ao ar r.hi,ao ar r.dep] 78))
  have HJ:Hid (xx r (lV (R.drop (k+1)))=(!jy r.toks || (nD r || match lV (R.drop (k+1)) with
   |none=>true
   |some q=>!lW q.toks || nE q))):=Hh rfl
  have A7:=Hh (Ux (l:=r.toks));generalize jy r.toks=bO at *;clear hA;go_wp2_with fail;refine AA.mono ?_;rintro _ w4 ⟨rfl,hb4⟩;have Af:Hid (cj w.heap.size w w4/\aa w4 w.heap.size #[al s,an (aw ⟨b,Ax,aq⟩) R.length rc] 94/\aa w4 w1.heap.size #[an sa r.toks.length sc,ao ar r.lo,ao ar r.hi,ao ar r.dep] 78):=Hh ⟨av At.out.1 hb4,At.out.2.1.below hb4 At.out.2.1.lt,At.out.2.2.below hb4 At.out.2.2.lt⟩;clear AA Aa Ab Ac Ad q0 q1 q2 q3 HB HG At hb4
  cases bO with
  |false=>
   go_wp2;go_roundw
   .exact⟨k+1,X,by go_num,Hh (by rw[<-HA.out,HD.out,HJ.out];rfl),Af.out.1,Af.out.2.1⟩
   simp[cR];omega
  |true=>
   have AF:=A7.out rfl;have Ai:=KA AF;have HL:Hid (nD r=dD (r.toks[r.toks.length-1]'(by omega))):=Hh (by unfold nD;rw[Ai]);have AE:r.toks.length-1<r.toks.length:=by omega
   obtain⟨b2,Ay,rfl,Ak,hu⟩:=gD (HQ.out _ Af.out.1).1 AE;obtain⟨u0,u1,u2,A3⟩:_/\_/\_/\b2<w4.heap.size:=⟨(hu w4 (ba _ _)).1,(hu w4 (ba _ _)).2.1,(hu w4 (ba _ _)).2.2,Ak⟩;have kl:eC.i64.wrap ((r.toks.length:Int)-1)=((r.toks.length-1:Nat):Int):=by rw[cU _ (by omega)];omega
   have hC:=mi (r.toks[r.toks.length-1]'(by omega)) w4;generalize r.toks[r.toks.length-1]'(by omega)=t at *;generalize hm:r.toks.length-1=m at *;have HM:=Hh hm;have AK:(0:Int)<=(m:Int)/\(m:Int)<r.toks.length:=by omega
   obtain⟨tk,tt,tp⟩:=t;simp only[fo] at hC u0 u1 u2;have T:=Af.out.2.1;have hv:=Af.out.2.2;have AD:=T.lt;have AG:=hv.lt;obtain⟨Aa,Ac,Ab,Ad⟩:=T.n2 rfl;obtain⟨Al,Ap,Am,Aq,An,Ar,Ao,As⟩:=hv.n4 rfl;clear T hv Ai hu hm AE;have Aj:Hid (cj w.heap.size w (w4.alloc (kV ⟨tk,tt,tp⟩))/\aa (w4.alloc (kV ⟨tk,tt,tp⟩)) w.heap.size #[al s,an (aw ⟨b,Ax,aq⟩) R.length rc] 94):=Hh ⟨Af.out.1.alloc Af.out.1.size _,Af.out.2.1.alloc _⟩;obtain⟨bC,AB⟩:=exq (dD ⟨tk,tt,tp⟩);rw[<-AB] at hC HL;clear AB;go_wp2_with fail;refine hC.mono ?_;rintro _ _ ⟨rfl,rfl⟩;clear hC u0 u1 u2 Aa Ab Ac Ad Al Am An Ao Ap Aq Ar As Af
   cases bC with
   |true=>
    go_wp2;go_roundw
    .exact⟨k+1,X,by go_num,Hh (by rw[<-HA.out,HD.out,HJ.out,HL.out];rfl),Aj.out.1,Aj.out.2⟩
    simp[cR];omega
   |false=>
    have Az:Hid (jm R=((match lV (R.drop (k+1)) with
     |none=>true
     |some q=>!lW q.toks || nE q)&&jm (R.drop (k+1)))):=Hh (by rw[<-HA.out,HD.out,HJ.out,HL.out];rfl)
    clear HL HJ HD HA A7 AF kl AK HM HQ;have kn:eC.i64.wrap ((k:Int)+1)=((k+1:Nat):Int):=by rw[cU _ (by omega)];omega
    have A5:=Aj.out.2.lt;have T:=Aj.out.2;obtain⟨Aa,Ac,Ab,Ad⟩:=T.n2 rfl;clear T;go_wp2_with fail;clear Aa Ab Ac Ad A5;go_loopw [5] (fun i wr=>∃n:Nat,k+1<=n/\n<=R.length/\i=ao ar (n:Int)/\Hid (lV (R.drop n)=lV (R.drop (k+1)))/\cj w.heap.size w wr/\aa wr w.heap.size #[al s,an (aw ⟨b,Ax,aq⟩) R.length rc] 94) (fun i _=>R.length-(cR i).toNat)
    .exact⟨k+1,cA _,X,by go_num,Hh rfl,Aj.out.1,Aj.out.2⟩
    clear Aj;obtain⟨n,AR,AS,rfl,A2,Z,T⟩:=hrel;have HB:=Hh Z;have HG:=Hh T;have AD:=T.lt;obtain⟨Aa,Ac,Ab,Ad⟩:=T.n2 rfl;clear T
    by_cases hnl:n<R.length
    .obtain⟨b',AO,va,vc,e',-,hq⟩:=tL HR.out hnl
     cases e'
     have HQ:=Hh hq;obtain⟨-,q0,q1,q2,q3,AI⟩:=hq wr Z;have Ae:=KC R[n] (R.drop (n+1));rw[<-cg hnl] at Ae;have AG:=HF.out R[n] (cH hnl);clear hq Z;generalize R[n]=q at *;have A9:=oQ wr va q.toks.length vc q.lo q.hi q.dep;have AH:Hid (decide (q.toks.length=0)=false->0<q.toks.length):=Hh (fun h=>by have:=of_decide_eq_false h;omega);have HC:=Hh Ae;generalize decide (q.toks.length=0)=bE at *;have kw:eC.i64.wrap ((n:Int)+1)=((n+1:Nat):Int):=by rw[cU _ (by omega)];omega
     have eN:((n:Int)==(R.length:Int))=false:=by rw[Fc];omega
     clear Ae;go_wp2_with fail;refine A9.mono ?_;rintro _ w6 ⟨rfl,hb6⟩;have Ah:=Jh (av HB.out hb6) (HG.out.below hb6 HG.out.lt);clear A9 HB HG Aa Ab Ac Ad q0 q1 q2 q3 hb6
     cases bE with
     |true=>
      go_wp2;go_roundw
      .exact⟨n+1,by omega,hnl,by go_num,Hh (by rw[<-A2.out,HC.out];rfl),Ah.out.1,Ah.out.2⟩
      simp[cR];omega
     |false=>
      have Aw:=AH.out rfl;obtain⟨vt,q0,q1,q2,q3,A4⟩:=HQ.out _ Ah.out.1;have hA:cj w.heap.size w (w6.alloc (wK (an va q.toks.length vc) q)):=Ah.out.1.alloc Ah.out.1.size _;have A8:=qP (w6.alloc (wK (an va q.toks.length vc) q)) _ q.toks q.lo q.hi q.dep (HQ.out _ hA).1 AG;have Au:=Jh hA (cE (Ah.out.2.alloc (wK (an va q.toks.length vc) q)) (aa.new w6 #[an va q.toks.length vc,ao ar q.lo,ao ar q.hi,ao ar q.dep] 78));obtain⟨b2,Ay,rfl,Ak,hu⟩:=gD vt Aw;have A0:=fun W=>mi (q.toks[0]'Aw) W
      have Av:Hid (jm R=((!lW q.toks || dD (q.toks[0]'Aw))&&jm (R.drop (k+1)))):=Hh (by
       rw[Az.out,<-A2.out,HC.out];have:nE q=dD (q.toks[0]'Aw):=by unfold nE;rw[List.head?_eq_getElem?,br Aw]
       simp only[fm,if_false,this])
      have HU:=Hh hu;generalize q.toks[0]'Aw=t at *;generalize lW q.toks=bK at *;obtain⟨tk,tt,tp⟩:=t;simp only[fo] at A0 HU;have T:=Ah.out.2;have A6:=T.lt;obtain⟨Aa,Ac,Ab,Ad⟩:=T.n2 rfl;clear T vt hA hu Az;obtain⟨bM,AC⟩:=exq (dD ⟨tk,tt,tp⟩);rw[<-AC] at A0 Av;clear AC;go_wp2_with fail;refine A8.mono ?_;rintro _ w8 ⟨rfl,Y⟩;have Ag:Hid (cj w.heap.size w w8/\aa w8 w.heap.size #[al s,an (aw ⟨b,Ax,aq⟩) R.length rc] 94/\aa w8 w6.heap.size #[an (aw ⟨b2,Ay,aq⟩) q.toks.length vc,ao ar q.lo,ao ar q.hi,ao ar q.dep] 78/\cj w6.heap.size w6 w8):=Hh ⟨av Au.out.1 Y,Au.out.2.1.below Y Au.out.2.1.lt,Au.out.2.2.below Y Au.out.2.2.lt,av ((ba _ _).alloc lz _) Y⟩;clear A8 Ah Aa Ab Ac Ad q0 q1 q2 q3 Y Au A4 A6
      cases bK with
      |false=>
       go_wp2;go_roundw
       .exact⟨k+1,X,by go_num,Hh (by rw[Av.out];rfl),Ag.out.1,Ag.out.2.1⟩
       simp[cR];omega
      |true=>
       obtain⟨u0,u1,u2⟩:=HU.out _ Ag.out.2.2.2;simp only[Nat.zero_mul,eA] at u0 u1 u2;have A3:b2<w8.heap.size:=cT Ak Ag.out.2.2.2.size;have hv:=Ag.out.2.2.1;have AN:=hv.lt;obtain⟨Al,Ap,Am,Aq,An,Ar,Ao,As⟩:=hv.n4 rfl;clear hv;have A1:Hid (cj w.heap.size w (w8.alloc (kV ⟨tk,tt,tp⟩))/\aa (w8.alloc (kV ⟨tk,tt,tp⟩)) w.heap.size #[al s,an (aw ⟨b,Ax,aq⟩) R.length rc] 94):=Hh ⟨Ag.out.1.alloc Ag.out.1.size _,Ag.out.2.1.alloc _⟩;go_wp2_with fail;refine (A0 _).mono ?_;rintro _ _ ⟨rfl,rfl⟩;clear A0 u0 u1 u2 Al Am An Ao Ap Aq Ar As Ag HU
       cases bM with
       |true=>
        go_wp2;go_roundw
        .exact⟨k+1,X,by go_num,Hh (by rw[Av.out];rfl),A1.out.1,A1.out.2⟩
        simp[cR];omega
       |false=>
        go_wp2;go_ret;rw[Av.out];exact⟨rfl,A1.out.1⟩
    .have AL:n=R.length:=by omega
     have Av:Hid (jm R=jm (R.drop (k+1))):=Hh (by
      rw[Az.out,<-A2.out,ek (by omega)]
      simp[lV])
     have eN:((n:Int)==(R.length:Int))=true:=by rw[beq_iff_eq];omega
     clear Z Az AL;go_wp2;go_roundw
     .exact⟨k+1,X,by go_num,Hh (by rw[Av.out]),HB.out,HG.out⟩
     simp[cR];omega
 .obtain rfl:k=R.length:=by omega
  have HB:=Hh Z;have HE:=Hh HA.out;rw[ei] at HE;clear Z;obtain⟨Aa,Ac,Ab,Ad⟩:=T.n2 rfl;clear T;go_wp2;go_ret;rw[<-HE.out];exact⟨rfl,HB.out⟩
theorem FI{l:Bs}{r:aK}(h:TR l r):∀i,i<=r.toks.length->0<=r.lo/\r.lo<=jh r i
 |0,hi=>by have:=h 0 hi;exact⟨this.1,this.2.1⟩
 | i+1,hi=>by
  have h1:=FI h i (by omega);have h2:=h (i+1) hi
  have e:pJ r (i+1)=jh r i+(r.toks[i].text.size:Int):=by
   unfold pJ jh;simp only[br (show i<r.toks.length by omega),ns,jz]
  omega
theorem Jg(s:E7)(rv:cq)(R:List aK)(w:cd)(hR:iQ B w rv R)(hF:∀r∈R,RY s.data.toList r)(hs:s.size<=800000)(hT:CB w.heap.size w) :
  cJ bh 77 #[RS s rv] w fun e w'=>e=bk (cG (eU s.data.toList R (-1) true))/\cj w.heap.size w w':=by
 obtain⟨ra,rc,rfl,AM,AF,-⟩:=hR.len;unfold cV at AF;have HR:=Hh hR;have HF:=Hh hF;have H0:Hid (cj w.heap.size w (w.alloc (aE #[al s,an ra R.length rc] 94))/\aa (w.alloc (aE #[al s,an ra R.length rc] 94)) w.heap.size #[al s,an ra R.length rc] 94):=Hh ⟨(ba _ w).alloc lz _,aa.new _ _ _⟩;clear hR hF;go_in;go_wp2;go_loopw [3,4,14] (fun cv nv i wr=>∃(k:Nat) (col:Int) (near:Bool),k<=R.length/\i=ao ar (k:Int)/\cv=ao ar col/\nv=cG near/\Hid (eU s.data.toList (R.drop k) col near=eU s.data.toList R (-1) true)/\cj w.heap.size w wr/\aa wr w.heap.size #[al s,an ra R.length rc] 94) (fun _ _ i _=>R.length-(cR i).toNat)
 .exact⟨0,-1,true,ck _,rfl,rfl,rfl,Hh rfl,H0.out.1,H0.out.2⟩
 clear H0;obtain⟨k,col,near,hk,rfl,rfl,rfl,HA,hb,hg⟩:=hrel
 by_cases Z:k<R.length
 .obtain⟨b,Ao,sa,sc,rfl,AK,hq⟩:=tL HR.out Z
  have HQ:=Hh hq;obtain⟨-,q0,q1,q2,q3,AL⟩:=hq wr hb
  have HD:Hid (eU s.data.toList (R.drop k) col near=match gK R[k].toks with
   |none=>near&&eU s.data.toList (R.drop (k+1)) (-1) true
   |some i=>rD s.data.toList R[k] i&&(decide (uH s.data.toList R[k] i=if col<0 then uH s.data.toList R[k] i else col)&&
   eU s.data.toList (R.drop (k+1)) (if col<0 then uH s.data.toList R[k] i else col) ((if col<0 then false else near) || decide ((lQ s.data.toList R[k] i).length=1)))):=Hh (by rw[cg Z,eU];rfl)
  have Av:=HF.out R[k] (cH Z);clear hq;generalize R[k]=r at *;have HB:=Hh hb;have HG:=Hh hg;have At:=hg.lt;obtain⟨Ab,Ad,Ac,Ae⟩:=hg.n2 rfl;clear hb hg;have hA:cj w.heap.size w (wr.alloc (wK (an sa r.toks.length sc) r)):=HB.out.alloc HB.out.size _;have Aj:=Il (wr.alloc (wK (an sa r.toks.length sc) r)) _ r (HQ.out _ hA).1 Av.2.1;have Ah:=Hh Av;have Af:=Jh hA (cE (HG.out.alloc (wK (an sa r.toks.length sc) r)) (aa.new wr #[an sa r.toks.length sc,ao ar r.lo,ao ar r.hi,ao ar r.dep] 78));clear hA Av
  cases hei:gK r.toks with
  |none=>
   rw[hei] at HD;have e:KI r = -1:=by unfold KI;rw[hei]
   rw[e] at Aj;clear hei e;go_wp2_with fail;refine Aj.mono ?_;rintro _ w4 ⟨rfl,P⟩;have Aa:Hid (cj w.heap.size w w4/\aa w4 w.heap.size #[al s,an (aw ⟨b,Ao,aq⟩) R.length rc] 94):=Hh ⟨av Af.out.1 P,Af.out.2.1.below P Af.out.2.1.lt⟩;clear Aj Ab Ac Ad Ae q0 q1 q2 q3 HB HG Af P
   cases near with
   |false=>
    go_wp2;go_ret;rw[<-HA.out,HD.out];exact⟨rfl,Aa.out.1⟩
   |true=>
    go_wp2;go_roundw
    .exact⟨k+1,-1,true,Z,by go_num,rfl,rfl,Hh (by rw[<-HA.out,HD.out];rfl),Aa.out.1,Aa.out.2⟩
    simp[cR];omega
  |some i=>
   rw[hei] at HD;have e:KI r=(i:Int):=by unfold KI;rw[hei]
   rw[e] at Aj;have Au:=iq hei;have An:i<=r.toks.length:=by omega
   clear hei e;simp only at HD;go_wp2_with fail;refine Aj.mono ?_;rintro _ w4 ⟨rfl,P⟩;have Aa:Hid (cj w.heap.size w w4/\aa w4 w.heap.size #[al s,an (aw ⟨b,Ao,aq⟩) R.length rc] 94/\aa w4 wr.heap.size #[an sa r.toks.length sc,ao ar r.lo,ao ar r.hi,ao ar r.dep] 78):=Hh ⟨av Af.out.1 P,Af.out.2.1.below P Af.out.2.1.lt,Af.out.2.2.below P Af.out.2.2.lt⟩;have Aq:=uC s (aw ⟨b,Ao,aq⟩) R.length rc _ r i w4 (HQ.out _ Aa.out.1).1 Ah.out.2.1 An hs Ah.out.1;obtain⟨x,hx⟩:∃x:Nat,r.lo=x:=⟨r.lo.toNat,by have:=FI Ah.out.1 i An;omega⟩;obtain⟨y,hy⟩:∃y:Nat,jh r i=y:=⟨(jh r i).toNat,by have:=FI Ah.out.1 i An;omega⟩
   have AO:(0:Int)<=x/\(x:Int)<=y/\(y:Int)<=s.size:=by
    have h1:=FI Ah.out.1 i An;have h2:=(Ah.out.1 i An).2.2.1;rw[aM] at h2;omega
   have A6:Hid (uH s.data.toList r i=(fJ (s.extract x y).data.toList:Int)):=Hh (by
    unfold uH kQ;rw[hx,hy,Ck]
    rfl)
   have AD:(s.extract x y).size<=800000:=by rw[ByteArray.size_extract];omega
   obtain⟨S,hS⟩:∃S,s.extract x y=S:=⟨_,rfl⟩;rw[hS] at A6 AD;have AH:=uu S.data.toList;rw[aM] at AH;have As:=fun W (hW:cj w.heap.size w W)=>EA S W ((hT.go hW).out) (by omega);rw[UV] at As;generalize fJ S.data.toList=cn at *;generalize uH s.data.toList r i=c6 at *;generalize (scan (bs S) 0).2.isNone=vb at *;have Ai:Hid (rD s.data.toList r i=(!(lQ s.data.toList r i).isEmpty&&qA (lQ s.data.toList r i) (lQ s.data.toList r i).length)):=Hh rfl;have AC:=Ex s r i;obtain⟨A,hA⟩:=exq (lQ s.data.toList r i);rw[<-hA] at Aq HD Ai AC;generalize rD s.data.toList r i=g6 at *
   have he:(au A).toList.isEmpty=A.isEmpty:=by
    cases A with
    |nil=>kernel_rfl
    |cons x A=>exact vM (by show (x::A).toArray.size≠0;simp)
   have Ar:=fun W=>vX (au A) (A.length:Nat) W
   have AN:((au A).size:Int)=(A.length:Nat):=by
    have:(au A).size=A.length:=by show A.toArray.size=_;simp
    omega
   rw[aV] at Ar;have A9:=dN (A.length:Nat) 1;have AA:decide (A.length=1)=decide (((A.length:Nat):Int)=1):=decide_eq_decide.2 (by omega);rw[AA] at HD;generalize decide (((A.length:Nat):Int)=1)=b1 at *;generalize A.isEmpty=bE at *;generalize qA A (A.length:Nat)=bB at *;generalize hLn:((A.length:Nat):Int)=Ln at *;generalize au A=sA at *;have Ap:=Jh hx hy;clear hx hy hA Aj Ab Ac Ad Ae q0 q1 q2 q3 HB HG Af P AA hLn At;have hg:=Aa.out.2.1;have hv:=Aa.out.2.2;have At:=hg.lt;have AI:=hv.lt;obtain⟨Ab,Ad,Ac,Ae⟩:=hg.n2 rfl;obtain⟨Aw,A0,Ax,A1,Ay,A2,Az,A3⟩:=hv.n4 rfl;clear hg hv;go_wp2_with fail;refine Aq.mono ?_;rintro _ w5 ⟨rfl,hb5⟩;have A4:Hid (cj w.heap.size w w5/\aa w5 w.heap.size #[al s,an (aw ⟨b,Ao,aq⟩) R.length rc] 94/\aa w5 wr.heap.size #[an sa r.toks.length sc,ao ar r.lo,ao ar r.hi,ao ar r.dep] 78):=Hh ⟨av Aa.out.1 hb5,Aa.out.2.1.below hb5 Aa.out.2.1.lt,Aa.out.2.2.below hb5 Aa.out.2.2.lt⟩;clear Aq hb5 Aa;clear Ab Ac Ad Ae Aw Ax Ay Az A0 A1 A2 A3 At AI;have Aa:=A4;clear A4
   cases bE with
   |true=>
    have Am:g6=false:=by rw[Ai.out];rfl
    subst Am;clear Ai;go_wp2;go_ret;rw[<-HA.out,HD.out];exact⟨rfl,Aa.out.1⟩
   |false=>
    go_wp2_with fail;refine (Ar _).mono ?_;rintro _ w5 ⟨rfl,hw5⟩;obtain rfl:w5=_:=hw5;clear Ar
    cases bB with
    |false=>
     have Am:g6=false:=by rw[Ai.out];rfl
     subst Am;clear Ai;go_wp2;go_ret;rw[<-HA.out,HD.out];exact⟨rfl,Aa.out.1⟩
    |true=>
     have Am:g6=true:=by rw[Ai.out];rfl
     subst Am;clear Ai;obtain⟨b2,AJ,rfl,AE,hu⟩:=gD (HQ.out _ Aa.out.1).1 Au.2
     have AB:(r.toks[i]'Au.2).pos=(y:Int):=by
      have hy:=Ap.out.2;unfold jh at hy
      simpa [br Au.2] using hy
     rw[AB] at hu;have HU:=Hh hu;have hx:=Ap.out.1;clear hu AB Ap;generalize r.lo=lo at *;subst hx;have c0:=fun x:bG w5=>((Aa.out.2.1.below x.below Aa.out.2.1.lt)).cell 0 _ rfl;have d0:=fun x:bG w5=>((Aa.out.2.2.below x.below Aa.out.2.2.lt)).cell 0 _ rfl;have d1:=fun x:bG w5=>((Aa.out.2.2.below x.below Aa.out.2.2.lt)).cell 1 _ rfl;have u2:=fun x:bG w5=>(HU.out x.w x.below).2.2;have Al:=fun x:bG w5=>bG.call x ((As x.w (av Aa.out.1 x.below)).mono fun e w' h=>⟨h.1,by rw[<-h.2];exact ba _ _⟩);have i1:(0:Int)<=(i:Int):=by omega
     have i2:(i:Int)<(r.toks.length:Int):=by omega
     go_wp2_with fail;refine eD w5 (by kernel_rfl) (by kernel_rfl) (ba _ _) ?_;repeat (go_big_quiet_step ((first|(with_reducible exact Al _))))
     refine py ?_;rintro _ ⟨x,rfl⟩;have Ag:Hid (cj w.heap.size w x.w/\aa x.w w.heap.size #[al s,an (aw ⟨b,Ao,aq⟩) R.length rc] 94):=Hh ⟨Aa.out.1.trans (x.below.mono Aa.out.1.size),Aa.out.2.1.below x.below Aa.out.2.1.lt⟩;have A5:Hid (eU s.data.toList R (-1) true=(decide (c6=if col<0 then c6 else col)&&eU s.data.toList (R.drop (k+1)) (if col<0 then c6 else col) ((if col<0 then false else near) || b1))):=Hh (by rw[<-HA.out,HD.out];rfl);have AG:=A6.out;subst AG;clear Al c0 d0 d1 u2 Aa HU HD HA Ah HQ As
     by_cases hc0:col<0
     .have Ak:Hid (eU s.data.toList R (-1) true=eU s.data.toList (R.drop (k+1)) (cn:Int) (false || b1)):=Hh (by rw[A5.out,E4 hc0,E4 hc0,decide_eq_true rfl];rfl)
      have A8:((cn:Int) != (cn:Int))=false:=by simp
      go_wp2;go_roundw
      .exact⟨k+1,cn,b1,Z,by go_num,rfl,by first|rfl|rw[A9],Hh (by rw[Ak.out];rfl),Ag.out.1,Ag.out.2⟩
      simp[cR];omega
     .have Ak:Hid (eU s.data.toList R (-1) true=(decide ((cn:Int)=col)&&eU s.data.toList (R.drop (k+1)) col (near || b1))):=Hh (by rw[A5.out,E6 hc0,E6 hc0])
      have A7:=dN (cn:Int) col;generalize decide ((cn:Int)=col)=bD at *
      cases bD with
      |false=>
       have A8:((cn:Int) != col)=true:=by rw[bne,A7];rfl
       go_wp2;go_ret;rw[Ak.out];exact⟨rfl,Ag.out.1⟩
      |true=>
       have A8:((cn:Int) != col)=false:=by rw[bne,A7];rfl
       cases near with
       |true=>
        go_wp2;go_roundw
        .exact⟨k+1,col,true,Z,by go_num,rfl,rfl,Hh (by rw[Ak.out];rfl),Ag.out.1,Ag.out.2⟩
        simp[cR];omega
       |false=>
        go_wp2;go_roundw
        .exact⟨k+1,col,b1,Z,by go_num,rfl,by first|rfl|rw[A9],Hh (by rw[Ak.out];rfl),Ag.out.1,Ag.out.2⟩
        simp[cR];omega
 .obtain rfl:k=R.length:=by omega
  have HB:=Hh hb;have HE:=Hh HA.out;rw[ei] at HE;clear hb;obtain⟨Ab,Ad,Ac,Ae⟩:=hg.n2 rfl;clear hg;go_wp2;go_ret;rw[<-HE.out];exact⟨rfl,HB.out⟩
theorem Tryz.infoRowT:(Tryz.prog.info? 68).map (fun i=>(i.zero,i.size,i.bytes))=aw (aw (.agg #[an aq 0 0,ao ar 0]),2,32):=by kernel_rfl
def jE(B1 B:Nat)(w:cd)(v:cq)(R:List aB):Prop:=
 ∃D:List (kE×aB),D.map (·.2)=R/\w.ownsRow B1 68 2 v D.length (D.flatMap oF)/\∀d∈D,aS B w (dS d.1) d.2.toks
theorem jE.nil(B1 B:Nat)(w:cd):jE B1 B w (an aq 0 0) []:=⟨[],rfl,ir _ _ _ _,fun d hd=>by cases hd⟩
theorem jE.tr(h:jE B1 B w v R)(g:B<=B1):Jq B w v R:=by
 obtain⟨D,a,c,f⟩:=h;exact⟨D,a,wR c g,f⟩
theorem jE.wr{Bg:Nat}(h:jE B1 B w v R)(i:BW Bg w g l)(f:rE Bg g w w'):jE B1 B w' v R:=by
 obtain⟨D,a,b,c⟩:=h;exact⟨D,a,J9 b i f (by decide) (by decide),fun d hd=>wS (c d hd) i f⟩
section
variable {B g x:Nat} {w:cd} {l:Bs} {cs:Array cq} {t:ff}
theorem dR{base n sz:Nat}{E:TypeId}{v:Value}{xs:List Value}(h:w.ownsRow base E sz v n xs)(hc:aa w x cs t)(ht:E≠t)(j:Nat)(u:cq):(w.setCell ⟨x,j,aq⟩ u).ownsRow base E sz v n xs:=
 cZ h fun k e=>ds _ _ _ _ (by exact dU h hc ht k e)
theorem BW.set(h:BW B w g l)(k:aa w x cs t)(z:t≠36)(A:t≠5)(j:Nat)(u:cq):BW B (w.setCell ⟨x,j,aq⟩ u) g l:=by
 have Ac:=h.ne k z;obtain⟨d,Aa,f,Ab,i,v,q,p⟩:=h;exact⟨d,Aa,f,Ab.setOther _ _ Ac,i,v,q,dR p k (fun e=>A e.symm) j u⟩
theorem Jq.set{v:Value}{R:List aB}(h:Jq B w v R)(b:aa w x cs t)(k:t≠68)(o:t≠62)(j:Nat)(u:cq):Jq B (w.setCell ⟨x,j,aq⟩ u) v R:=by
 obtain⟨D,f,g,i⟩:=h;exact⟨D,f,dR g b (fun e=>k e.symm) j u,fun d hd=>dR (i d hd) b (fun e=>o e.symm) j u⟩
end
theorem r9(h:w.ownsRow base E sz v n xs):∃a c,v=an a n c:=by
 rcases h.2 with ⟨rfl,rfl⟩|⟨g,cap,b,rfl,-⟩
 .exact⟨aq,0,rfl⟩
 .exact⟨_,_,rfl⟩
structure WS(B B1 g bx rx:Nat)(w:cd)(L:Bs)(rv:cq)(Q:List aB)(v:cq)(R:List aB):Prop where
 bw:BW B w g L
 p:aa w bx #[cx (aw ⟨g,0,aq⟩)] 33
 r:aa w rx #[rv] 38
 q:jE B1 B w rv Q
 a:Jq B w v R
 lt:∀k,v.ownBlock=aw k->k<B1
 le:B<=B1/\B1<=rx/\B1<=w.heap.size
section
variable {B B1 g bx rx:Nat} {w w':cd} {L L':Bs} {rv:cq} {Q:List aB} {v:cq} {R:List aB}
theorem WS.wr(h:WS B B1 g bx rx w L rv Q v R)(hw:BW B w' g L')(hp:rE B g w w'):WS B B1 g bx rx w' L' rv Q v R:=
 ⟨hw,hp.cells h.p (h.bw.ne h.p (by decide)) (by decide),hp.cells h.r (h.bw.ne h.r (by decide)) (by decide),h.q.wr h.bw hp,h.a.wr h.bw hp,h.lt,h.le.1,h.le.2.1,by have:=hp.b.size;have:=h.le;omega⟩
theorem WS.below(h:WS B B1 g bx rx w L rv Q v R)(hb:cj w.heap.size w w'):WS B B1 g bx rx w' L rv Q v R:=
 h.wr (h.bw.below hb) (rE.of hb (by have:=h.bw.lt;have:=h.bw.1;omega))
theorem WS.clear(h:WS B B1 g bx rx w L rv Q v R):WS B B1 g bx rx (w.setCell ⟨rx,0,aq⟩ (an aq 0 0)) L (an aq 0 0) [] v R:=by
 refine⟨h.bw.set h.r (by decide) (by decide) _ _,h.p.setOther _ _ ?_,h.r.set 0 (by simp) _,jE.nil _ _ _,h.a.set h.r (by decide) (by decide) _ _,h.lt,by simpa using h.le⟩;rintro rfl;have c:w.heap[rx]?=_:=h.p;have b:w.heap[rx]?=_:=h.r;rw[c] at b;simp only[du,mT] at b;exact absurd b.2.1 (by decide)
end
theorem wu{bx rx:Nat}{L:Bs}(h:WS B B1 g bx rx w L rv Q v R)(M:CB B w)(J:∀r∈Q,Dn r/\(gK r.toks).isSome=true)(P:Q.length<=1000000)(N:L.length+(pI Q).length<=500000000) :
  cJ bh 26 #[cx (aw ⟨bx,0,aq⟩),cx (aw ⟨rx,0,aq⟩)] w fun e w'=>e=bk (dr #[])/\WS B B1 g bx rx w' (L++pI Q) (an aq 0 0) [] v R/\∃w2,rE B g w w2/\w'=w2.setCell ⟨rx,0,aq⟩ (an aq 0 0):=by
 have D:=OT Q rv h.bw (h.q.tr h.le.1) J P N M;have H:=Hh h;have k:=h.p;have i:=h.r;have U:=k.lt;have O:=i.lt;obtain⟨Ac,Ad⟩:=k.n1 rfl;obtain⟨Aa,Ab⟩:=i.n1 rfl;clear h k i J N M;go_in;go_wp2_with fail;refine D.mono ?_;rintro _ w2 ⟨rfl,j,f⟩;have C:=Hh (H.out.wr j f);have G:=Hh f;have i:=C.out.r;have O:=i.lt;clear D j f Aa Ab Ac Ad;obtain⟨Aa,Ab⟩:=i.n1 rfl;clear i;go_wp2_with fail;refine bodyPost_end (v:=dr #[]) (by simp[cD,Tryz.results26,go_sem]) rfl ?_;exact⟨rfl,C.out.clear,w2,G.out,rfl⟩
theorem iF{ops:Array Oper}{rest:List Oper}{p:Oper}{a:Act}{Q:Exit->Act->cd->Prop}(C:p.guard=aq)(s x:Operand)(G:p.op=.call { callee:=.builtin .append,args:=#[s,x],argTypes:=#[38,38] })(B:Nat)(lv:cq)(D:List (kE×aB))(d:kE×aB)(J:a.eval s=lv)(A:w.ownsRow B 68 2 lv D.length (D.flatMap oF))(g:Nat)(L:a.eval x=an (aw ⟨g,0,aq⟩) 1 1)(I:aa w g #[dS d.1,ao ar d.2.dep] 68)(M:D.length<=1000000)(q:B<=w.heap.size)(H:∀v' w',w'.ownsRow B 68 2 v' (D.length+1) (D.flatMap oF++oF d)->w.grownBy w' lv.ownBlock->wpList bh ops Q rest (a.put p.dst v') w'):wpList bh ops Q (p::rest) a w:=by
 obtain⟨i,Aa,Ab,Ac,Ad⟩:=info_parts Tryz.infoRowT;refine wpList_append_lies w C s x 38 G B 68 i _ 2 32 Tryz.underlying38 Aa Ab Ac Ad rfl (by decide) lv D.length (D.flatMap oF) J A ⟨g,0,aq⟩ 1 1 (oF d) L rfl ?_ ?_ (by omega) (by unfold cV;omega) (by omega) q _ rfl (fun g2 c2 w' h1 h2 _ _=>H _ w' h1 h2)
 .intro j u f
  rw[iS,df];exact I.cell _ _ (by simpa [oF] using f)
 .intro u f
  simp only[oF,cL,List.not_mem_nil,or_false] at f;rcases f with rfl|rfl<;>rfl
section
variable {B B1 g bx rx:Nat} {w w':cd} {L L':Bs} {rv nv:cq} {Q:List aB} {v:cq} {R:List aB}
theorem WS.push(h:WS B B1 g bx rx w L rv Q v R){D:List (kE×aB)}{d:kE×aB}(hD:D.map (·.2)=Q)(J:w.ownsRow B1 68 2 rv D.length (D.flatMap oF))(hDt:∀d∈D,aS B w (dS d.1) d.2.toks)(hd:aS B w (dS d.1) d.2.toks)(H:w.grownBy w' rv.ownBlock)(K:w'.ownsRow B1 68 2 nv (D.length+1) (D.flatMap oF++oF d)):WS B B1 g bx rx (w'.setCell ⟨rx,0,aq⟩ nv) L nv (Q++[d.2]) v R:=by
 have f:∀{E:ff} {base n sz:Nat} {u:cq} {xs:List cq},w.ownsRow base E sz u n xs->E≠68->w'.ownsRow base E sz u n xs:=fun hu hE=>cZ hu fun k e=>H.block k (cy hu k e).2 (fun q=>nz hu J hE k e q.symm);have G:∀{k:Nat} {cs:Array cq} {t:ff},aa w k cs t->t≠68->aa w' k cs t:=fun hc ht=>hc.kept H (fun e=>dU J hc (fun q=>ht q.symm) _ e.symm rfl);have b:=G h.r (by decide);have M:=G h.p (by decide);obtain⟨P,cs,V,Y,X,u,bu,bo⟩:=h.bw;have Aa:BW B w' g L:=⟨P,cs,V,G Y (by decide),X,u,bu,f bo (by decide)⟩;obtain⟨A,N,I,O⟩:=h.a
 have ha:Jq B w' v R:=⟨A,N,cZ I fun k e=>H.block k (cy I k e).2 (fun q=>by
  have:=(cy J k q.symm).1;have:=h.lt k e
  omega),fun x hx=>f (O x hx) (by decide)⟩
 refine⟨Aa.set b (by decide) (by decide) _ _,M.setOther _ _ ?_,b.set 0 (by simp) _,⟨D++[d],by rw[eJ,hD];rfl,?_,?_⟩,ha.set b (by decide) (by decide) _ _,h.lt,h.le.1,h.le.2.1,by have:=H.size;have:=h.le;simp;omega⟩
 .rintro rfl
  have h1:w'.heap[rx]?=_:=M;have i:w'.heap[rx]?=_:=b;rw[h1] at i;simp only[du,mT] at i;exact absurd i.2.1 (by decide)
 .have e:(D++[d]).flatMap oF=D.flatMap oF++oF d:=by simp
  rw[e,cm,List.length_singleton];exact dR K b (by decide) _ _
 .intro x hx
  rcases cX.1 hx with hx|hx
  .exact dR (f (hDt x hx) (by decide)) b (by decide) _ _
  .rw[de.1 hx]
   exact dR (f hd (by decide)) b (by decide) _ _
end
structure WT(B B1 g bx rx:Nat)(w:cd)(L:Bs)(rv:cq)(Q:List aB)(v:cq)(R:List aB)(rb:Nat)(s:kE)(dep:Int)(toks:List ae):Prop where
 ws:WS B B1 g bx rx w L rv Q v R
 r:aa w rb #[dS s,ao ar dep] 68
 t:aS B w (dS s) toks
section
variable {B B1 g bx rx rb:Nat} {w w':cd} {L L':Bs} {rv:cq} {Q:List aB} {v:cq} {R:List aB} {s:kE} {dep:Int} {toks:List ae}
theorem WT.wr(h:WT B B1 g bx rx w L rv Q v R rb s dep toks)(hw:BW B w' g L')(hp:rE B g w w'):WT B B1 g bx rx w' L' rv Q v R rb s dep toks:=
 ⟨h.ws.wr hw hp,hp.cells h.r (h.ws.bw.ne h.r (by decide)) (by decide),wS h.t h.ws.bw hp⟩
theorem WT.below(h:WT B B1 g bx rx w L rv Q v R rb s dep toks)(hb:cj w.heap.size w w'):WT B B1 g bx rx w' L rv Q v R rb s dep toks:=
 ⟨h.ws.below hb,h.r.below hb h.r.lt,h.t.below hb lz⟩
theorem WT.end{w2:World}(h:WT B B1 g bx rx w L rv Q v R rb s dep toks)(k:rE B g w w2)(u:aa w2 rx #[rv] 38)(z:WS B B1 g bx rx (w2.setCell ⟨rx,0,aq⟩ (an aq 0 0)) L' (an aq 0 0) [] v R):WT B B1 g bx rx (w2.setCell ⟨rx,0,aq⟩ (an aq 0 0)) L' (an aq 0 0) [] v R rb s dep toks:=by
 have f:=k.cells h.r (h.ws.bw.ne h.r (by decide)) (by decide);refine⟨z,f.setOther _ _ ?_,dR (wS h.t h.ws.bw k) u (by decide) _ _⟩;rintro rfl;have i:w2.heap[rx]?=_:=u;have c:w2.heap[rx]?=_:=f;rw[i] at c;simp only[du,mT] at c;exact absurd c.2.1 (by decide)
end
theorem Sj(b:k<R.length)(Q:List aB):ja (R.drop k) Q=if (gK R[k].toks).isSome then ja (R.drop (k+1)) (Q++[R[k]]) else pI Q++(zm R[k]++ja (R.drop (k+1)) []):=by
 rw[cg b,ja]
theorem MO(R:List aB)(v:cq)(hW:BW B w g l)(hR:Jq B w v R)(hF:∀r∈R,Dn r)(hn:R.length<=1000000)(hl:l.length+(ja R []).length<=400000000)(hT:CB B w) :
  cJ bh 10 #[cx (aw ⟨g,0,aq⟩),v] w fun e w'=>e=bk (dr #[])/\BW B w' g (l++ja R [])/\cj B w w':=by
 obtain⟨ra,rc,rfl,AM,AF⟩:=hR.len;unfold cV at AF;have hB:B<=w.heap.size:=by have:=hW.lt;have:=hW.1;omega
 have A5:cj w.heap.size w (w.alloc (aE #[cx (aw ⟨g,0,aq⟩)] 33)):=(ba _ w).alloc lz _;have An:=A5.alloc (by simp) (aE #[an aq 0 0] 38);have A6:=(aa.new w #[cx (aw ⟨g,0,aq⟩)] 33).alloc (aE #[an aq 0 0] 38);have At:=aa.new (w.alloc (aE #[cx (aw ⟨g,0,aq⟩)] 33)) #[an aq 0 0] 38;simp only[cF] at At
 have A7:∀k,(iN ra R.length rc).ownBlock=aw k->k<w.heap.size:=by
  obtain⟨D,-,q2,-⟩:=hR;exact fun k e=>(cy q2 k e).2
 have A3:WS B w.heap.size g w.heap.size (w.heap.size+1) ((w.alloc (aE #[cx (aw ⟨g,0,aq⟩)] 33)).alloc (aE #[an aq 0 0] 38)) l (an aq 0 0) [] (an ra R.length rc) R:=
  ⟨hW.below An,A6,At,jE.nil _ _ _,hR.wr hW (rE.of An hB),A7,hB,by omega,An.size⟩
 have H0:=Jh A3 (An.mono hB);have HF:=Hh hF;have HL:=Hh hl;have HT:=Hh hT;clear hW hR hF hl A5 An A6 At A3 hT A7;go_in;go_wp2;go_loopw [11] (fun i wr=>∃(k:Nat) (O:Bs) (rv:cq) (Q:List aB),k<=R.length/\i=ao ar (k:Int)/\WS B w.heap.size g w.heap.size (w.heap.size+1) wr (l++O) rv Q (an ra R.length rc) R/\ja R []=O++ja (R.drop k) Q/\(∀r∈Q,Dn r/\(gK r.toks).isSome=true)/\Q.length<=k/\cj B w wr) (fun i _=>R.length-(cR i).toNat)
 .exact⟨0,[],_,[],ck _,rfl,by simpa using H0.out.1,by simp,(fun r hr=>by cases hr),cA _,H0.out.2⟩
 clear H0;obtain⟨k,O,rv,Q,hk,rfl,hS,Ac,hQ,AO,hb⟩:=hrel
 by_cases hkl:k<R.length
 .obtain⟨b,s,rfl,AL,Ah,q0,q1⟩:=hS.a.get hkl
  obtain⟨X,V,Y⟩:=s;have Ak:=HF.out R[k] (cH hkl);have AA:=Sj hkl Q;rw[AA] at Ac
  have AB:V=R[k].toks.length:=by
   obtain⟨a',c',e'⟩:=Ah.len;simp only[dS,fS] at e';exact e'.2.1
  have Aq:cj wr.heap.size wr (wr.alloc (aE #[an X V Y,ao ar R[k].dep] 68)):=(ba _ wr).alloc lz _;have As:WT B w.heap.size g w.heap.size (w.heap.size+1) (wr.alloc (aE #[an X V Y,ao ar R[k].dep] 68)) (l++O) rv Q (an (aw ⟨b,0,aq⟩) R.length rc) R wr.heap.size (X,V,Y) R[k].dep R[k].toks:=⟨hS.below Aq,aa.new _ _ _,Ah.below Aq lz⟩;have Af:=Al _ _ R[k].toks R[k].dep As.t.toks Ak.l;have AP:V<=1000000:=by have:=Ak.l;omega
  have AG:=Ak.s;have Ae:(O++if (gK R[k].toks).isSome then ja (R.drop (k+1)) (Q++[R[k]]) else pI Q++(zm R[k]++ja (R.drop (k+1)) [])).length=(ja R []).length:=by rw[Ac]
  have HR:=Jh Ac (cE hQ (cE hb Ae));have Ag:=Hh As;have Ap:=Hh Ak;have A0:=Hh AB;have AK:Hid (R[k]=⟨R[k].toks,R[k].dep⟩):=Hh rfl;have A2:zm R[k]=dw R[k].toks R[k].ind 0 R[k].toks.length++[10]:=rfl;have Ay:=Hh A2;simp only[dS] at q0 Af;clear hS Ac hQ hb As Ak Ah Aq AA Ae A2 AB;generalize R[k]=r at *;obtain⟨Aa,Ab⟩:=r;simp only at q1 Af Ag A0 HR
  cases hq:gK Aa with
  |some i=>
   have AN:=(iq hq).1;rw[hq] at Af HR;simp only[rA,zd,if_true] at Af HR;have i1:(0:Int)<(i:Int):=by omega
   go_wp2_with fail;refine Af.mono ?_;rintro _ w4 ⟨rfl,Z⟩;have H4:=Hh (Ag.out.below Z);have hr:=H4.out.ws.r;have hx:=H4.out.r;have lr:=hr.lt;have lx:=hx.lt;have Ai:=Hh (HR.out.2.2.1.trans (((Ag.out.ws.le.1:_) |> fun _=>(ba B wr).alloc (by have:=Ag.out.ws.le;have:=HR.out.2.2.1.size;omega) (aE #[an X V Y,ao ar Ab] 68)).trans (Z.mono (by have:=Ag.out.ws.le;simp at *;omega))));have AI:=hx.cell 0 (an X V Y) rfl;have AJ:=hx.cell 1 _ rfl;obtain⟨Av,Aw⟩:=hr.n1 rfl;clear Af Z hr hx q0 q1;go_wp2_with (with_reducible first|refine aL ?_)
   refine Stop.out ?_;have h5:=H4.out.below ((ba _ w4).alloc lz (aE #[an X V Y,ao ar Ab] 68));obtain⟨D,d1,d2,d3⟩:=h5.ws.q;have AE:D.length=Q.length:=by rw[<-d1,cW]
   refine iF rfl _ _ rfl w.heap.size rv D ((X,V,Y),⟨Aa,Ab⟩) rfl (by exact d2) w4.heap.size rfl (by exact aa.new w4 #[an X V Y,ao ar Ab] 68) (by omega) (by have:=h5.ws.le;exact this.2.2) ?_;intro nv w6 ho6 hg6;obtain⟨na,nc,rfl⟩:=r9 ho6;have h6:=h5.ws.push d1 d2 d3 h5.t hg6 ho6;have Au:=h5.ws.r.kept hg6 (fun e=>dU d2 h5.ws.r (by decide) _ e.symm rfl);have Aj:=Hh ((Ai.out.alloc (by have:=Ai.out.size;have:=H4.out.ws.le;omega) (aE #[an X V Y,ao ar Ab] 68)).grown hg6 (by have:=h5.ws.le;omega) (fun j e=>by have:=(cy d2 j e).1;have:=h5.ws.le;omega));have H6:=Hh h6;clear h5 d1 d2 d3 ho6 hg6 h6 Av Aw lr lx AI AJ AE;have lr:=Au.lt;obtain⟨A8,A9⟩:=Au.n1 rfl;clear Au;go_wp2;go_roundw
   .exact⟨k+1,O,_,Q++[⟨Aa,Ab⟩],hkl,by go_num,H6.out,HR.out.1,(fun x hx=>by
    rcases cX.1 hx with hx|hx
    .exact HR.out.2.1 x hx
    .rw[de.1 hx];exact⟨Ap.out,by rw[hq];rfl⟩),by simp;omega,Aj.out.setCell (by have:=H4.out.ws.le;show B<=w.heap.size+1;omega) _⟩
   simp[cR];omega
  |none=>
   rw[hq] at Af HR;simp only[rA,yW,fm,if_false] at Af HR;have Ao:=HR.out.2.2.2;simp only[cm] at Ao;have Ar:=HL.out;have AH:(zm ⟨Aa,Ab⟩).length=(dw Aa (aB.ind ⟨Aa,Ab⟩) 0 Aa.length).length+1:=by rw[Ay.out];simp
   have Ax:∀{w4},cj (wr.alloc (aE #[an X V Y,ao ar Ab] 68)).heap.size (wr.alloc (aE #[an X V Y,ao ar Ab] 68)) w4->cj B w w4:=fun Z=>HR.out.2.2.1.trans (((ba B wr).alloc (by have:=Ag.out.ws.le;have:=HR.out.2.2.1.size;omega) (aE #[an X V Y,ao ar Ab] 68)).trans (Z.mono (by have:=Ag.out.ws.le;simp at *;omega)));go_wp2_with fail;refine Af.mono ?_;rintro _ w4 ⟨rfl,Z⟩;have H4:=Hh (Ag.out.below Z);have Ai:=Hh (Ax Z);have Ad:=wu H4.out.ws (HT.out.go Ai.out) HR.out.2.1 (by omega) (by simp only[cm];omega);clear Af Z Ax q0 q1;go_wp2_with fail;refine Ad.mono ?_;rintro _ w5 ⟨rfl,h5,w2,hp2,rfl⟩;have h6:=H4.out.end hp2 (hp2.cells H4.out.ws.r (H4.out.ws.bw.ne H4.out.ws.r (by decide)) (by decide)) h5;have Aj:=Hh (Ai.out.trans (hp2.b.setCell (p:=⟨w.heap.size+1,0,aq⟩) (by have:=H4.out.ws.le;show B<=w.heap.size+1;omega) (an aq 0 0)));obtain⟨w7,AC⟩:=exq (w2.setCell ⟨w.heap.size+1,0,aq⟩ (an aq 0 0));rw[<-AC] at h6 Aj ⊢;have H6:=Hh h6;have a0:=h6.ws.p.cell 0 _ rfl;have a1:=h6.r.cell 0 (an X V Y) rfl;have a2:=h6.r.cell 1 _ rfl;have a3:=h6.ws.p.lt;have a4:=h6.r.lt;clear Ad h5 hp2 h6 AC
   have H7:Hid (∀W,cj w7.drew.heap.size w7.drew W->WT B w.heap.size g w.heap.size (w.heap.size+1) W (l++O++pI Q) (an aq 0 0) [] (an (aw ⟨b,0,aq⟩) R.length rc) R wr.heap.size (X,V,Y) Ab Aa/\cj B w W):=Hh fun W hW=>by
    have A4:=((ba w7.heap.size w7).drew).trans hW;exact⟨H6.out.below A4,Aj.out.trans (A4.mono (by have:=H6.out.ws.le;have:=Aj.out.size;omega))⟩
   have A1:∀W,WT B w.heap.size g w.heap.size (w.heap.size+1) W (l++O++pI Q) (an aq 0 0) [] (an (aw ⟨b,0,aq⟩) R.length rc) R wr.heap.size (X,V,Y) Ab Aa/\cj B w W->
     cJ bh 30 #[.agg #[an X V Y,ao ar Ab],ao ar 0,ao ar (V:Nat)] W fun e w'=>e=bk (al (au (dw Aa (aB.ind ⟨Aa,Ab⟩) 0 Aa.length)))/\WT B w.heap.size g w.heap.size (w.heap.size+1) w' (l++O++pI Q) (an aq 0 0) [] (an (aw ⟨b,0,aq⟩) R.length rc) R wr.heap.size (X,V,Y) Ab Aa/\cj B w w':=fun W ⟨h,hb⟩=>by
    rw[A0.out] at h ⊢;have h2:=h.t;refine (vC W _ Aa Ab 0 Aa.length h2.toks Ap.out.d (ck _) lz Ap.out.l (by have:=Ap.out.s;simp only[aB.ind] at this ⊢;omega)).mono ?_;rintro _ w' ⟨rfl,hb'⟩;exact⟨rfl,h.below hb',hb.trans (hb'.mono (by have:=h.ws.le;omega))⟩
   have AD:Hid ((au (dw Aa (aB.ind ⟨Aa,Ab⟩) 0 Aa.length)).data.toList=dw Aa (aB.ind ⟨Aa,Ab⟩) 0 Aa.length):=Hh rfl;generalize au (dw Aa (aB.ind ⟨Aa,Ab⟩) 0 Aa.length)=pr at *;have Az:Hid (jJ [pr,⟨#[10]⟩]=zm ⟨Aa,Ab⟩):=Hh (by rw[Ay.out,<-AD.out];simp[jJ])
   have Am:∀W,WT B w.heap.size g w.heap.size (w.heap.size+1) W (l++O++pI Q) (an aq 0 0) [] (an (aw ⟨b,0,aq⟩) R.length rc) R wr.heap.size (X,V,Y) Ab Aa/\cj B w W->
     cJ bh 29 #[cx (aw ⟨g,0,aq⟩),an (aw ⟨W.heap.size,0,aq⟩) 2 2] (W.alloc (aE #[al pr,al ⟨#[10]⟩] 9)) fun e w'=>e=bk (dr #[])/\WT B w.heap.size g w.heap.size (w.heap.size+1) w' (l++O++pI Q++zm ⟨Aa,Ab⟩) (an aq 0 0) [] (an (aw ⟨b,0,aq⟩) R.length rc) R wr.heap.size (X,V,Y) Ab Aa/\cj B w w':=fun W ⟨h,hb⟩=>by
    have hA:cj W.heap.size W (W.alloc (aE #[al pr,al ⟨#[10]⟩] 9)):=(ba _ W).alloc lz _;have h2:=h.below hA;refine (zJ [pr,⟨#[10]⟩] h2.ws.bw (aa.new W #[al pr,al ⟨#[10]⟩] 9) (by rw[Az.out];simp only[cm];omega) (by simp)).mono ?_;rintro _ w' ⟨rfl,h5,h6⟩;rw[Az.out] at h5;exact⟨rfl,h2.wr h5 h6,(hb.trans (hA.mono (by have:=h.ws.le;omega))).trans h6.b⟩
   clear Ao Ar AH AG;go_upto_region 9 with fail
   go_region_held3 (fun w'=>w'.cell? ⟨w.heap.size,0,aq⟩=aw (cx (aw ⟨g,0,aq⟩))/\w'.cell? ⟨wr.heap.size,0,aq⟩=aw (an X V Y)/\w'.cell? ⟨wr.heap.size,1,aq⟩=aw (ao ar Ab)) (first|(with_reducible exact⟨a0,a1,a2⟩)|(with_reducible exact⟨g60,g61,g62⟩)|(with_reducible exact⟨g50,g51,g52⟩)|go_keep) (first
    |(go_at_call 29;(refine (Am _ hx8).mono ?_);rintro _ w9 ⟨rfl,hx9⟩;have g60:=hx9.1.ws.p.cell 0 _ rfl;have g61:=hx9.1.r.cell 0 (an X V Y) rfl;have g62:=hx9.1.r.cell 1 _ rfl)
    |(go_at_call 30;(with_reducible refine (A1 _ (H7.out _ (ba _ _))).mono ?_);rintro _ w8 ⟨rfl,hx8⟩;have g50:=hx8.1.ws.p.cell 0 _ rfl;have g51:=hx8.1.r.cell 0 (an X V Y) rfl;have g52:=hx8.1.r.cell 1 _ rfl;have z5:=hx8.1.ws.p.lt;have z6:=hx8.1.r.lt))
   all_goals
    have HN:=Hh hx9;clear hx8 hx9 g50 g51 g52 g60 g61 g62 z5 z6 H7 A1 Am a0 a1 a2 a3 a4;go_wp2;go_roundw
    .exact⟨k+1,O++(pI Q++zm ⟨Aa,Ab⟩),_,[],hkl,by go_num,by simpa using HN.out.1.ws,by rw[HR.out.1];simp,(fun x hx=>by cases hx),ck _,HN.out.2⟩
    simp[cR];omega
 .obtain rfl:k=R.length:=by omega
  rw[ei,ja] at Ac;have Ae:(ja R []).length=(O++pI Q).length:=by rw[Ac]
  rw[cm] at Ae;have Ar:=HL.out;have Ad:=wu hS (HT.out.go hb) hQ (by omega) (by simp only[cm];omega);have HS:=Jh hS (cE Ac hb);clear hS Ac hQ hb Ae Ar;go_wp2_with fail;refine Ad.mono ?_;rintro _ w5 ⟨rfl,h5,w2,hp2,rfl⟩
  have HN:Hid (BW B (w2.setCell ⟨w.heap.size+1,0,aq⟩ (an aq 0 0)) g (l++ja R [])/\cj B w (w2.setCell ⟨w.heap.size+1,0,aq⟩ (an aq 0 0))):=Hh ⟨by
   rw[HS.out.2.1,<-ef]
   exact h5.bw,HS.out.2.2.trans (hp2.b.setCell (p:=⟨w.heap.size+1,0,aq⟩) (by have:=HS.out.1.le;show B<=w.heap.size+1;omega) (an aq 0 0))⟩
  clear Ad h5 hp2;go_wp2_with fail;refine bodyPost_end (v:=dr #[]) (by simp[cD,Tryz.results10,go_sem]) rfl ?_;exact⟨rfl,HN.out.1,HN.out.2⟩
def O1:List (List ae)->Nat->Option Nat
 |[],_=>aq
 |[]::r,i=>O1 r (i+1)
 |(_::_)::_,i=>aw i
theorem Ie(L:List (List ae)):∀(m k:Nat),L.length<=k+m->match O1 (L.drop k) k with
  |some j=>∃h:j<L.length,k<=j/\L[j]≠[]/\bq (L.drop k)=L[j]::L.drop (j+1)
  |none=>bq (L.drop k)=[]
 |0,k,h=>by rw[ek (by omega)];rfl
 | m+1,k,h=>by
  by_cases hk:k<L.length
  .rw[cg hk]
   cases hr:L[k] with
   |nil=>
    have ih:=Ie L m (k+1) (by omega);simp only[O1,bq];split at ih
    .obtain⟨h1,h2,h3⟩:=ih
     exact⟨h1,by omega,h3⟩
    .exact ih
   |cons t q=>
    simp only[O1,bq];refine⟨hk,cA _,by rw[hr];simp,by rw[hr]⟩
  .rw[ek (by omega)];rfl
def xM(L:List (List ae))(i:Nat):Nat:=
 if fe (L[i]?.getD []) then (match O1 (L.drop (i+1)) (i+1) with
  |some j=>if il (L[j]?.getD []) then j else 0
  |none=>0) else 0
theorem Tg{L:List (List ae)}(h:i<L.length) :
  (xM L i=0/\rf L[i] (L.drop (i+1))=(L[i],L.drop (i+1)))\/∃j,∃h2:j<L.length,xM L i=j/\i<j/\L[j]≠[]/\rf L[i] (L.drop (i+1))=(L[i]++L[j],L.drop (j+1)):=by
 unfold xM rf;rw[br h,jz]
 by_cases c:fe L[i]=true
 .rw[E4 c,E4 c]
  have o:=Ie L L.length (i+1) (by omega);split at o
  .next j k=>
   obtain⟨q,h2,u,v⟩:=o;simp only[k,br q,jz,v]
   by_cases b:il L[j]=true
   .exact .inr ⟨j,q,by rw[E4 b],by omega,u,by rw[E4 b]⟩
   .exact .inl ⟨by rw[E6 b],by rw[E6 b]⟩
  .next k=>
   simp only[k,o];exact .inl ⟨by trivial,by trivial⟩
 .rw[E6 c,E6 c]
  exact .inl ⟨rfl,rfl⟩
theorem Oj{r:List ae}{m:Nat}(h:r.length=m+1):fe r=bZ (r[m]'(by omega)) pg:=by
 unfold fe;have e:r.length-1=m:=by omega
 rw[gk];simp only[e];rw[br (by omega)]
theorem Ot{r:List ae}(h:0<r.length):il r=bZ r[0] mZ:=by
 cases r with
 |nil=>simp at h
 |cons t r=>rfl
theorem UB{L:List (List ae)}(h:k<L.length)(a:L[k].length=0):O1 (L.drop k) k=O1 (L.drop (k+1)) (k+1):=by
 rw[cg h,cC a,O1]
theorem SL{L:List (List ae)}(h:k<L.length)(a:L[k].length≠0):O1 (L.drop k) k=aw k:=by
 rw[cg h]
 cases hr:L[k] with
 |nil=>rw[hr] at a;exact absurd rfl a
 |cons t q=>rfl
theorem Rt(w:cd)(v:cq)(L:List (List ae))(h:mr B w v L)(i:Nat)(hi:i<L.length)(W:L[i]≠[])(hn:L.length<=1000000)(Y:∀r∈L,r.length<=1000000) :
  cJ bh 31 #[v,ao ar (i:Nat)] w fun e w'=>e=bk (ao ar (xM L i:Nat))/\cj w.heap.size w w':=by
 obtain⟨va,vc,rfl,Ay,Ao,-⟩:=h.len;unfold cV at Ao;obtain⟨b,A1,s,rfl,Ax,Ab,q0⟩:=h.get hi;obtain⟨sa,sn,sc⟩:=s;obtain⟨m,V⟩:∃m,L[i].length=m+1:=⟨L[i].length-1,by have:=ey.2 W;omega⟩;have Ap:=Y L[i] (cH hi)
 have Ak:sn=L[i].length:=by
  obtain⟨a',c',H⟩:=Ab.len;simp only[dS,fS] at H;exact H.2.1
 rw[V] at Ak;subst Ak;obtain⟨tb,Av,rfl,Aq,K,N,O⟩:=Ab.toks.get (j:=m) (by omega);have Ai:=Oj V
 have Af:xM L i=if fe L[i] then (match O1 (L.drop (i+1)) (i+1) with
  |some j=>if il (L[j]?.getD []) then j else 0
  |none=>0) else 0:=by unfold xM;rw[br hi,jz]
 rw[Ai] at Af;have Ad:=Hh Af;have F:=p8 L[i][m] pg w;have HT:=Hh h;have Am:=Hh Y;have kq:eC.i64.wrap ((m:Int)+1-1)=(m:Int):=by rw[cU _ (by omega)];omega
 have A0:wrap64 (m:Int)=(m:Int):=IntWalk.wrap64_in _ (by omega);simp only[dS] at q0;clear Ai Af h Ab Y W;generalize L[i][m]=t at *;obtain⟨kd,tx,ps⟩:=t;simp only[fo] at F K N O Ad;generalize bZ ⟨kd,tx,ps⟩ pg=lb at *;clear V Ap
 cases lb with
 |false=>
  go_in;go_wp2_with fail;refine F.mono ?_;rintro _ _ ⟨rfl,rfl⟩;clear F;go_wp2;go_ret;rw[Ad.out];exact⟨rfl,(ba _ w).alloc lz _⟩
 |true=>
  go_in;go_wp2_with fail;refine F.mono ?_;rintro _ _ ⟨rfl,rfl⟩;clear F;have Ag:=Hh (fP w ⟨kd,tx,ps⟩);go_wp2;go_loopw [6] (fun x wr=>∃k:Nat,i+1<=k/\k<=L.length/\x=ao ar (k:Int)/\Hid (O1 (L.drop k) k=O1 (L.drop (i+1)) (i+1))/\cj w.heap.size w wr) (fun x _=>L.length-(cR x).toNat)
  .exact⟨i+1,cA _,hi,by go_num,Hh rfl,Ag.out⟩
  clear Ag q0 K N O Aq;obtain⟨k,Az,hk,rfl,R,I⟩:=hrel;have J:=Hh I
  by_cases C:k<L.length
  .obtain⟨b2,At,s2,e2,An,Aa,p0⟩:=(HT.out.below I).get C
   cases e2
   obtain⟨ta,Q,tc⟩:=s2
   have Ac:Q=L[k].length:=by
    obtain⟨a',c',H⟩:=Aa.len;simp only[dS,fS] at H;exact H.2.1
   simp only[dS] at p0;have Aj:=Am.out L[k] (cH C)
   by_cases X:Q=0
   .subst X
    have U:=Hh (UB C Ac.symm);clear I Aa Ac Aj;go_wp2;go_roundw
    .exact⟨k+1,by omega,C,by go_num,Hh (by rw[<-R.out,U.out]),J.out⟩
    simp[cR]<;>omega
   .obtain⟨n,rfl⟩:∃n,Q=n+1:=⟨Q-1,by omega⟩
    have e0:(((n+1:Nat):Int)==0)=false:=by simp;omega
    have U:=Hh (SL C (by omega));obtain⟨A2,Al,rfl,Ar,K,N,O⟩:=Aa.toks.get (j:=0) (by omega);have Ah:=Ot (r:=L[k]) (by omega)
    have Ae:Hid (xM L i=if bZ (L[k][0]'(by omega)) mZ then k else 0):=Hh (by
     rw[Ad.out,E4 (by trivial),<-R.out,U.out]
     simp only[br C,jz,Ah])
    have F:=p8 (L[k][0]'(by omega)) mZ wr;generalize (L[k][0]'(by omega))=t2 at *;obtain⟨As,Aw,Au⟩:=t2;simp only[fo,Nat.zero_mul,eA] at F K N O;generalize bZ ⟨As,Aw,Au⟩ mZ=rb at *;clear I Aa Ac Aj Ah X;go_wp2_with fail;refine F.mono ?_;rintro _ _ ⟨rfl,rfl⟩;clear F;cases rb
    all_goals
     go_wp2;go_ret;rw[Ae.out];exact⟨rfl,J.out.alloc J.out.size _⟩
  .obtain rfl:k=L.length:=by omega
   have HE:Hid (xM L i=0):=Hh (by rw[Ad.out,E4 (by trivial),<-R.out,ei];rfl);clear I;go_wp2;go_ret;rw[HE.out];exact⟨rfl,J.out⟩
def RV(Q:List aB):Option Bool:=Q.getLast?.map (fun r=>jy r.toks)
def zV(L:List (List ae))(i:Nat)(gap:Bool)(d:Int)(Q:List aB):Prop:=∃f,(L.drop i).length<=f/\di L=Q++iL (eu f gap (L.drop i)) d (RV Q)
theorem zV.start(L:List (List ae)):zV L 0 false 0 []:=⟨L.length,by simp,rfl⟩
theorem zV.empty{L:List (List ae)}(h:zV L i gap d Q)(hi:i<L.length)(j:L[i]=[]):zV L (i+1) true d Q:=by
 obtain⟨f,b,c⟩:=h;rw[bm] at b;obtain⟨g,rfl⟩:∃g,f=g+1:=⟨f-1,by omega⟩;refine⟨g,by rw[bm];omega,?_⟩;rw[c,cg hi,j,eu]
def rq(gap:Bool)(pv:Option Bool)(T:List ae):List aB:=if gap&&(pv.isSome&&(!lW T&&pv != aw true)) then [⟨[],0⟩] else []
theorem zV.row{L:List (List ae)}{i2:Nat}(h:zV L i gap d Q)(hi:i<L.length)(v:L[i]≠[])(o:rf L[i] (L.drop (i+1))=(T,L.drop i2))(x:i<i2) :
  zV L i2 false (dn d T) (Q++rq gap (RV Q) T++[⟨T,eB d T⟩]):=by
 obtain⟨f,b,k⟩:=h;rw[bm] at b;obtain⟨g,rfl⟩:∃g,f=g+1:=⟨f-1,by omega⟩;refine⟨g,by rw[bm];omega,?_⟩;rw[k,cg hi]
 cases hr:L[i] with
 |nil=>exact absurd hr v
 |cons t q=>
  rw[hr] at o;rw[eu,o,iL];have e:RV (Q++rq gap (RV Q) T++[⟨T,eB d T⟩])=aw (jy T):=by unfold RV;rw[eM];rfl
  rw[e];unfold rq;simp only[ef];rfl
theorem zV.end{L:List (List ae)}(h:zV L L.length gap d Q):di L=Q:=by
 obtain⟨f,b,a⟩:=h;rw[a,ei];cases f<;>simp[eu,iL]
theorem jE.shape(h:jE B1 B w v R):∃a c,v=an a R.length c:=by
 obtain⟨D,rfl,b,-⟩:=h;obtain⟨a,c,e⟩:=r9 b;exact⟨a,c,by rw[e,cW]⟩
theorem Dt{b off:Nat}{l:List ae}(h:aP w (an (aw ⟨b,off,aq⟩) l.length c) l):∀j u,(l.flatMap lM)[j]?=aw u->w.cell? ((⟨b,off,aq⟩:pC).add j)=aw u:=by
 intro j u g
 have Aa:(l.flatMap lM).length=l.length*3:=by
  clear h g
  induction l with
  |nil=>rfl
  |cons t l ih=>rw[fb,cm,ih];simp[lM];omega
 have D:j<l.length*3:=by rw[<-Aa];exact (fv.1 g).1
 obtain⟨q,r,B,rfl⟩:∃q r,r<3/\j=q*3+r:=⟨j / 3,j % 3,Nat.mod_lt _ (by omega),by omega⟩;have i:q<l.length:=by omega
 obtain⟨v,x,z⟩:=BV l q i;obtain⟨C,o',k,-,A,g2,g3⟩:=h.get i;cases k
 rw[iS,<-Nat.add_assoc]
 match r,B with
 |0,_=>rw[eA] at g ⊢;rw[v] at g;cases g;exact A
 |1,_=>rw[x] at g;cases g;exact g2
 |2,_=>rw[z] at g;cases g;exact g3
theorem Gq(l:List ae):∀u∈l.flatMap lM,u.oneCell'=true:=by
 intro u b;obtain⟨t,-,a⟩:=List.mem_flatMap.1 b;exact Ae t u a
theorem Gr(l:List ae):(l.flatMap lM).length=l.length*3:=by
 induction l with
 |nil=>rfl
 |cons t l ih=>rw[fb,cm,ih];simp[lM];omega
theorem Ht{a:Option pC}{l:List ae}(h:aS base w (an a n c) l)(D:l≠[]):n=l.length/\∃g,a=aw ⟨g,0,aq⟩/\g<w.heap.size:=by
 obtain⟨x,q⟩:=h;rcases q with ⟨-,j⟩|⟨g,i,k,u,C,v,j,z,A,B⟩
 .exact absurd (cC j) D
 .cases u
  exact⟨rfl,g,rfl,(Array.getElem?_eq_some_iff.1 v).1⟩
theorem jE.moved(h:jE B1 B w v R)(f:∀k,v.ownBlock=aw k->w'.heap[k]?=w.heap[k]?)(g:∀{u:cq} {l:List ae},aS B w u l->aS B w' u l):jE B1 B w' v R:=by
 obtain⟨D,a,b,c⟩:=h;exact⟨D,a,cZ b f,fun d hd=>g (c d hd)⟩
theorem jE.lt(h:jE B1 B w v R):∀k,v.ownBlock=aw k->B1<=k/\k<w.heap.size:=by
 obtain⟨D,-,a,-⟩:=h;exact fun k e=>cy a k e
theorem mW{x:Nat}{w1:cd}{cs:Array cq}{t:ff}{u:cq}(h:aa w1 x cs t/\aS B w1 u T/\jE w.heap.size B w1 v Q/\cj w.heap.size w w1)(hb:cj w1.heap.size w1 w2) :
  aa w2 x cs t/\aS B w2 u T/\jE w.heap.size B w2 v Q/\cj w.heap.size w w2:=
 ⟨h.1.below hb h.1.lt,h.2.1.below hb lz,h.2.2.1.moved (fun k e=>hb.block k (h.2.2.1.lt k e).2) (fun h=>h.below hb lz),av h.2.2.2 hb⟩
theorem jE.push{nv:cq}{D:List (kE×aB)}{d:kE×aB}(r:D.map (·.2)=Q)(j:w.ownsRow B1 68 2 v D.length (D.flatMap oF))(i:∀d∈D,aS B w (dS d.1) d.2.toks)(A:aS B w (dS d.1) d.2.toks)(C:w.grownBy w' v.ownBlock)(f:w'.ownsRow B1 68 2 nv (D.length+1) (D.flatMap oF++oF d)):jE B1 B w' nv (Q++[d.2]):=by
 have c:∀{u:cq} {l:List ae},aS B w u l->aS B w' u l:=fun hu=>cZ hu fun k e=>C.block k (cy hu k e).2 (fun q=>nz hu j (by decide) k e q.symm);refine⟨D++[d],by rw[eJ,r];rfl,?_,?_⟩
 .rw[fp,cm]
  simpa using f
 .intro x b
  rcases cX.1 b with b|b
  .exact c (i x b)
  .rw[de.1 b];exact c A
theorem NY(w:cd)(v:cq)(L:List (List ae))(h:mr B w v L)(hB:B<=w.heap.size)(hn:L.length<=1000000)(hl:∀r∈L,r.length<=400000) :
  cJ bh 11 #[v] w fun e w'=>∃v',e=bk v'/\jE w.heap.size B w' v' (di L)/\cj w.heap.size w w':=by
 obtain⟨va,vc,rfl,Bs,Bi,-⟩:=h.len;unfold cV at Bi;have HT:=Hh h;have HL:=Hh hl;clear h hl;go_in;go_wp2;go_loopw [3,4,5,6] (fun ov gv dv iv wr=>∃(k:Nat) (gap:Bool) (d:Int) (Q:List aB),k<=L.length/\iv=ao ar (k:Int)/\gv=cG gap/\dv=ao ar d/\(-(k:Int)<=d/\d<=k)/\jE w.heap.size B wr ov Q/\(Q.length<=k/\(gap=true->Q.length+1<=k))/\Hid (zV L k gap d Q/\∀r∈Q,r.toks.length<=900000)/\cj w.heap.size w wr) (fun _ _ _ iv _=>L.length-(cR iv).toNat)
 .exact⟨0,false,0,[],ck _,rfl,rfl,rfl,by omega,jE.nil _ _ _,⟨cA _,fun h=>by cases h⟩,Hh ⟨zV.start L,fun r h=>by cases h⟩,ba _ _⟩
 obtain⟨k,gap,d,Q,hk,rfl,rfl,rfl,hd,hQ,Ap,HM,hb⟩:=hrel
 by_cases hkl:k<L.length
 .obtain⟨b,Bd,s,rfl,Bg,Av,q0⟩:=(HT.out.below hb).get hkl
  obtain⟨sa,sn,sc⟩:=s
  have A9:sn=L[k].length:=by
   obtain⟨a',c',e'⟩:=Av.len;simp only[dS,fS] at e';exact e'.2.1
  have AL:=HL.out L[k] (cH hkl);have A3:=Hh A9;have AA:=hb.size;simp only[dS] at q0;obtain⟨oa,oc,rfl⟩:=hQ.shape;have HS:=Jh hQ (cE hb Av);have AS:cj wr.heap.size wr (wr.alloc (aE #[an sa sn sc,ao ar 0] 68)):=(ba _ wr).alloc lz _;have HA:=Hh AS;clear hQ hb Av A9 AS
  by_cases h0:sn=0
  .subst h0
   have HE:Hid (zV L (k+1) true d Q/\∀r∈Q,r.toks.length<=900000):=Hh ⟨HM.out.1.empty hkl (cC A3.out.symm),HM.out.2⟩;go_wp2;go_roundw
   .exact⟨k+1,true,d,Q,hkl,by go_num,rfl,rfl,by omega,(by obtain⟨D,h1,h2,h3⟩:=HS.out.1;exact⟨D,h1,World.ownsRow.alloc h2 _,fun x hx=>(h3 x hx).alloc _⟩),⟨by omega,fun _=>by omega⟩,HE,HS.out.2.1.alloc AA _⟩
   simp[cR];omega
  .have e0:((sn:Int)==0)=false:=by simpa using h0
   have AM:L[k]≠[]:=fun e=>h0 (by rw[A3.out,e];rfl);have AG:=Rt _ _ L ((HT.out.below HS.out.2.1).below HA.out) k hkl AM hn (fun r hr=>by have:=HL.out r hr;omega);have AV:=Tg hkl;obtain⟨nx,AW⟩:=exq (xM L k);rw[<-AW] at AG AV;clear AW;go_wp2_with fail;refine AG.mono ?_;rintro _ w4 ⟨rfl,hb4⟩;have Ay:=Hh AM;clear AG AM;have AZ:w.heap.size<=w4.heap.size:=by have:=hb4.size;simp at this;omega
   have Ai:Hid (aa w4 wr.heap.size #[an sa sn sc,ao ar 0] 68/\aS B w4 (dS (sa,sn,sc)) L[k]/\jE w.heap.size B w4 (an oa Q.length oc) Q/\cj w.heap.size w w4/\mr B w4 (an (aw ⟨b,Bd,aq⟩) L.length vc) L):=Hh (by
    have Ar:cj wr.heap.size wr w4:=HA.out.trans (hb4.mono (by simp));refine⟨(aa.new wr #[an sa sn sc,ao ar 0] 68).below hb4 (by simp),HS.out.2.2.below Ar lz,?_,av HS.out.2.1 Ar,(HT.out.below HS.out.2.1).below Ar⟩;obtain⟨D,h1,h2,h3⟩:=HS.out.1
    exact⟨D,h1,cZ h2 (fun x e=>Ar.block x (cy h2 x e).2),fun x hx=>(h3 x hx).below Ar lz⟩)
   have Ax:Hid (∀k,(iN oa Q.length oc).ownBlock=aw k->k≠wr.heap.size):=Hh (fun k e=>by have:=(HS.out.1.lt k e).2;omega);have AF:Hid (w4.cell? ⟨b,Bd+k,aq⟩=aw (an sa sn sc)):=Hh ((((HA.out.trans (hb4.mono (by simp)))).cell Bg).trans q0);clear hb4 HS HA q0 e0 h0;rcases AV with ⟨hn0,hj⟩|⟨j,hjl,hnj,hkj,hjne,hj⟩
   focus (
    have e1:decide ((k:Int)<(nx:Int))=false:=by rw[decide_eq_false_iff_not];omega
    go_upto_region 13 with fail
    obtain⟨i1,An⟩:∃x:Nat,k=x:=⟨k,rfl⟩;have Bj:k<=i1/\i1<L.length:=by omega
    have Ae:Hid (zV L (i1+1) false (dn d L[k]) (Q++rq gap (RV Q) L[k]++[⟨L[k],eB d L[k]⟩])/\L[k].length<=900000/\∀r∈Q,r.toks.length<=900000):=Hh ⟨by rw[<-An];exact HM.out.1.row hkl Ay.out hj (by omega),by omega,HM.out.2⟩;rw[An];have A0:Hid (aa w4 wr.heap.size #[an sa sn sc,ao ar 0] 68/\aS B w4 (dS (sa,sn,sc)) L[k]/\jE w.heap.size B w4 (an oa Q.length oc) Q/\cj w.heap.size w w4):=Hh ⟨Ai.out.1,Ai.out.2.1,Ai.out.2.2.1,Ai.out.2.2.2.1⟩;clear Ai An hn0 hj e1 HM Ay AF;have A9:=A3.out;clear A3 AL;subst A9;generalize L[k]=T at *;generalize w4=wc at *
    )
   rotate_left
   focus (
    have e1:decide ((k:Int)<(nx:Int))=true:=by rw[decide_eq_true_iff];omega
    obtain⟨i0,An,Ba,Bb,Bc⟩:=info_parts Tryz.infoTok;obtain⟨b2,Bo,s2,e2,Bh,Al,q2⟩:=Ai.out.2.2.2.2.get hjl;cases e2
    obtain⟨ta,tn,tc⟩:=s2;simp only[dS] at q2;obtain⟨rfl,g2,rfl,Bu⟩:=Ht Al hjne;have Ak:=Ai.out.2.1;obtain⟨rfl,g1,rfl,Bt⟩:=Ht Ak Ay.out;have hc:=Ai.out.1;have q1:=AF.out;have lc:=hc.lt;have AU:=HL.out L[j] (cH hjl);have Bw:(0:Int)<=(k:Int):=by omega
    have Bx:(k:Int)<(L.length:Int):=by omega
    have Bv:(0:Int)<=(j:Int):=by omega
    have Bk:(j:Int)<(L.length:Int):=by omega
    have AN:=Hh Ak;have AC:=Hh Al;have HC:=Hh hc;have AX:0<L[k].length:=ey.2 Ay.out;have AY:0<L[j].length:=ey.2 hjne;have HP:=Jh AX AY;have Aw:=Jh AL AU;clear Ak Al hc AX AY AL AU;go_upto_region 11 with fail
    go_cut [] (fun wc=>∃g5 c5,aa wc wr.heap.size #[an (aw ⟨g5,0,aq⟩) (L[k]++L[j]).length c5,ao ar 0] 68/\aS B wc (dS (aw ⟨g5,0,aq⟩,(L[k]++L[j]).length,c5)) (L[k]++L[j])/\jE w.heap.size B wc (an oa Q.length oc) Q/\cj w.heap.size w wc)
    case first=>
     generalize L[k]=T1 at *;generalize L[j]=T2 at *
     go_region_law (first
      |(refine step_append_lies _ rfl _ _ 55 rfl B 62 i0 _ 3 32 mA An Ba Bb Bc rfl (by decide) (an aq 0 0) 0 [] (by rfl) (ir _ _ _ _) ⟨g1,0,aq⟩ T1.length sc (T1.flatMap lM) (by rfl) (Gr _) (by exact Dt (show aS B w4.drew _ _ from AN.out).toks) (Gq _) (by exact HP.out.1) (by have:=Aw.out.1;unfold cV;omega) (by have:=Aw.out.1;omega) (by show B<=w4.heap.size;omega) _ rfl ?_;intro g3 cap3 w5 hown3 hgrow3 hat3 hlt3;have G1:w4.grownBy w5 aq:=⟨hgrow3.os,hgrow3.tape,hgrow3.output,hgrow3.size,hgrow3.block⟩;have AQ:aS B w5 (an (aw ⟨g2,0,aq⟩) T2.length tc) T2:=AC.out.moved (fun k e=>G1.block k (cy AC.out k e).2 (by simp));have p1:=G1.cell q1 (by simp);have p2:=G1.cell q2 (by simp);have x5:=HC.out.kept G1 (by simp);have AR:Hid (g3=w4.heap.size):=Hh (hat3.elim (fun h=>by cases h) (fun h=>h));have hown3:w5.ownsRow B 62 3 (an (aw ⟨g3,0,aq⟩) T1.length cap3) T1.length (T1.flatMap lM):=(by rw[df,cM] at hown3;exact hown3);have A1:=Jh hown3 (cE G1 (cE hlt3 (cE AQ x5)));clear hown3 hgrow3 hat3 hlt3 AQ x5 G1)
      |(refine step_append_lies _ rfl _ _ 55 rfl B 62 i0 _ 3 32 mA An Ba Bb Bc rfl (by decide) (an (aw ⟨g3,0,aq⟩) T1.length cap3) T1.length (T1.flatMap lM) (by rfl) (by exact A1.out.1) ⟨g2,0,aq⟩ T2.length tc (T2.flatMap lM) (by rfl) (Gr _) (by exact Dt A1.out.2.2.2.1.toks) (Gq _) (by exact HP.out.2) (by have:=Aw.out;unfold cV;omega) (by have:=Aw.out;omega) (by have:=A1.out.2.1.size;omega) _ rfl ?_;intro g5 cap5 w6 hown5 hgrow5 hat5 hlt5;have G2:w5.grownBy w6 (aw g3):=hgrow5;have x6:=A1.out.2.2.2.2.kept G2 (by rw[AR.out];intro e;have:=dt e;omega);obtain⟨b0,Bp,b1,Bq⟩:=x6.n2 rfl;have By:=x6.lt;have AB:=Jh hown5 (cE G2 x6);clear hown5 hgrow5 hat5 hlt5 G2 x6))
     all_goals go_wp2_with fail
     all_goals go_meet
     all_goals
      have G1:=A1.out.2.1;have G2:=AB.out.2.1;have x6:=AB.out.2.2;have s5:=G1.size;have e3:=AR.out;refine⟨g5,cap5,?_,?_,?_,?_⟩
      .have h:=x6.set 0 (by simp) (iN (aw ⟨g5,0,aq⟩) (T1.length+T2.length) cap5)
       rw[cm];exact h
      .have h:=AB.out.1
       unfold aS;rw[fp,cm];exact dR h x6 (by decide) 0 _
      .refine Ai.out.2.2.1.moved (fun q e=>?_) (fun {u l} h=>?_)
       .have hq:=Ax.out q e
        have Ap:=(Ai.out.2.2.1.lt q e).2;exact ((ds _ _ _ _ (by show q≠wr.heap.size;omega)).trans (G2.block q (by omega) (fun e=>by have:=dt e;omega))).trans (G1.block q (by omega) (by simp))
       .exact dR (cZ h (fun q e=>by
         have hq:=(cy h q e).2
         exact (G2.block q (by omega) (fun e=>by have:=dt e;omega)).trans (G1.block q (by omega) (by simp)))) x6 (by decide) 0 _
      .exact ((Ai.out.2.2.2.1.grown G1 AZ (by simp)).grown G2 (by omega) (fun q e=>by have:=dt e;omega)).setCell AA _
    obtain⟨g5,c5,y1,y2,y3,y4⟩:=hcut;go_upto_region 13 with fail
    have A0:=Jh y1 (cE y2 (cE y3 y4));obtain⟨i1,An⟩:∃x:Nat,j=x:=⟨j,rfl⟩;have Bj:k<=i1/\i1<L.length:=by omega
    have Ae:Hid (zV L (i1+1) false (dn d (L[k]++L[j])) (Q++rq gap (RV Q) (L[k]++L[j])++[⟨L[k]++L[j],eB d (L[k]++L[j])⟩])/\(L[k]++L[j]).length<=900000/\∀r∈Q,r.toks.length<=900000):=Hh ⟨by rw[<-An];exact HM.out.1.row hkl Ay.out hj (by omega),by rw[cm];have:=Aw.out;omega,HM.out.2⟩;clear y1 y2 y3 y4;generalize L[k]++L[j]=T at *;generalize (aw ⟨g5,0,aq⟩:Option pC)=sa at A0;generalize c5=sc at *;rw[An]
    clear An hj Ai HM Ay AF A3 AN AC HC HP Aw AZ q1 q2)
   all_goals
    have hc:=A0.out.1;have lc:=hc.lt;have A5:=Gt wc (an sa T.length sc) T 0 0 A0.out.2.1.toks (by have:=Ae.out.2.1;omega) (by omega);have A6:=fun W=>p8 (Pj T (ng T 0 0)) mZ W;obtain⟨cb,AI⟩:∃x,lW T=x:=⟨_,rfl⟩;have AJ:=Hh ((TD T).trans AI);have Aq:=Hh AI;clear AI;generalize Pj T (ng T 0 0)=t at A5 A6 AJ;obtain⟨kd,tx,ps⟩:=t;simp only[fo,GI] at A5 A6;obtain⟨Aa,Ac,Ab,Ad⟩:=hc.n2 rfl;clear hc;go_wp2_with fail;refine A5.mono ?_;rintro _ w5 ⟨rfl,Ar⟩;have AO:=Hh (mW A0.out Ar);clear A5 Ar A0 Aa Ab Ac Ad;go_wp2_with fail;refine (A6 _).mono ?_;rintro _ _ ⟨rfl,rfl⟩;rw[AJ.out];have Ag:=Hh (mW AO.out (fP w5 ⟨kd,tx,ps⟩));clear A6 AO AJ;generalize w5.alloc (kV ⟨kd,tx,ps⟩)=wz at Ag ⊢;have Bf:Q.length<=k:=Ap.1;have B0:eC.i64.wrap (d-1)=d-1:=cU _ (by omega);have B1:eC.i64.wrap (d+1)=d+1:=cU _ (by omega);have B2:eC.i64.wrap (d-1+1)=d-1+1:=cU _ (by omega);cases cb
    focus (
     cases gap
     focus (
      go_upto_region 16 with fail
      have Am:Hid (zV L (i1+1) false (dn d T) (Q++[⟨T,eB d T⟩])/\T.length<=900000/\∀r∈Q,r.toks.length<=900000):=Hh ⟨by have h:=Ae.out.1;have As:=Aq.out;simpa [rq] using h,Ae.out.2⟩
      clear Ae Ap)
     rotate_left
     by_cases h0:Q.length=0
     case' pos=>
      obtain⟨qn,Af⟩:∃x:Nat,x=Q.length:=⟨_,rfl⟩;have e0:decide ((0:Int)<(qn:Int))=false:=by simp;omega
      have e1:decide (0<qn)=false:=by simp;omega
      have e2:(0<qn)=False:=by simp;omega
      have AT:Hid (Q=[]):=Hh (cC h0);rw[<-Af];have HQ:=Hh Af;clear h0 Af;go_upto_region 16 with fail
      have Af:=HQ.out;clear HQ e0 e1 e2;subst Af;have Am:Hid (zV L (i1+1) false (dn d T) (Q++[⟨T,eB d T⟩])/\T.length<=900000/\∀r∈Q,r.toks.length<=900000):=Hh ⟨by have h:=Ae.out.1;have As:=Aq.out;have hq:=AT.out;simpa [rq,RV,hq] using h,Ae.out.2⟩;clear Ae Ap AT
     case' neg=>
      obtain⟨m,hm⟩:∃m,Q.length=m+1:=⟨Q.length-1,by omega⟩;have A7:m<Q.length:=by omega
      obtain⟨b3,s3,e3,Br,AH,c0,c1⟩:=(Ag.out.2.2.1.tr hB).get A7;obtain⟨a3,n3,p3⟩:=s3;simp only[dS] at c0 AH;cases e3
      have A8:Q.length+1<=k:=Ap.2 rfl;have Ah:=rO wz (an a3 n3 p3) Q[m].toks Q[m].dep AH.toks (by have:=Ae.out.2.2 Q[m] (cH A7);omega)
      have A2:Hid (RV Q=aw (jy Q[m].toks)):=Hh (by
       unfold RV;have e:Q.length-1=m:=by omega
       rw[gk,e,br A7];rfl)
      simp only[GI] at Ah;generalize jy Q[m].toks=ob at Ah A2;generalize Q[m].dep=dp3 at Ah c1;obtain⟨qn,Af⟩:∃x:Nat,x=Q.length:=⟨_,rfl⟩;have e0:decide ((0:Int)<(qn:Int))=true:=by simp;omega
      have e1:decide (0<qn)=true:=by simp;omega
      have e2:(0<qn)=True:=by simp;omega
      have kq:eC.i64.wrap ((qn:Int)-1)=(m:Int):=by rw[cU _ (by omega)];omega
      have Bl:(0:Int)<=(m:Int):=by omega
      have Bm:(m:Int)<(qn:Int):=by omega
      have Bn:m<qn:=by omega
      rw[<-Af];have HQ:=Hh Af;have AE:=Hh A8;have Be:Hid (1<=Q.length):=Hh (by omega);clear h0 Af AH hm A7 A8 Ap;go_wp2_with fail;refine Ah.mono ?_;rintro _ w7 ⟨rfl,hb7⟩;have AP:=Hh (mW Ag.out hb7);clear Ah hb7 Ag c0 c1 e0 e1 e2 kq Bl Bm Bn;have Ag:=AP;clear AP;generalize w7=wz at *;cases ob
      focus (
       go_wp2_with (with_reducible first|refine aL ?_)
       refine Stop.out ?_;have Af:=HQ.out;subst Af;obtain⟨x1,x2,x3,x4⟩:=mW Ag.out ((ba _ wz).alloc lz (aE #[an aq 0 0,ao ar 0] 68));obtain⟨D,d1,d2,d3⟩:=x3;have Az:D.length=Q.length:=by rw[<-d1,cW]
       have A8:=AE.out;refine iF rfl _ _ rfl w.heap.size (an (aw ⟨b3,0,aq⟩) Q.length oc) D ((aq,0,0),⟨[],0⟩) rfl (by exact d2) wz.heap.size rfl (by exact aa.new wz #[an aq 0 0,ao ar 0] 68) (by omega) (by exact x4.size) ?_;intro nv w9 ho9 hg9;obtain⟨na,nc,rfl⟩:=r9 ho9;have xc:=x1.kept hg9 (fun e=>Ax.out _ e.symm rfl)
       have At:∀q,(iN na (D.length+1) nc).ownBlock=aw q->q≠wr.heap.size:=by
        intro q e hqe;rw[hqe] at e;rcases ho9.2 with ⟨-,h3⟩|⟨g,cap,cur,he,hgb,hgc,h3,h4,h5,h6⟩
        .omega
        .cases he
         have e':g=wr.heap.size:=dt e;rw[e',show w9.heap[wr.heap.size]?=_ from xc] at hgc;simp only[du,mT] at hgc;have hz:=congrArg Array.size hgc.1;rw[h5] at hz;simp at hz
         have Bz:=Be.out;omega
       have AK:D.length+1=(Q++[(⟨[],0⟩:aB)]).length:=by simp[Az]
       have xt:aS B w9 (dS (sa,T.length,sc)) T:=cZ x2 fun q e=>hg9.block q (cy x2 q e).2 (fun q2=>nz x2 d2 (by decide) q e q2.symm);have xr:=jE.push d1 d2 d3 aS.nil hg9 ho9;have xb:=x4.grown hg9 (by exact x4.size) (fun q e=>(cy d2 q e).1);rw[AK] at At xr ⊢
       have Am:Hid (zV L (i1+1) false (dn d T) (Q++[⟨[],0⟩]++[⟨T,eB d T⟩])/\T.length<=900000/\∀r∈Q++[(⟨[],0⟩:aB)],r.toks.length<=900000):=Hh ⟨by
        have h:=Ae.out.1;have As:=Aq.out;rw[A2.out] at h
        simpa [rq,As] using h,Ae.out.2.1,fun r hr=>by
        rcases cX.1 hr with hr|hr
        .exact Ae.out.2.2 r hr
        .rw[de.1 hr];exact ck _⟩
       have Bf:(Q++[(⟨[],0⟩:aB)]).length<=k:=by rw[<-AK];omega
       have Ag:=Jh xc (cE xt (cE xr xb));have Ax:=Hh At;clear xc xt xr xb At AK d1 d2 d3 ho9 hg9 x1 x2 x4 Az HQ AE A8 A2 Ae;generalize Q++[(⟨[],0⟩:aB)]=Q at *;generalize w9=wz at *;generalize na=oa at *;generalize nc=oc at *
       go_upto_region 16 with fail)
      rotate_left
      case' true=>
       go_upto_region 16 with fail
       have Af:=HQ.out;subst Af;generalize (aw ⟨b3,0,aq⟩:Option pC)=oa at Ag Ax ⊢
       have Am:Hid (zV L (i1+1) false (dn d T) (Q++[⟨T,eB d T⟩])/\T.length<=900000/\∀r∈Q,r.toks.length<=900000):=Hh ⟨by
        have h:=Ae.out.1;rw[A2.out] at h
        simpa [rq] using h,Ae.out.2⟩
       clear Ae HQ AE A2
     all_goals
      have hc:=Ag.out.1;have lc:=hc.lt;obtain⟨Aa,Ac,Ab,Ad⟩:=hc.n2 rfl;have Ao:Hid (zV L (i1+1) false (if jy T then d+1 else d) (Q++[⟨T,d⟩])/\T.length<=900000/\∀r∈Q,r.toks.length<=900000):=Hh (by have h:=Am.out;unfold dn eB at h;rw[Aq.out] at h;exact h);clear hc Am;go_upto_region 20 with fail
      have Aj:Hid (aa (wz.setCell ⟨wr.heap.size,1,aq⟩ (ao ar d)) wr.heap.size #[an sa T.length sc,ao ar d] 68/\aS B (wz.setCell ⟨wr.heap.size,1,aq⟩ (ao ar d)) (dS (sa,T.length,sc)) T/\jE w.heap.size B (wz.setCell ⟨wr.heap.size,1,aq⟩ (ao ar d)) (an oa Q.length oc) Q/\cj w.heap.size w (wz.setCell ⟨wr.heap.size,1,aq⟩ (ao ar d))):=
       Hh ⟨Ag.out.1.set 1 (by simp) _,dR Ag.out.2.1 Ag.out.1 (by decide) 1 _,Ag.out.2.2.1.moved (fun q e=>ds _ _ _ _ (by exact Ax.out q e)) (fun h=>dR h Ag.out.1 (by decide) 1 _),Ag.out.2.2.2.setCell (by exact AA) _⟩
      generalize wz.setCell ⟨wr.heap.size,1,aq⟩ (ao ar d)=wy at Aj ⊢;clear Ag Aa Ac Ab Ad lc;have hc:=Aj.out.1;have lc:=hc.lt;obtain⟨Aa,Ac,Ab,Ad⟩:=hc.n2 rfl;have Ah:=rO wy (an sa T.length sc) T (d) Aj.out.2.1.toks (by have:=Ao.out.2.1;omega);simp only[GI] at Ah;obtain⟨ob,Au⟩:∃x,jy T=x:=⟨_,rfl⟩;rw[Au] at Ah;have AD:=Hh Au;clear Au hc;go_wp2_with fail;refine Ah.mono ?_;rintro _ w8 ⟨rfl,hb8⟩;have A4:=Hh (mW Aj.out hb8);clear Ah hb8 Aj Aa Ac Ab Ad lc;have hc:=A4.out.1;have lc:=hc.lt;obtain⟨Aa,Ac,Ab,Ad⟩:=hc.n2 rfl;clear hc;cases ob
      all_goals
       go_wp2_with (with_reducible first|refine aL ?_)
       refine Stop.out ?_;obtain⟨x1,x2,x3,x4⟩:=mW A4.out ((ba _ w8).alloc lz (aE #[an sa T.length sc,ao ar (d)] 68));obtain⟨D,d1,d2,d3⟩:=x3;have Az:D.length=Q.length:=by rw[<-d1,cW]
       refine iF rfl _ _ rfl w.heap.size (an oa Q.length oc) D ((sa,T.length,sc),⟨T,d⟩) rfl (by exact d2) w8.heap.size rfl (by exact aa.new w8 #[an sa T.length sc,ao ar (d)] 68) (by omega) (by exact x4.size) ?_;intro nv w9 ho9 hg9;obtain⟨na,nc,rfl⟩:=r9 ho9;have HF:=Jh (jE.push d1 d2 d3 x2 hg9 ho9) (x4.grown hg9 (by exact x4.size) (fun q e=>(cy d2 q e).1));clear x1 x2 x4 d1 d2 d3 ho9 hg9 Az Aa Ac Ab Ad lc;go_wp2;go_roundw
       .exact⟨i1+1,false,_,Q++[⟨T,d⟩],by omega,by go_num,rfl,rfl,by omega,HF.out.1,⟨by simp;omega,fun h=>by cases h⟩,Hh ⟨by have h:=Ao.out.1;rw[AD.out] at h;first|exact h|(rw[E4 rfl,Int.sub_add_cancel] at h;exact h),fun r hr=>by
        rcases cX.1 hr with hr|hr
        .exact Ao.out.2.2 r hr
        .rw[de.1 hr];exact Ao.out.2.1⟩,HF.out.2⟩
       simp[cR]<;>omega
     )
    focus (
     cases gap
     focus (
      go_upto_region 16 with fail
      have Am:Hid (zV L (i1+1) false (dn d T) (Q++[⟨T,eB d T⟩])/\T.length<=900000/\∀r∈Q,r.toks.length<=900000):=Hh ⟨by have h:=Ae.out.1;have As:=Aq.out;simpa [rq] using h,Ae.out.2⟩
      clear Ae Ap)
     rotate_left
     by_cases h0:Q.length=0
     case' pos=>
      obtain⟨qn,Af⟩:∃x:Nat,x=Q.length:=⟨_,rfl⟩;have e0:decide ((0:Int)<(qn:Int))=false:=by simp;omega
      have e1:decide (0<qn)=false:=by simp;omega
      have e2:(0<qn)=False:=by simp;omega
      rw[<-Af];have HQ:=Hh Af;clear h0 Af;go_upto_region 16 with fail
      have Af:=HQ.out;clear HQ e0 e1 e2;subst Af;have Am:Hid (zV L (i1+1) false (dn d T) (Q++[⟨T,eB d T⟩])/\T.length<=900000/\∀r∈Q,r.toks.length<=900000):=Hh ⟨by have h:=Ae.out.1;have As:=Aq.out;simpa [rq,As] using h,Ae.out.2⟩;clear Ae Ap
     case' neg=>
      obtain⟨qn,Af⟩:∃x:Nat,x=Q.length:=⟨_,rfl⟩;have e0:decide ((0:Int)<(qn:Int))=true:=by simp;omega
      have e1:decide (0<qn)=true:=by simp;omega
      have e2:(0<qn)=True:=by simp;omega
      rw[<-Af];have HQ:=Hh Af;clear h0 Af;go_upto_region 16 with fail
      have Af:=HQ.out;clear HQ e0 e1 e2;subst Af;have Am:Hid (zV L (i1+1) false (dn d T) (Q++[⟨T,eB d T⟩])/\T.length<=900000/\∀r∈Q,r.toks.length<=900000):=Hh ⟨by have h:=Ae.out.1;have As:=Aq.out;simpa [rq,As] using h,Ae.out.2⟩;clear Ae Ap
     all_goals
      have hc:=Ag.out.1;have lc:=hc.lt;obtain⟨Aa,Ac,Ab,Ad⟩:=hc.n2 rfl;have Ao:Hid (zV L (i1+1) false (if jy T then (d-1)+1 else (d-1)) (Q++[⟨T,(d-1)⟩])/\T.length<=900000/\∀r∈Q,r.toks.length<=900000):=Hh (by have h:=Am.out;unfold dn eB at h;rw[Aq.out] at h;exact h);clear hc Am;go_upto_region 20 with fail
      have Aj:Hid (aa (wz.setCell ⟨wr.heap.size,1,aq⟩ (ao ar (d-1))) wr.heap.size #[an sa T.length sc,ao ar (d-1)] 68/\aS B (wz.setCell ⟨wr.heap.size,1,aq⟩ (ao ar (d-1))) (dS (sa,T.length,sc)) T/\jE w.heap.size B (wz.setCell ⟨wr.heap.size,1,aq⟩ (ao ar (d-1))) (an oa Q.length oc) Q/\cj w.heap.size w (wz.setCell ⟨wr.heap.size,1,aq⟩ (ao ar (d-1)))):=
       Hh ⟨Ag.out.1.set 1 (by simp) _,dR Ag.out.2.1 Ag.out.1 (by decide) 1 _,Ag.out.2.2.1.moved (fun q e=>ds _ _ _ _ (by exact Ax.out q e)) (fun h=>dR h Ag.out.1 (by decide) 1 _),Ag.out.2.2.2.setCell (by exact AA) _⟩
      generalize wz.setCell ⟨wr.heap.size,1,aq⟩ (ao ar (d-1))=wy at Aj ⊢;clear Ag Aa Ac Ab Ad lc;have hc:=Aj.out.1;have lc:=hc.lt;obtain⟨Aa,Ac,Ab,Ad⟩:=hc.n2 rfl;have Ah:=rO wy (an sa T.length sc) T ((d-1)) Aj.out.2.1.toks (by have:=Ao.out.2.1;omega);simp only[GI] at Ah;obtain⟨ob,Au⟩:∃x,jy T=x:=⟨_,rfl⟩;rw[Au] at Ah;have AD:=Hh Au;clear Au hc;go_wp2_with fail;refine Ah.mono ?_;rintro _ w8 ⟨rfl,hb8⟩;have A4:=Hh (mW Aj.out hb8);clear Ah hb8 Aj Aa Ac Ab Ad lc;have hc:=A4.out.1;have lc:=hc.lt;obtain⟨Aa,Ac,Ab,Ad⟩:=hc.n2 rfl;clear hc;cases ob
      all_goals
       go_wp2_with (with_reducible first|refine aL ?_)
       refine Stop.out ?_;obtain⟨x1,x2,x3,x4⟩:=mW A4.out ((ba _ w8).alloc lz (aE #[an sa T.length sc,ao ar ((d-1))] 68));obtain⟨D,d1,d2,d3⟩:=x3;have Az:D.length=Q.length:=by rw[<-d1,cW]
       refine iF rfl _ _ rfl w.heap.size (an oa Q.length oc) D ((sa,T.length,sc),⟨T,(d-1)⟩) rfl (by exact d2) w8.heap.size rfl (by exact aa.new w8 #[an sa T.length sc,ao ar ((d-1))] 68) (by omega) (by exact x4.size) ?_;intro nv w9 ho9 hg9;obtain⟨na,nc,rfl⟩:=r9 ho9;have HF:=Jh (jE.push d1 d2 d3 x2 hg9 ho9) (x4.grown hg9 (by exact x4.size) (fun q e=>(cy d2 q e).1));clear x1 x2 x4 d1 d2 d3 ho9 hg9 Az Aa Ac Ab Ad lc;go_wp2;go_roundw
       .exact⟨i1+1,false,_,Q++[⟨T,(d-1)⟩],by omega,by go_num,rfl,rfl,by omega,HF.out.1,⟨by simp;omega,fun h=>by cases h⟩,Hh ⟨by have h:=Ao.out.1;rw[AD.out] at h;first|exact h|(rw[E4 rfl,Int.sub_add_cancel] at h;exact h),fun r hr=>by
        rcases cX.1 hr with hr|hr
        .exact Ao.out.2.2 r hr
        .rw[de.1 hr];exact Ao.out.2.1⟩,HF.out.2⟩
       simp[cR]<;>omega
     )
 .obtain rfl:k=L.length:=by omega
  have hE:=HM.out.1.end;obtain⟨oa,oc,rfl⟩:=hQ.shape;have HS:=Jh hQ hb;clear hQ hb hkl;go_wp2;go_ret;rw[hE];exact⟨_,rfl,HS.out⟩
theorem jE.low{B0:Nat}(h:jE B1 B w v R)(f:B0<=B1)(g:B0<=B):Jq B0 w v R:=by
 obtain⟨D,a,b,c⟩:=h;exact⟨D,a,wR b f,fun d hd=>wR (c d hd) g⟩
theorem Ak(s:E7)(w:cd)(hT:jF w)(hTb:CB w.heap.size w)(hs:s.size<=800000)(hn:(aA s.data.toList).length<=1000000)(hl:∀r∈aA s.data.toList,r.toks.length<=400000)(J:(aT s.data.toList).2.2=0->(∀r∈di ((aA s.data.toList).map (·.toks)),Dn r)/\(iC ((aA s.data.toList).map (·.toks))).length<=400000000/\(di ((aA s.data.toList).map (·.toks))).length<=1000000) :
  cJ bh 5 #[al s] w fun e w'=>e=bk (dr #[al ⟨(bU s.data.toList).1.toArray⟩,ao ar (bU s.data.toList).2.1,ao ar (bU s.data.toList).2.2])/\cj w.heap.size w w':=by
 have hP:=uX s w hT (by omega);obtain⟨X,Q⟩:=exq (aT s.data.toList);have Ad:bU s.data.toList=if X.2.2=0 then (iC ((aA s.data.toList).map (·.toks)),-1,0) else ([],X.2):=by rw[Q];rfl
 rw[Ad];rw[<-Q] at J hP;clear Ad Q;obtain⟨X1,Aj,L⟩:=X;go_in;go_wp2_with fail;refine hP.mono ?_;rintro _ G ⟨⟨v1,rfl,-⟩,x⟩
 by_cases N:L=0
 .subst N
  simp only at J;obtain⟨Ae,Af⟩:=J (by trivial);have I:=Jh Ae Af;clear J Ae Af;go_wp2_with fail;have Ac:w.heap.size<=G.heap.size:=x.size;have Ab:cj w.heap.size w (G.alloc (aE #[cx aq,an aq 0 0] 36)):=x.alloc Ac _;have hR:=Kj s _ (hT.below Ab) (by omega) hn;have HW:=Hh (BW.start G G.heap.size lz);have Ai:=Hh Ab;clear x Ab;generalize hw2:G.alloc (aE #[cx aq,an aq 0 0] 36)=w2 at *;have An:w2.heap.size=G.heap.size+1:=by rw[<-hw2];simp
  clear hw2;refine hR.mono ?_;rintro _ w3 ⟨v3,rfl,hK,u⟩;have hM:=NY w3 v3 _ hK u.size (by simpa using hn) (by simpa using hl);clear hR;go_wp2_with fail;refine hM.mono ?_;rintro _ w4 ⟨v4,rfl,hO,D⟩;have Am:=u.size;have Ag:=(HW.out.below u).below D;have Aa:cj w.heap.size w w4:=(Ai.out.trans (u.mono (by omega))).trans (D.mono (by omega));have Ah:=MO _ v4 Ag (hO.low (by omega) (by omega)) I.out.1 I.out.2.2 (by have:=I.out.2.1;simpa [iC] using this) (fun W q=>hTb W (Aa.trans (q.mono Ac)));have HS:=Jh Aa Ac;clear hM hO hK Ag Aa;go_wp2_with fail;refine Ah.mono ?_;rintro _ w5 ⟨rfl,H,E⟩;have Al:=wm w5 (by exact H.2.choose_spec.2) (by have:=u.size;have:=D.size;have:=E.size;omega) (by have:=I.out.2.1;simpa [iC] using Nat.le_trans this (by decide));have HZ:=Jh u (cE D E);clear Ah H u D E;go_wp2_with fail;refine Al.mono ?_;rintro _ w6 ⟨rfl,V,-⟩;go_wp2_with fail;refine bodyPost_ret (v:=dr #[al ⟨([]++ja (di ((aA s.data.toList).map aK.toks)) []).toArray⟩,ao ar (-1),ao ar 0]) (by simp[cD,Tryz.results5,go_sem]) rfl ?_;refine⟨by trivial,HS.out.1.trans ((HZ.out.2.2.trans V).mono HS.out.2)⟩
 .have h1:(L != 0)=true:=by simpa using N
  have HB:=Hh x;clear x J;go_wp2_with fail;refine bodyPost_ret (v:=dr #[al ⟨#[]⟩,ao ar Aj,ao ar L]) (by simp[cD,Tryz.results5,go_sem]) rfl ?_;simp only[E6 N];exact⟨by trivial,HB.out⟩
theorem jF.tabB(h:jF w):CB w.heap.size w:=fun _ hW=>(h.below hW).utf
theorem Pk(h:(aT l).2.2=0)(c:l.length<=4500):(iC ((aA l).map (·.toks))).length<=400000000:=by
 have:=M8 h;have b:(2*(l.length+1))*(4*(128+2*l.length)+2)<=(2*(4500+1))*(4*(128+2*4500)+2):=Nat.mul_le_mul (by omega) (by omega);omega
theorem Ah(s:E7)(w:cd)(c:jF w)(i:s.size<=4500) :
  cJ bh 5 #[al s] w fun e w'=>e=bk (dr #[al (au (bU s.data.toList).1),ao ar (bU s.data.toList).2.1,ao ar (bU s.data.toList).2.2])/\cj w.heap.size w w':=by
 have f:s.data.toList.length=s.size:=aM s;have b:=mH s.data.toList;refine Ak s w c c.tabB (by omega) (by omega) (fun r hr=>by have:=b.2.2 r hr;omega) (fun h=>⟨PI h (by omega),Pk h (by omega),?_⟩);have:=(wC ((aA s.data.toList).map (·.toks))).2;rw[cW] at this;omega
abbrev UM:Bs:=[97,61,49,10,98,32,32,123,10,125,10]
theorem M4:bU UM=([97,32,61,32,49,10,98,32,123,125,10],-1,0):=by kernel_rfl
theorem Gl(w:cd)(i:jF w):cJ bh 4 #[] w fun e w'=>e=bk (cG true)/\cj w.heap.size w w':=by
 have a:=Ah (au UM) w i (by decide);rw[aV,M4] at a;have e1:au [97,32,61,32,49,10,98,32,123,125,10]=⟨#[97,32,61,32,49,10,98,32,123,125,10]⟩:=rfl;have c:au UM=⟨#[97,61,49,10,98,32,32,123,10,125,10]⟩:=rfl;rw[c] at a;simp only[e1] at a;clear e1 c;go_in;go_wp2_with fail;refine a.mono ?_;clear a;rintro _ j ⟨rfl,b⟩;have f:=Hh b;clear b;go_wp2;go_ret;exact⟨rfl,f.out⟩
abbrev jf(n:Int):cq:=ao ar n
theorem yx:∀(l:List Bool) (k:Nat) (i:Int),k<l.length->fM (l.take (k+1)) i=fM (l.take k) i++(if l.getD k false then [] else [i+k])
 |b::l,0,i,_=>by cases b<;>simp[fM]
 | b::l,k+1,i,h=>by
  have ih:=yx l k (i+1) (by simpa using h);have e:(b::l).getD (k+1) false=l.getD k false:=by simp
  rw[cN,cN,fM,fM,ih,e];have c:i+1+(k:Int)=i+((k+1:Nat):Int):=by omega
  rw[c];cases b<;>simp
theorem Bp:∀(l:List Bool) (i:Int),(fM l i).length<=l.length
 |[],_=>cA _
 | b::l,i=>by
  have:=Bp l (i+1);rw[fM];cases b
  .simpa using this
  .simp;omega
def PH:Nat->Nat
 |0=>72
 |1=>73
 |2=>74
 |3=>75
 |4=>76
 |5=>77
 |_=>78
theorem PG(s:E7)(f:cq)(R:List aK)(w:cd)(b:iQ B w f R)(i:∀r∈R,RY s.data.toList r)(q:R.length<=1000000)(j:s.size<=800000)(C:jF w)(k:Nat)(I:k<7) :
  cJ bh (PH k) #[RS s f] w fun e w'=>e=bk (cG ((AA s.data.toList R).getD k false))/\cj w.heap.size w w':=by
 have o:∀r∈R,r.toks.length<=1000000:=fun r hr=>(i r hr).2.1
 match k,I with
 |0,_=>
  obtain⟨u,x,rfl,-⟩:=b.len;exact Oz s u _ x w j
 |1,_=>exact OE s f R w b i j
 |2,_=>exact Dg s f R w b o q
 |3,_=>exact Fz s f R w b i j
 |4,_=>exact JH s f R w b i j
 |5,_=>exact Jg s f R w b i j C.tabB
 |6,_=>exact Kt s f R w b o q
abbrev PE:Array cq:=#[.func (.func 72) #[] #[],.func (.func 73) #[] #[],.func (.func 74) #[] #[],.func (.func 75) #[] #[],.func (.func 76) #[] #[],.func (.func 77) #[] #[],.func (.func 78) #[] #[]]
theorem Nj(w:cd):cJ bh 49 #[] w fun e w'=>e=bk (an (aw ⟨w.heap.size,0,aq⟩) 7 7)/\w'=w.alloc (aE PE 97):=by
 go_in;go_wp2;go_ret;exact⟨rfl,rfl⟩
theorem KU(s:E7)(w:cd)(hT:jF w)(hs:s.size<=800000)(hn:(aA s.data.toList).length<=1000000)(hF:(aT s.data.toList).2.2=0->∀r∈aA s.data.toList,RY s.data.toList r) :
  cJ bh 22 #[al s] w fun e w'=>∃v,e=bk v/\aI jf 3 w.heap.size w' v (nG s.data.toList)/\cj w.heap.size w w':=by
 have hP:=uX s w hT (by omega);have Ad:Hid (nG s.data.toList=if (aT s.data.toList).2.2=0 then fM (AA s.data.toList (aA s.data.toList)) 1 else [-1]):=Hh rfl;generalize aT s.data.toList=X at *;obtain⟨X1,AG,er⟩:=X;simp only at hF Ad;have At:=Hh hF;clear hF;go_in;go_wp2_with fail;refine hP.mono ?_;rintro _ w1 ⟨⟨v1,rfl,-⟩,O⟩;clear hP
 by_cases h0:er=0
 .subst h0
  have hR:=BB s w1 (hT.below O) (by omega);have HF:=Hh (At.out rfl);have HB:=Hh O;rw[E4 rfl] at Ad;clear At O;generalize aA s.data.toList=R at *;go_wp2_with fail;refine hR.mono ?_;rintro _ w2 ⟨rv,rfl,hD,hb2⟩;clear hR;have hA:=hD.at;obtain⟨ra,rc,rfl,AH,AI,-⟩:=hA.len;have A7:=Hh (HB.out.trans (hb2.mono HB.out.size));have HA:=Hh hA;clear hD hA hb2 HB;obtain⟨w3,Ar⟩:=exq (w2.alloc (aE #[al s,an ra R.length rc] 94));have Aw:cj w2.heap.size w2 w3:=by rw[Ar];exact (ba _ _).alloc lz _
  have Al:Hid (aa w3 w2.heap.size #[al s,an ra R.length rc] 94):=Hh (by rw[Ar];exact aa.new _ _ _);have As:=Jh (av A7.out Aw) Aw;have A3:=Nj w3;have AC:=Al.out.lt;clear Aw;go_wp2_with fail;rw[<-Ar];refine A3.mono ?_;rintro _ N ⟨rfl,hw4⟩;clear A3 Ar;have Ap:cj w3.heap.size w3 N:=by rw[hw4];exact (ba _ _).alloc lz _
  have Am:Hid (aa N w2.heap.size #[al s,an ra R.length rc] 94/\aa N w3.heap.size PE 97):=Hh ⟨Al.out.below Ap Al.out.lt,by rw[hw4];exact aa.new _ _ _⟩;have Ak:=Jh (av As.out.1 Ap) (av As.out.2 Ap);have A0:=Hh ((HA.out.below Ak.out.2));have A2:=Hh (hT.below Ak.out.1);clear Ap hw4 Al As AC HA;obtain⟨bs,Aq⟩:=exq (AA s.data.toList R);have A4:bs.length=7:=by rw[Aq];rfl
  have AB:Hid (∀k,k<7->∀W,cj N.heap.size N W->cJ bh (PH k) #[RS s (an ra R.length rc)] W fun e w'=>e=bk (cG (bs.getD k false))/\cj W.heap.size W w'):=Hh (fun k hk W hW=>by
   rw[Aq]
   exact PG s _ R W (A0.out.below hW) HF.out hn hs (A2.out.below hW) k hk)
  rw[<-Aq] at Ad;have A1:=Hh A4;have A9:=Hh (fun k (hk:k<7)=>yx bs k 1 (by omega));clear Aq A4 A0 A2 hn;go_wp2;go_loopw [7,25] (fun lv i wr=>∃k:Nat,k<=7/\i=ao ar (k:Int)/\aI jf 3 N.heap.size wr lv (fM (bs.take k) 1)/\cj N.heap.size N wr) (fun _ i _=>7-(cR i).toNat)
  .exact⟨0,ck _,rfl,aI.nil,ba _ _⟩
  obtain⟨k,hk,rfl,Ac,hb⟩:=hrel;have HE:=Jh Ac hb;obtain⟨oa,oc,rfl,-⟩:=Ac.row.len;have Aa:=Bp (bs.take k) 1
  have Ay:(fM (bs.take k) 1).length<=7:=by
   have:=A1.out;rw[c8] at Aa;omega
  have Ao:=Am.out.1.below hb Am.out.1.lt;have An:=Am.out.2.below hb Am.out.2.lt;have Av:=Ao.lt;have Au:=An.lt;obtain⟨Af,Ah,Ag,Ai⟩:=Ao.n2 rfl
  by_cases Q:k<7
  .have Az:=AB.out k Q wr hb
   have A5:=Hh (A9.out k Q);have Ax:=An.cell k;have AF:Hid (∀W v,aI jf 3 N.heap.size W v (fM (bs.take (k+1)) 1)->aI jf 3 N.heap.size W v (fM (bs.take (k+1)) 1)):=Hh (fun _ _ h=>h);generalize bs.getD k false=bb at *;generalize fM (bs.take k) 1=E at *;clear Ac Aa Ao An;have AD:k=0\/k=1\/k=2\/k=3\/k=4\/k=5\/k=6:=by omega
   rcases AD with rfl|rfl|rfl|rfl|rfl|rfl|rfl
   all_goals
    have Ax:=Ax _ rfl;simp only[PH] at Az;go_wp2_with fail;refine Az.mono ?_;rintro _ w5 ⟨rfl,V⟩;have Ae:Hid (aI jf 3 N.heap.size w5 (an oa E.length oc) E/\cj N.heap.size N w5):=Hh ⟨HE.out.1.below V lz,av HE.out.2 V⟩;have AE:=Ae.out.2.size;clear Az Ax V hb HE Af Ag Ah Ai Av Au
    cases bb with
    |true=>
     go_wp2;go_roundw
     .exact⟨_,Q,by go_num,by rw[A5.out];simpa using Ae.out.1,Ae.out.2⟩
     simp[cR]
    |false=>
     go_wp2_with (with_reducible first|refine aL ?_)
     refine Stop.out ?_;have Ab:=fun n=>aI.lit (f:=jf) (E:=3) (base:=w5.heap.size) (w:=w5) [n] lz (by simp[cV]);refine fA (f:=jf) rfl _ _ _ rfl N.heap.size 3 8 (ao ar 0) Tryz.underlying27 Tryz.infoIntZ rfl (fun _=>rfl) E [_] (by exact Ae.out.1.alloc _) (by exact (Ab _).row) (by simp;unfold cV;omega) (by simp;omega) (by simp;omega) N (by exact (Ae.out.2.alloc AE _)) ?_;intro v6 w6 K hb6 hg6;obtain⟨r6,c6,rfl,-⟩:=K.row.len;have H6:=Jh K hb6;clear Ab K hb6 hg6;go_wp2;go_roundw
     .exact⟨_,Q,by go_num,by rw[A5.out];simpa using H6.out.1,H6.out.2⟩
     simp[cR]
  .obtain rfl:k=7:=by omega
   have Aj:fM (bs.take 7) 1=fM bs 1:=by rw[List.take_of_length_le (by have:=A1.out;omega)]
   have HR:Hid (fM (bs.take 7) 1=nG s.data.toList):=Hh (by rw[Aj,Ad.out]);clear Aj Ao An Ac Aa;generalize fM (bs.take 7) 1=E at *;go_wp2;go_ret;have A6:=Ak.out.1.size;rw[<-HR.out];exact⟨_,rfl,HE.out.1.base_le A6,Ak.out.1.trans (HE.out.2.mono A6)⟩
 .have AJ:(er != 0)=true:=by simpa using h0
  have A8:Hid (nG s.data.toList=[-1]):=Hh (by rw[Ad.out,E6 h0]);have HB:=Hh O;have Ab:=aI.lit (f:=jf) (E:=3) (base:=w.heap.size) (w:=w1) [-1] O.size (by simp[cV]);have HL:=Hh Ab;clear h0 At Ad O Ab;go_wp2;go_ret;rw[A8.out];exact⟨_,rfl,HL.out,HB.out.alloc HB.out.size _⟩
theorem Bc:∀(P:List (Nat×ae)) (pre post:Bs) (H:Nat),H=pre.length+(fu P).length->eX (pre++(fu P++post)) (H:Nat) (pre.length:Nat) (gM P pre.length)=P.map (fun x=>iR x.1)++[[]]
 | [],pre,post,H,hH=>by
  subst hH;show [kQ _ _ _]=[[]]
  congr 1
  rw[uq,zD lz];simp[fu]
 | x::P,pre,post,H,hH=>by
  have hc:=gB x P;have ih:=Bc P (pre++(iR x.1++kG x.2)) post H (by rw[hH,hc];simp[qG];omega);have e1:pre++(iR x.1++kG x.2)++(fu P++post)=pre++(fu (x::P)++post):=by rw[hc];simp
  have b:(pre++(iR x.1++kG x.2)).length=pre.length+x.1+(kG x.2).length:=by simp[qG];omega
  rw[e1,b] at ih;rw[gM,eX]
  have f:((pre.length+x.1:Nat):Int)+(x.2.text.size:Int)=((pre.length+x.1+(kG x.2).length:Nat):Int):=by
   have:=aM x.2.text;unfold kG;omega
  simp only;rw[f,ih,cI,cf]
  congr 1
  rw[uq,zD (by rw[hc,cm,qG];omega),hc,List.take_left' (qG _),List.drop_left]
theorem Bb(P:List (Nat×ae))(p:Nat):m0 (gM P p)=P.map (fun x=>n0 x.2):=Bd P p
theorem NM(P:List (Nat×ae))(p:Nat):(gM P p).length=P.length:=by
 have:=congrArg fh (Bb P p)
 simpa using this
theorem Qr(g:Nat->Nat):∀(l:List ae) (i j:Nat),j<l.length->((jP g i l).map (fun x=>iR x.1))[j]?=aw (iR (g (i+j)))
 |[],_,_,h=>by simp at h
 |t::l,i,0,_=>rfl
 | t::l,i,j+1,h=>by
  rw[jP,cI,ft,Qr g l (i+1) j (by simpa using h)]
  congr 3
  omega
theorem KH(h:m0 a=m0 b):gK a=gK b:=by rw[<-Q7 a,h,Q7]
theorem Tp(h:m0 a=m0 b)(i:Nat):lF a i=lF b i:=by rw[<-Mc a,h,Mc]
theorem UW(h:m0 a=m0 b):lW a=lW b:=by rw[<-Cm a,h,Cm]
theorem Uy(h:m0 a=m0 b):jy a=jy b:=by rw[<-Bj a,h,Bj]
theorem Mq(h:m0 a=m0 b)(o:Int):eB o a=eB o b/\dn o a=dn o b:=by
 unfold dn eB;rw[UW h,Uy h];exact⟨rfl,rfl⟩
theorem QD(h:m0 a=m0 b):a.length=b.length:=by simpa using congrArg fh h
structure RI(l:Bs)(x:Nat×aB)(r:aK):Prop where
 t:m0 r.toks=m0 x.2.toks
 g:∀i,i<r.toks.length->lQ l r i=iR (gW x.1 x.2 i)
 e:lQ l r r.toks.length=[]
 i:lY l r
 d:x.2.toks≠[]->r.dep=x.2.dep
theorem Lj(l:Bs):∀(X:List (Nat×aB)) (pre:Bs) (o:Int),(∀x∈X,xQ x.2.toks)->MN o (X.map (·.2))->l=pre++q9 (X.map eY)->pM (RI l) X (kH (X.map eY) pre.length o)
 |[],_,_,_,_,_=>trivial
 | x::X,pre,o,hT,hd,hl=>by
  have hx:=hT x (by simp)
  have hlex:aC (eY x) pre.length=(gM (zt x) pre.length,-1,0):=by
   have:=qQ (zt x) [] pre.length (show Vf (jP (gW x.1 x.2) 0 x.2.toks) [] from qI hx (QY x.1 x.2) (.inl rfl) x.2.toks [] rfl);rw[List.append_nil,dM] at this
   simpa [eY] using this
  have e:q9 ((x::X).map eY)=eY x++10::q9 (X.map eY):=by unfold q9;rw[cI,fb];simp
  rw[e] at hl
  have v:m0 (gM (zt x) pre.length)=m0 x.2.toks:=by
   rw[Bb];unfold zt;exact Fg _ 0 _
  have Ab:(gM (zt x) pre.length).length=x.2.toks.length:=QD v;have Aa:=Bc (zt x) pre (10::q9 (X.map eY)) _ rfl;have Ae:l=pre++(fu (zt x)++10::q9 (X.map eY)):=hl;rw[<-Ae] at Aa;rw[cI,kH,hlex];simp only;obtain⟨G,J⟩:=hd;refine⟨⟨v,fun i hi=>?_,?_,?_,fun hne=>?_⟩,?_⟩
  .have Ac:i<x.2.toks.length:=by rw[<-Ab];exact hi
   have A:=kX l (mo o (gM (zt x) pre.length) (pre.length:Nat) ((pre.length+(eY x).length:Nat):Int)) i (Nat.le_of_lt hi);have E:eX l ((pre.length+(eY x).length:Nat):Int) (pre.length:Nat) (gM (zt x) pre.length)=(zt x).map (fun x=>iR x.1)++[[]]:=Aa;have k:=A;simp only[mo] at k;rw[E,List.getElem?_append_left (by rw[cW];unfold zt;rw[wW];exact Ac)] at k;unfold zt at k;rw[Qr _ _ _ _ Ac,df] at k;exact (dt k).symm
  .have A:=kX l (mo o (gM (zt x) pre.length) (pre.length:Nat) ((pre.length+(eY x).length:Nat):Int)) _ lz
   have E:eX l ((pre.length+(eY x).length:Nat):Int) (pre.length:Nat) (gM (zt x) pre.length)=(zt x).map (fun x=>iR x.1)++[[]]:=Aa;have k:=A;simp only[mo] at k;have Ad:(gM (zt x) pre.length).length=((zt x).map (fun x=>iR x.1)).length:=by rw[NM,cW]
   rw[E,Ad,List.getElem?_append_right lz,j9] at k;have F:=(dt k).symm;rw[<-Ad] at F;exact F
  .have:=lY.of (l:=l) (q:=pre) (a:=eY x) (z:=10::q9 (X.map eY)) (o:=o) hl (by rw[hlex])
   rw[hlex] at this;exact this
  .rw[G hne]
   exact (Mq v o).1
  .have K:(pre++(eY x++[10])).length=pre.length+(eY x).length+1:=by simp;omega
   have L:=Lj l X (pre++(eY x++[10])) (dn o (gM (zt x) pre.length)) (fun y hy=>hT y (by simp[hy])) (by rw[(Mq v o).2];exact J) (by rw[hl];simp)
   rwa [K] at L
theorem Ms(g:Nat->Nat):∀(i:Nat) (a b:List ae),m0 a=m0 b->fu (jP g i a)=fu (jP g i b)
 |_,[],[],_=>rfl
 | i,t::a,u::b,h=>by
  simp only[cI,List.cons.injEq] at h
  have e:kG t=kG u:=by
   have:=congrArg ae.text h.1;unfold kG;exact congrArg (fun s:E7=>s.data.toList) this
  rw[jP,jP,gB,gB,Ms g (i+1) a b h.2];simp only[e]
 |_,[],_::_,h=>by simp at h
 |_,_::_,[],h=>by simp at h
theorem pM.map_m0{l:Bs}:∀{X:List (Nat×aB)} {R:List aK},pM (RI l) X R->R.map (fun d=>m0 d.toks)=(X.map (·.2)).map fun r=>m0 r.toks
 |[],[],_=>rfl
 |x::X,r::R,h=>by rw[cI,cI,cI,pM.map_m0 h.2,h.1.t]
 |[],_::_,h=>h.elim
 |_::_,[],h=>h.elim
theorem Du(hv:(aT l).2.2=0):K4 (iC ((aA l).map (·.toks)))/\pM (RI (iC ((aA l).map (·.toks)))) (lT ((aA l).map (·.toks))) (aA (iC ((aA l).map (·.toks)))):=by
 obtain⟨t1,t2,-,t4⟩:=vB hv;rw[<-t4] at hv;have Ak:=hv;rw[t4] at hv;have Ap:=rU hv;obtain⟨h0,y,hy,-⟩:=iD hv
 have An:∀r∈(aA l).map (·.toks),lS r:=fun r hr=>by
  obtain⟨d,hd,rfl⟩:=List.mem_map.1 hr;exact nW h0 d hd
 have hD:=(tH _ [bR] [y] (by simp) (by simp) hy).2;have Au:=(Ai (st:=[bR]) (by simp) (by rw[hy];rfl) An).2.2;generalize (aA l).map (·.toks)=L at *;obtain⟨s1,s2⟩:=nR L
 have Ag:iC L=q9 ((lT L).map eY):=by
  rw[s1];unfold q9;rw[vm];rfl
 obtain⟨T,hT⟩:=exq (iC L);rw[<-hT] at t2 Ag Ak ⊢;obtain⟨Ao,yT,Ax,-⟩:=iD Ak;have Am:=nW Ao;have Al:=AJ _ [bR] (by simp) (show (dZ ((aA T).map (·.toks)) [bR]).isSome=true by rw[Ax];rfl);have Ad:jX T=(lT L).map eY++[[]]:=by rw[hT,s1];exact KN _ (fun x hx=>(t1 x hx).1)
 have hR:aA T=kH ((lT L).map eY) 0 0:=by rw[fK (by rw[t2]),Ad,ko]
 have Aa:MN 0 ((lT L).map (·.2)):=by rw[s2];exact Ih _ _ _
 have E:=Lj T (lT L) [] 0 (fun x hx=>(t1 x hx).2) Aa (by rw[cM];exact Ag);rw[cY,<-hR] at E;have Af:=E.map_m0;rw[s2] at Af;obtain⟨e1,e2⟩:=FO L.length false L;have hK:=AJ _ [bR] (by simp) (show (dZ ((di L).map (·.toks)) [bR]).isSome=true by rw[Au,hy];rfl);refine⟨⟨?_,?_,?_,?_,?_,?_,?_⟩,E⟩
 .rw[Ag]
  unfold q9;rcases gS ((lT L).map eY) with e|⟨p,a,e⟩
  .rw[e];rfl
  .rw[e,hU,fp]
   unfold qW
   have:(List.flatMap (fun a=>a++[10]) p++List.flatMap (fun a=>a++[10]) [a]).getLast?=aw 10:=by
    rw[List.flatMap_singleton,<-ef,eM]
   rw[this];rfl
 .intro r hr
  obtain⟨x,-,h⟩:=E.mem r hr;exact h.e
 .rw[FM,Af]
  have:=Ml (eu L.length false L) 0 aq e2 (fun p h=>by cases h);rw[<-FL,ix] at this;exact this
 .intro r hr
  obtain⟨x,hx,h⟩:=E.mem r hr;unfold jd
  cases hr0:r.toks with
  |nil=>rfl
  |cons t q=>
   have As:x.2.toks≠[]:=fun e=>by
    have:=QD h.t;rw[e,hr0] at this;simp at this
   have V:=h.g 0 (by rw[hr0];simp);have Aw:x.2∈di L:=by rw[<-s2];exact gw hx
   have Ay:=(Ap x.2 Aw).1
   have Ar:gW x.1 x.2 0=x.2.ind:=by
    unfold gW nu;rw[E6 (fun e=>by have:=(iq e).1;omega),E4 rfl]
   rw[V,Ar,h.d As];have hi:(x.2.ind:Int)=2*x.2.dep:=by unfold aB.ind;omega
   rw[<-hi,EL];rfl
 .intro r hr
  obtain⟨x,hx,h⟩:=E.mem r hr;refine (vH T r _ 1).2 fun j h1 h2=>?_
  by_cases F:gK r.toks=aw j
  .left
   unfold KI;rw[F]
  .right
   rw[h.g j (by omega)];unfold gW nu;rw[E6 (by rw[<-KH h.t];exact F),E6 (by omega),<-Tp h.t];exact EL _
 .refine Cy T (lT L) (aA T) (-1) true (pM.imp (fun x r hr h=>?_) E) ?_
  .refine⟨KH h.t,fun i F=>?_⟩
   have Ae:gK x.2.toks=aw i:=by rw[<-KH h.t];exact F
   have Aj:=iq F;have Ah:gW x.1 x.2 i=(zW x).2:=by unfold gW;rw[E4 Ae];rfl
   have V:=h.g i Aj.2;rw[Ah] at V;have hz:1<=(zW x).2:=by unfold zW;simp
   refine⟨?_,?_,by rw[V,qG]⟩
   .unfold rD
    rw[V,qG,EL,ot]
    cases hq:iR (zW x).2 with
    |nil=>have:=qG (zW x).2;rw[hq] at this;simp at this;omega
    |cons c q=>rfl
   .have Ac:=h.i.col (g:=gW x.1 x.2) Aj.2 (fun j hj=>h.g j (by omega))
    obtain⟨n,k,hk⟩:=Al r.toks (gw hr);have Av:Vd (fu (jP (gW x.1 x.2) 0 (r.toks.take i))):=EG _ _ 0 (vT (Am r hr) hk F)
    have At:m0 (r.toks.take i)=m0 (x.2.toks.take i):=by
     show (r.toks.take i).map n0=(x.2.toks.take i).map n0;rw[rj,rj];exact congrArg (List.take i) h.t
    have Ab:bz x.2=fu (jP (gW x.1 x.2) 0 (x.2.toks.take i)):=by
     unfold bz dw;have Aq:x.2.eq=i:=by unfold aB.eq;rw[Ae];rfl
     rw[Aq,wQ,dd,su]
     congr 1
     refine mh 0 _ (fun j _ hj=>?_);unfold gW;rw[Ae,E6];intro q;cases q
     rw[c8] at hj;omega
    unfold uH;rw[Ac,Ah,(Av.app (Dp _).1).2,(Dp _).2,Ms _ 0 _ _ At,<-Ab];rfl
  .unfold lT
   exact xW (di L) [] (fun r hr=>by cases hr)
 .refine BO _ (Br _ ?_)
  rw[ix];have e:(aA T).map (m0∘fun x=>x.toks)=(aA T).map fun d=>m0 d.toks:=rfl;rw[e,Af];have:=(Qj (eu L.length false L) 0 aq (FN _ _ _ hD) e2).1;have:=TY _ this;rw[ix] at this;exact this
theorem vz(h:(aT l).2.2=0):(aT (bU l).1).2.2=0/\K4 (bU l).1/\bU (bU l).1=((bU l).1,-1,0):=by
 have e:(bU l).1=iC ((aA l).map (·.toks)):=by unfold bU;rw[E4 h]
 rw[e];have c:=(vB h).2.2.2;have a:(aT (iC ((aA l).map (·.toks)))).2.2=0:=by rw[c];exact h
 have b:=(Du h).1;refine⟨a,b,?_⟩;have:=xV a b;unfold bU;rw[E4 a,<-this]
theorem BU{l:Bs}:∀(R:List aK) (col:Int) (near:Bool),eU l R col near=true->∀r∈R,∀i,gK r.toks=aw i->rD l r i=true
 |[],_,_,_=>by intro r hr;cases hr
 | d::R,col,near,ha=>by
  intro r hr i he;rw[eU] at ha
  cases hd:gK d.toks with
  |none=>
   rw[hd] at ha;simp only[cP] at ha;rcases cL.1 hr with rfl|hr
   .rw[hd] at he;cases he
   .exact BU R _ _ ha.2 r hr i he
  |some j=>
   rw[hd] at ha;simp only[cP] at ha;rcases cL.1 hr with rfl|hr
   .rw[hd] at he;cases he;exact ha.1
   .exact BU R _ _ ha.2.2 r hr i he
theorem Gi(h:K4 l)(a:r∈aA l)(b:j<r.toks.length):∃k,lQ l r j=iR k:=by
 by_cases e:gK r.toks=aw j
 .exact⟨_,(ug e (BU _ _ _ h.aln r a j e)).1⟩
 .exact⟨_,wJ (h.ind r a) (h.spc r a) b e⟩
theorem UZ(k:Nat):FY (iR k)=false:=by
 unfold FY;rw[List.any_eq_false];intro c a;rw[List.eq_of_mem_replicate a];decide
theorem En{l:Bs}{r:aK}:∀(n i:Nat),(∀j,i<=j->j<i+n->FY (lQ l r j)=false)->sM l r n i=true
 |0,_,_=>rfl
 | n+1,i,h=>by
  rw[sM,h i lz (by omega),En n (i+1) (fun j h1 h2=>h j (by omega) (by omega))];rfl
theorem Gj(H:(aT l).2.2=0)(h:K4 l):nG l=[]:=by
 have D:pE l (aA l)=true:=by
  have u:∀R:List aK,(∀r∈R,r∈aA l)->pE l R=true:=by
   intro R
   induction R with
   |nil=>intro _;rfl
   |cons r R ih=>
    intro q;rw[pE,ih (fun x hx=>q x (by simp[hx])),ot];have b:=q r (by simp);unfold yK
    rw[En _ _ (fun j _ hj=>by
     obtain⟨k,e⟩:=Gi h b (j:=j) (by omega)
     rw[e,UZ]),h.tail r b]
    rfl
  exact u _ (fun r b=>b)
 have Aa:∀(f:aK->Bool) (g:List aK->Bool),g []=true->(∀r R,g (r::R)=(f r&&g R))->(∀r∈aA l,f r=true)->g (aA l)=true:=by
  intro f g C z F
  have u:∀R:List aK,(∀r∈R,r∈aA l)->g R=true:=by
   intro R
   induction R with
   |nil=>intro _;exact C
   |cons r R ih=>
    intro q;rw[z,F r (q r (by simp)),ih (fun x hx=>q x (by simp[hx]))];rfl
  exact u _ (fun r b=>b)
 have hi:jB l (aA l)=true:=Aa (jd l) (jB l) rfl (fun _ _=>rfl) h.ind;have z:l9 l (aA l)=true:=Aa (fun r=>iZ l r (r.toks.length-1) 1) (l9 l) rfl (fun _ _=>rfl) h.spc;unfold nG AA;rw[E4 H,h.nl,D,h.emp,hi,z,h.aln,h.jn];rfl
theorem I5:∀(R:List aK) (n:Nat),n<=64->CL n R->JN (R.map (·.toks)) n->∀r∈R,0<=r.dep/\r.dep<=64
 |[],_,_,_,_=>by intro r hr;cases hr
 | d::R,n,hn,hd,hr=>by
  obtain⟨h1,h2,h3⟩:=hr;obtain⟨d1,d2⟩:=hd;rw[wV h1] at d2;intro r hm;rcases cL.1 hm with rfl|hm
  .rw[d1,xH h1]
   split<;>omega
  .exact I5 R _ h2 d2 h3 r hm
theorem Lu(O:(aT l).2.2=0)(N:qW l=true)(P:l.length<=1000000):∀r∈aA l,RY l r/\lY l r:=by
 obtain⟨C,x,M,-⟩:=iD O;obtain⟨k,c1,B,-⟩:=xI l N;have E:aA l=kH k 0 0:=by rw[fK C,c1,ko]
 have Ab:=AX l k [] 0 (by rw[cM];exact B) (by rw[<-B];exact C);rw[cY,<-E] at Ab;have Aa:=tK k 0 0;rw[<-E] at Aa;have J:=I5 (aA l) 0 (by omega) Aa (tH _ [bR] [x] (by simp) (by simp) M).1;have L:=(mH l).2.2;intro r j;obtain⟨a,-,q,z,o,F,G,Ac⟩:=Ab.mem r j;have i:=lY.of (o:=o) F G;rw[<-Ac] at i;have:=J r j;exact⟨⟨Px i.seg,by have:=L r j;omega,by omega,by omega⟩,i⟩
open Go.RowKit Go.Tab
theorem J2(t:ae)(w:cd):cJ bh 70 #[fo t] w fun e w'=>e=bk (cG (gV t || (bZ t ⟨#[41]⟩ || bZ t ⟨#[93]⟩)))/\cj w.heap.size w w':=by
 have v:=fun s W=>dL t s W;have D:=fP w t;obtain⟨k,E,p⟩:=t;have e1:=dN k 1;have H:=dN k 2;have J:=dN k 3;have A:=v ⟨#[41]⟩;have C:=v ⟨#[93]⟩;have f:=Hh D;unfold gV;simp only[fo] at A C ⊢;generalize decide (k=1)=i at *;generalize decide (k=2)=j at *;generalize decide (k=3)=u at *;generalize bZ ⟨k,E,p⟩ ⟨#[41]⟩=F at *;generalize bZ ⟨k,E,p⟩ ⟨#[93]⟩=G at *;have Aa:=Hh (fun a b=>((f.out.alloc f.out.size a).alloc (by simp;have:=f.out.size;omega) b));clear v D;have Ab:i=true\/j=true\/u=true\/(i=false/\j=false/\u=false):=by cases i<;>cases j<;>cases u<;>simp
 go_in;rcases Ab with rfl|rfl|rfl|⟨rfl,rfl,rfl⟩
 .go_wp2_with fail
  go_ret;exact⟨rfl,f.out⟩
 .cases i
  all_goals
   go_wp2;go_ret;exact⟨rfl,f.out⟩
 .cases i<;>cases j
  all_goals
   go_wp2;go_ret;exact⟨rfl,f.out⟩
 .cases F<;>cases G
  all_goals
   go_wp2_with (first|(go_at_call 40;(with_reducible refine (A _).mono ?_);rintro _ _ ⟨rfl,rfl⟩)|(go_at_call 40;(with_reducible refine (C _).mono ?_);rintro _ _ ⟨rfl,rfl⟩))
   go_ret
   first
    |exact⟨rfl,Aa.out _ _⟩
    |exact⟨rfl,f.out.alloc f.out.size _⟩
theorem TH{l:List ae}(h:k<l.length)(a:dD l[k]=false):qX l (k+1)=(decide (l[k].kind=4)&&(!bZ l[k] ⟨#[41]⟩&&!bZ l[k] ⟨#[93]⟩)):=by
 rw[yL h,a,dA,dA,yM,Bool.or_false,Bool.not_or];rfl
theorem J3(w:cd)(lv:cq)(l:List ae)(h:aP w lv l)(i:Nat)(hi:i<l.length)(hl:l.length<=1000000) :
  cJ bh 69 #[lv,ao ar (i:Nat)] w fun e w'=>e=bk (cG (bZ l[i] ⟨#[45]⟩&&qX l i))/\cj w.heap.size w w':=by
 obtain⟨a,c,rfl,h1,h2,-⟩:=h.len;unfold cV at h2;have HT:=Hh h;obtain⟨b,Aa,rfl,Ab,q0,O,U⟩:=h.get hi;have Ad:=dL l[i] ⟨#[45]⟩
 have V:Hid (∀W,cj w.heap.size w W->W.cell? ⟨b,Aa+i*3,aq⟩=aw (ao ar l[i].kind)/\W.cell? ⟨b,Aa+i*3+1,aq⟩=aw (al l[i].text)/\W.cell? ⟨b,Aa+i*3+2,aq⟩=aw (ao ar l[i].pos)):=
  Hh fun W hW=>⟨(hW.cell (p:=⟨b,Aa+i*3,aq⟩) Ab).trans q0,(hW.cell (p:=⟨b,Aa+i*3+1,aq⟩) Ab).trans O,(hW.cell (p:=⟨b,Aa+i*3+2,aq⟩) Ab).trans U⟩
 clear h q0 O U;generalize l[i]=x at *;obtain⟨ki,ti,pi⟩:=x;simp only[fo] at Ad V;generalize bZ ⟨ki,ti,pi⟩ ⟨#[45]⟩=m1 at *;have Ai:eP 40 _ w _:=.tok Ad;go_in;go_wp2;go_loopw [5] (fun v wr=>∃k:Nat,k<=i/\v=ao ar ((k:Int)-1)/\Hid (qX l k=qX l i)/\cj w.heap.size w wr) (fun v _=>(cR v+1).toNat)
 .exact⟨i,cA _,by go_num,Hh rfl,ba _ _⟩
 obtain⟨k,hk,rfl,K,F⟩:=hrel;have J:=Hh F
 cases k with
 |zero=>
  obtain⟨q0,O,U⟩:=V.out wr F;go_wp2_with fail;refine (Ai _ F).mono ?_;rintro _ w3 ⟨rfl,q⟩;cases m1
  all_goals
   go_wp2;go_ret;rw[<-K.out,Eu];exact⟨rfl,q⟩
 |succ k=>
  have Ah:k<l.length:=by omega
  obtain⟨b',An,e',-,r0,r1,r2⟩:=aP.get (HT.out.below F lz) Ah;cases e'
  obtain⟨q0,O,U⟩:=V.out wr F
  have Y:Hid (∀W,cj wr.heap.size wr W->W.cell? ⟨b,Aa+k*3,aq⟩=aw (ao ar l[k].kind)/\W.cell? ⟨b,Aa+k*3+1,aq⟩=aw (al l[k].text)/\W.cell? ⟨b,Aa+k*3+2,aq⟩=aw (ao ar l[k].pos)):=
   Hh fun W hW=>⟨(hW.cell (p:=⟨b,Aa+k*3,aq⟩) (cT Ab F.size)).trans r0,(hW.cell (p:=⟨b,Aa+k*3+1,aq⟩) (cT Ab F.size)).trans r1,(hW.cell (p:=⟨b,Aa+k*3+2,aq⟩) (cT Ab F.size)).trans r2⟩
  have hS:=yL Ah;have Ag:=TH Ah;have Ao:eC.i64.wrap ((k:Int)-1)=(k:Int)-1:=cU _ (by omega);have Al:((k+1:Nat):Int)-1=(k:Int):=by omega
  rw[Al];generalize l[k]=t at *;have M:eP 68 #[fo t] wr (cG (dD t)):=.tok (tN t);have Ae:eP 40 #[fo t,al ⟨#[41]⟩] wr (cG (bZ t ⟨#[41]⟩)):=.tok (dL t _);have Af:eP 40 #[fo t,al ⟨#[93]⟩] wr (cG (bZ t ⟨#[93]⟩)):=.tok (dL t _);have Aj:eP 40 _ wr _:=.tok Ad;have Am:=dN t.kind 4;obtain⟨kd,tx,ps⟩:=t;simp only[fo] at M Ae Af Y r0 r1 r2 Am hS Ag;generalize dD ⟨kd,tx,ps⟩=cb at *;generalize bZ ⟨kd,tx,ps⟩ ⟨#[41]⟩=j1 at *;generalize bZ ⟨kd,tx,ps⟩ ⟨#[93]⟩=j2 at *;generalize decide (kd=4)=dk at *;have HS:=Jh hS Ag;have Ak:=ba wr.heap.size wr;clear hS Ag F Al Ab
  cases cb with
  |true=>
   go_wp2_with fail
   (with_reducible refine (M _ Ak).mono ?_)
   rintro _ w3 ⟨rfl,q⟩;clear M Ae Af Ai Aj;go_wp2;go_roundw
   .exact⟨k,by omega,rfl,Hh (by rw[<-K.out,HS.out.1];try rfl),J.out.trans (q.mono J.out.size)⟩
   simp[cR]<;>omega
  |false=>
   go_wp2_with fail
   (with_reducible refine (M _ Ak).mono ?_)
   rintro _ w3 ⟨rfl,q⟩;obtain⟨s0,s1,s2⟩:=Y.out w3 q;obtain⟨p0,p1,p2⟩:=V.out w3 (J.out.trans (q.mono J.out.size));clear M q0 O U r0 r1 r2;go_wp2_with fail
   (with_reducible refine (Aj _ q).mono ?_)
   rintro _ w4 ⟨rfl,G⟩;obtain⟨s0,s1,s2⟩:=Y.out w4 G;have HE:=Hh (HS.out.2 trivial);have Ac:=Hh (fun W (hW:cj wr.heap.size wr W)=>J.out.trans (hW.mono J.out.size));clear p0 p1 p2
   cases m1 with
   |false=>
    go_wp2;go_ret;rw[Bool.false_and];exact⟨rfl,Ac.out _ G⟩
   |true=>
    cases dk with
    |false=>
     go_wp2;go_ret;rw[ie,<-K.out,HE.out];exact⟨rfl,Ac.out _ G⟩
    |true=>
     go_wp2_with fail
     (with_reducible refine (Ae _ G).mono ?_)
     rintro _ w5 ⟨rfl,I⟩;obtain⟨s0,s1,s2⟩:=Y.out w5 I
     cases j1 with
     |true=>
      go_wp2;go_ret;rw[ie,<-K.out,HE.out];exact⟨rfl,Ac.out _ I⟩
     |false=>
      go_wp2_with fail
      (with_reducible refine (Af _ I).mono ?_)
      rintro _ w6 ⟨rfl,hb6⟩;cases j2
      all_goals
       go_wp2;go_ret;rw[ie,<-K.out,HE.out];exact⟨rfl,Ac.out _ hb6⟩
theorem J4(w:cd)(lv:cq)(l:List ae)(h:aP w lv l)(hl:l.length<=1000000)(z:Int)(hz:(Lit.int ar z).wf=true) :
  cJ bh 47 #[lv,ao ar z] w fun e w'=>e=bk (ao ar (lF l z.toNat:Nat))/\cj w.heap.size w w':=by
 obtain⟨a,c,rfl,h1,h2,-⟩:=h.len;unfold cV at h2
 by_cases hz0:z<=0
 .rw[show z.toNat=0 by omega]
  clear hz;go_in;go_wp2;go_ret;exact⟨rfl,ba _ _⟩
 .by_cases hz1:(l.length:Int)<=z
  .rw[IE (by omega)]
   clear hz;go_in;go_wp2;go_ret;exact⟨rfl,ba _ _⟩
  .obtain⟨i,rfl⟩:∃i:Nat,z=i+1:=⟨(z-1).toNat,by omega⟩
   have hi:i+1<l.length:=by omega
   rw[show ((i:Int)+1).toNat=i+1 by omega,Md hi,QX];clear hz;obtain⟨b,At,rfl,Ar,q0,q1,q2⟩:=h.get (j:=i) (by omega);obtain⟨b',As,e',-,r0,r1,r2⟩:=h.get hi;cases e'
   have Ak:=fun W hW=>J3 W _ l (h.below hW lz) i (by omega) hl;have kq:eC.i64.wrap ((i:Int)+1-1)=(i:Int):=by rw[cU _ (by omega)];omega
   generalize qX l i=m at *;generalize l[i]=xa at *;generalize l[i+1]=xb at *;obtain⟨Q,U,T⟩:=xa;obtain⟨Y,tb,pb⟩:=xb;simp only at q0 q1 q2 r0 r1 r2;clear h;obtain⟨G,hG⟩:=exq (UJ ⟨Q,U,T⟩ ⟨Y,tb,pb⟩ m);rw[<-hG];go_in;go_upto_region 3 with fail
   go_cut [5,6] (fun x y wc=>∃p5 p6:Nat,x=cx (aw ⟨p5,0,aq⟩)/\y=cx (aw ⟨p6,0,aq⟩)/\
    aa wc p5 #[ao ar Q,al U,ao ar T] 62/\aa wc p6 #[ao ar Y,al tb,ao ar pb] 62/\cj w.heap.size w wc)
   case first=>
    go_region
    all_goals go_wp2_with fail
    all_goals go_meet
    all_goals
     first
      |exact⟨_,_,rfl,rfl,(jZ _ _ _ _).1,(jZ _ _ _ _).2.1,(jZ _ _ _ _).2.2⟩
      |exact⟨_,_,rfl,rfl,(jZ _ _ _ _).2.1,(jZ _ _ _ _).1,(jZ _ _ _ _).2.2⟩
   obtain⟨p5,p6,rfl,rfl,hA,hB,Ab⟩:=hcut;have HX:=Hh (VN.of hA hB);have Aa:=Hh Ab;have Al:eP 68 _ wc _:=.tok (tN ⟨Q,U,T⟩);have Am:eP 68 _ wc _:=.tok (tN ⟨Y,tb,pb⟩);have Ac:eP 40 _ wc _:=.tok (dL ⟨Q,U,T⟩ ⟨#[40]⟩);have Ad:eP 40 _ wc _:=.tok (dL ⟨Q,U,T⟩ ⟨#[91]⟩);have Ae:eP 40 _ wc _:=.tok (dL ⟨Q,U,T⟩ ⟨#[46]⟩);have Af:eP 40 _ wc _:=.tok (dL ⟨Q,U,T⟩ ⟨#[33]⟩);have hP:eP 69 _ wc _:=.of fun W hW=>Ak W (Ab.trans (hW.mono Ab.size));have Ag:eP 40 _ wc _:=.tok (dL ⟨Y,tb,pb⟩ ⟨#[41]⟩);have Ah:eP 40 _ wc _:=.tok (dL ⟨Y,tb,pb⟩ ⟨#[93]⟩);have Ai:eP 40 _ wc _:=.tok (dL ⟨Y,tb,pb⟩ ⟨#[44]⟩);have Aj:eP 40 _ wc _:=.tok (dL ⟨Y,tb,pb⟩ ⟨#[46]⟩);have An:eP 40 _ wc _:=.tok (dL ⟨Y,tb,pb⟩ ⟨#[40]⟩);have Ao:eP 40 _ wc _:=.tok (dL ⟨Y,tb,pb⟩ ⟨#[91]⟩);have hV:eP 70 _ wc _:=.of fun W _=>J2 ⟨Q,U,T⟩ W;have Ap:eP 40 _ wc _:=.tok (dL ⟨Q,U,T⟩ ⟨#[123]⟩);have Aq:eP 40 _ wc _:=.tok (dL ⟨Y,tb,pb⟩ ⟨#[125]⟩);have hK:=dN Q 1;simp only[fo] at Al Am Ac Ad Ae Af hP Ag Ah Ai Aj An Ao hV Ap Aq
   change G=(if (dD ⟨Q,U,T⟩ || dD ⟨Y,tb,pb⟩)=true then 1
    else if (bZ ⟨Q,U,T⟩ ⟨#[40]⟩ || (bZ ⟨Q,U,T⟩ ⟨#[91]⟩ || (bZ ⟨Q,U,T⟩ ⟨#[46]⟩ || (bZ ⟨Q,U,T⟩ ⟨#[33]⟩ || (bZ ⟨Q,U,T⟩ ⟨#[45]⟩&&m)))))=true then 0
    else if (bZ ⟨Y,tb,pb⟩ ⟨#[41]⟩ || (bZ ⟨Y,tb,pb⟩ ⟨#[93]⟩ || (bZ ⟨Y,tb,pb⟩ ⟨#[44]⟩ || bZ ⟨Y,tb,pb⟩ ⟨#[46]⟩)))=true then 0
    else if ((bZ ⟨Y,tb,pb⟩ ⟨#[40]⟩&&decide (Q=1)) || ((bZ ⟨Y,tb,pb⟩ ⟨#[91]⟩&&(gV ⟨Q,U,T⟩ || (bZ ⟨Q,U,T⟩ ⟨#[41]⟩ || bZ ⟨Q,U,T⟩ ⟨#[93]⟩))) || (bZ ⟨Q,U,T⟩ ⟨#[123]⟩&&bZ ⟨Y,tb,pb⟩ ⟨#[125]⟩)))=true then 0
    else 1) at hG
   generalize dD ⟨Q,U,T⟩=xc1 at *;generalize dD ⟨Y,tb,pb⟩=xc2 at *;generalize (bZ ⟨Q,U,T⟩ ⟨#[45]⟩&&m)=xp at *;generalize (gV ⟨Q,U,T⟩ || (bZ ⟨Q,U,T⟩ ⟨#[41]⟩ || bZ ⟨Q,U,T⟩ ⟨#[93]⟩))=xv at *;generalize bZ ⟨Q,U,T⟩ ⟨#[40]⟩=x1 at *;generalize bZ ⟨Q,U,T⟩ ⟨#[91]⟩=x2 at *;generalize bZ ⟨Q,U,T⟩ ⟨#[46]⟩=x3 at *;generalize bZ ⟨Q,U,T⟩ ⟨#[33]⟩=x4 at *;generalize bZ ⟨Y,tb,pb⟩ ⟨#[41]⟩=y1 at *;generalize bZ ⟨Y,tb,pb⟩ ⟨#[93]⟩=y2 at *;generalize bZ ⟨Y,tb,pb⟩ ⟨#[44]⟩=y3 at *;generalize bZ ⟨Y,tb,pb⟩ ⟨#[46]⟩=y4 at *;generalize bZ ⟨Y,tb,pb⟩ ⟨#[40]⟩=z1 at *;generalize bZ ⟨Y,tb,pb⟩ ⟨#[91]⟩=z2 at *;generalize bZ ⟨Q,U,T⟩ ⟨#[123]⟩=z3 at *;generalize bZ ⟨Y,tb,pb⟩ ⟨#[125]⟩=z4 at *;generalize decide (Q=1)=xk at *;have HG:=Hh hG;obtain⟨C,c1,H,I,M,O,R,S⟩:=HX.out wc (ba _ _);have u:=ba wc.heap.size wc;clear hG hA hB Ab Ak q0 q1 q2 r0 r1 r2 hi Ar hl
   focus (go_wp2_with (go_at_call 68;(with_reducible refine (Al _ u).mono ?_);clear C c1 H I M O R S;rintro _ W ⟨rfl,u⟩;obtain⟨C,c1,H,I,M,O,R,S⟩:=HX.out W u;refine Stop.into ?_);refine Stop.out ?_)
   cases xc1
   rotate_left
   ·(go_wp2;go_ret;exact⟨by rw[HG.out];rfl,Aa.out.trans (u.mono Aa.out.size)⟩)
   focus (go_wp2_with (go_at_call 68;(with_reducible refine (Am _ u).mono ?_);clear C c1 H I M O R S;rintro _ W ⟨rfl,u⟩;obtain⟨C,c1,H,I,M,O,R,S⟩:=HX.out W u;refine Stop.into ?_);refine Stop.out ?_)
   cases xc2
   rotate_left
   ·(go_wp2;go_ret;exact⟨by rw[HG.out];rfl,Aa.out.trans (u.mono Aa.out.size)⟩)
   focus (go_wp2_with (go_at_call 40;(with_reducible refine (Ac _ u).mono ?_);clear C c1 H I M O R S;rintro _ W ⟨rfl,u⟩;obtain⟨C,c1,H,I,M,O,R,S⟩:=HX.out W u;refine Stop.into ?_);refine Stop.out ?_)
   cases x1
   rotate_left
   ·(go_wp2;go_ret;exact⟨by rw[HG.out];rfl,Aa.out.trans (u.mono Aa.out.size)⟩)
   focus (go_wp2_with (go_at_call 40;(with_reducible refine (Ad _ u).mono ?_);clear C c1 H I M O R S;rintro _ W ⟨rfl,u⟩;obtain⟨C,c1,H,I,M,O,R,S⟩:=HX.out W u;refine Stop.into ?_);refine Stop.out ?_)
   cases x2
   rotate_left
   ·(go_wp2;go_ret;exact⟨by rw[HG.out];rfl,Aa.out.trans (u.mono Aa.out.size)⟩)
   focus (go_wp2_with (go_at_call 40;(with_reducible refine (Ae _ u).mono ?_);clear C c1 H I M O R S;rintro _ W ⟨rfl,u⟩;obtain⟨C,c1,H,I,M,O,R,S⟩:=HX.out W u;refine Stop.into ?_);refine Stop.out ?_)
   cases x3
   rotate_left
   ·(go_wp2;go_ret;exact⟨by rw[HG.out];rfl,Aa.out.trans (u.mono Aa.out.size)⟩)
   focus (go_wp2_with (go_at_call 40;(with_reducible refine (Af _ u).mono ?_);clear C c1 H I M O R S;rintro _ W ⟨rfl,u⟩;obtain⟨C,c1,H,I,M,O,R,S⟩:=HX.out W u;refine Stop.into ?_);refine Stop.out ?_)
   cases x4
   rotate_left
   ·(go_wp2;go_ret;exact⟨by rw[HG.out];rfl,Aa.out.trans (u.mono Aa.out.size)⟩)
   focus (go_wp2_with (go_at_call 69;(with_reducible refine (hP _ u).mono ?_);clear C c1 H I M O R S;rintro _ W ⟨rfl,u⟩;obtain⟨C,c1,H,I,M,O,R,S⟩:=HX.out W u;refine Stop.into ?_);refine Stop.out ?_)
   cases xp
   rotate_left
   ·(go_wp2;go_ret;exact⟨by rw[HG.out];rfl,Aa.out.trans (u.mono Aa.out.size)⟩)
   focus (go_wp2_with (go_at_call 40;(with_reducible refine (Ag _ u).mono ?_);clear C c1 H I M O R S;rintro _ W ⟨rfl,u⟩;obtain⟨C,c1,H,I,M,O,R,S⟩:=HX.out W u;refine Stop.into ?_);refine Stop.out ?_)
   cases y1
   rotate_left
   ·(go_wp2;go_ret;exact⟨by rw[HG.out];rfl,Aa.out.trans (u.mono Aa.out.size)⟩)
   focus (go_wp2_with (go_at_call 40;(with_reducible refine (Ah _ u).mono ?_);clear C c1 H I M O R S;rintro _ W ⟨rfl,u⟩;obtain⟨C,c1,H,I,M,O,R,S⟩:=HX.out W u;refine Stop.into ?_);refine Stop.out ?_)
   cases y2
   rotate_left
   ·(go_wp2;go_ret;exact⟨by rw[HG.out];rfl,Aa.out.trans (u.mono Aa.out.size)⟩)
   focus (go_wp2_with (go_at_call 40;(with_reducible refine (Ai _ u).mono ?_);clear C c1 H I M O R S;rintro _ W ⟨rfl,u⟩;obtain⟨C,c1,H,I,M,O,R,S⟩:=HX.out W u;refine Stop.into ?_);refine Stop.out ?_)
   cases y3
   rotate_left
   ·(go_wp2;go_ret;exact⟨by rw[HG.out];rfl,Aa.out.trans (u.mono Aa.out.size)⟩)
   focus (go_wp2_with (go_at_call 40;(with_reducible refine (Aj _ u).mono ?_);clear C c1 H I M O R S;rintro _ W ⟨rfl,u⟩;obtain⟨C,c1,H,I,M,O,R,S⟩:=HX.out W u;refine Stop.into ?_);refine Stop.out ?_)
   cases y4
   rotate_left
   ·(go_wp2;go_ret;exact⟨by rw[HG.out];rfl,Aa.out.trans (u.mono Aa.out.size)⟩)
   focus (go_wp2_with (go_at_call 40;(with_reducible refine (An _ u).mono ?_);clear C c1 H I M O R S;rintro _ W ⟨rfl,u⟩;obtain⟨C,c1,H,I,M,O,R,S⟩:=HX.out W u;refine Stop.into ?_);refine Stop.out ?_)
   cases z1
   rotate_left
   cases xk
   rotate_left
   ·(go_wp2;go_ret;exact⟨by rw[HG.out];rfl,Aa.out.trans (u.mono Aa.out.size)⟩)
   all_goals
    focus (go_wp2_with (go_at_call 40;(with_reducible refine (Ao _ u).mono ?_);clear C c1 H I M O R S;rintro _ W ⟨rfl,u⟩;obtain⟨C,c1,H,I,M,O,R,S⟩:=HX.out W u;refine Stop.into ?_);refine Stop.out ?_)
    cases z2
    rotate_left
    focus (go_wp2_with (go_at_call 70;(with_reducible refine (hV _ u).mono ?_);clear C c1 H I M O R S;rintro _ W ⟨rfl,u⟩;obtain⟨C,c1,H,I,M,O,R,S⟩:=HX.out W u;refine Stop.into ?_);refine Stop.out ?_)
    cases xv
    rotate_left
    ·(go_wp2;go_ret;exact⟨by rw[HG.out];rfl,Aa.out.trans (u.mono Aa.out.size)⟩)
    all_goals
     focus (go_wp2_with (go_at_call 40;(with_reducible refine (Ap _ u).mono ?_);clear C c1 H I M O R S;rintro _ W ⟨rfl,u⟩;obtain⟨C,c1,H,I,M,O,R,S⟩:=HX.out W u;refine Stop.into ?_);refine Stop.out ?_)
     cases z3
     rotate_left
     focus (go_wp2_with (go_at_call 40;(with_reducible refine (Aq _ u).mono ?_);clear C c1 H I M O R S;rintro _ W ⟨rfl,u⟩;obtain⟨C,c1,H,I,M,O,R,S⟩:=HX.out W u;refine Stop.into ?_);refine Stop.out ?_)
     cases z4
     all_goals (go_wp2;go_ret;exact⟨by rw[HG.out];rfl,Aa.out.trans (u.mono Aa.out.size)⟩)
end Go.Proofs.YtgmpmolfcaihfaaGreatDoor
