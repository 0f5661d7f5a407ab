/- Laws that TidyWell rests on; conditions: those that each names. -/
import Derived.Test.YtgmpmolfcaihfaaGreatDoorWgj
import Derived.Deep.Quiet
import Derived.StillTail
import Derived.Shelf.Vars
set_option linter.unusedSimpArgs false
set_option linter.unusedVariables false
set_option maxRecDepth 100000
set_option maxHeartbeats 20000000
open Bool renaming and_eq_true→cP,false_or→j0,true_and→ie
open Decidable renaming byContradiction→eE
open Go renaming Calls→cJ,DataW→zp,IntKind→eC,Program→oR,TypeId→ff,Value→cq,World→cd,below_setRow→fy,bodyPost_ret→bj,maxLen→cV,setRow_heap→fR
open Go.DataW renaming trod→tI
open Go.Ending renaming returned→bk
open Go.IntKind renaming i64→ar
open Go.IntWalk renaming i64_in→cU
open Go.Lib renaming trimRightS→iu
open Go.Obj renaming cells→aE
open Go.Proofs.Tryz renaming prog→bh,underlying3→gg
open Go.Region renaming ready→xe
open Go.RowKit renaming Below→cj
open Go.RowKit.Below renaming refl→ba
open Go.Value renaming agg→ew,bool→cG,int→ao,slice→an,string→al
open Int renaming toNat_natCast→eL
open List renaming any_eq_true→vi,append_assoc→ef,cons_append→cf,drop_eq_getElem_cons→cg,drop_of_length_le→fg,drop_succ_cons→ec,drop_zero→dd,eq_nil_of_length_eq_zero→cC,flatMap_cons→fb,getD_eq_getElem?_getD→s4,getElem?_append_right→eK,getElem?_drop→sd,getElem?_eq_getElem→br,getElem?_map→lR,getElem?_take→j7,getElem_cons_zero→eg,getElem_mem→cH,length_append→cm,length_cons→bc,length_drop→bm,length_map→cW,length_nil→cY,length_reverse→o0,length_singleton→eh,length_take→c8,length→fh,map_cons→cI,mem_append_right→vh,mem_append→cX,mem_cons_of_mem→fi,mem_cons_self→pN,mem_cons→cL,mem_map_of_mem→gw,mem_map→j8,mem_singleton→de,nil_append→cM,take_add→od,take_left→fl,take_succ_cons→cN,take_zero→fz
open List.cons renaming inj→rr
open Nat renaming add_assoc→kO,add_comm→eV,add_sub_cancel→r4,lt_of_not_le→D3,zero_le→ck
open Option renaming map_eq_some_iff→eH,none→aq,some→aw
open Option.some renaming inj→dt
namespace Go.Proofs.YtgmpmolfcaihfaaGreatDoor
variable{held:Bool}{l rest:Bs}{s:E7}{p:List MemPlace}{cs:List cq}{a base fuel g i k m n:Nat}{sp:Nat->Bool}{P:oR}{name:String}{H:Type}{e t:ff}{b c:UInt8}{W w:cd}{r:aK}
theorem GN{kd:Nat}(h:gp l kd=.tok k n):CO l=aq/\n=l.length/\k=kd:=by
 unfold gp at h;split at h
 .cases h
 .next a=>cases h;exact⟨a,rfl,rfl⟩
open Go.RowKit Go.Tab
theorem yU(R:List gT)(size:Int)(hRn:R.length<=1000000)(hne:0<R.length)(hlast:(R[R.length-1]'(by omega)).stop=size)(hrow:∀r∈R,r.toks.length<=900000/\∀t∈r.toks,t.text.size<=1048576/\(t.kind=3->lm t.text≠aq)):∀(n i d:Nat),R.length-i<=n->i<=R.length->d<=64->Ga R size i d
 |0,i,d,hn,hi,hd=>BP R size hRn hne hlast hrow i d hi hd (fun j e h1 h2 _=>by omega)
 |n+1,i,d,hn,hi,hd=>BP R size hRn hne hlast hrow i d hi hd (fun j e h1 h2 h3=>yU R size hRn hne hlast hrow n j e (by omega) h2 h3)
theorem qO(size:Int):∀(toks cur:List ae),∃l c,fD size toks cur=l++[⟨c,size,true⟩]
 |[],cur=>⟨[],cur,rfl⟩
 | t::r,cur=>by
  rw[fD];split
  .exact qO size r cur
  .split
   .obtain⟨l,c,h⟩:=qO size r []
    exact⟨_::l,c,by rw[h];rfl⟩
   .exact qO size r (cur++[t])
theorem tV(size:Int):∀(toks cur:List ae),(∀r∈fD size toks cur,r.toks.length<=cur.length+toks.length/\∀t∈r.toks,t∈cur\/t∈toks)/\(fD size toks cur).length<=toks.length+1
 | [],cur=>by
  rw[fD];refine⟨fun r hr=>?_,Nat.le_refl _⟩;rw[de.1 hr];exact⟨by simp,fun t ht=>.inl ht⟩
 | t::r,cur=>by
  rw[fD];split
  .obtain⟨h1,h2⟩:=tV size r cur
   refine⟨fun q hq=>⟨by have:=(h1 q hq).1;simp only[bc];omega,fun u hu=>?_⟩,by simp only[bc];omega⟩;exact ((h1 q hq).2 u hu).imp id (fun h=>fi _ h)
  .split
   .obtain⟨h1,h2⟩:=tV size r []
    refine⟨fun q hq=>?_,by simp only[bc];omega⟩;rcases cL.1 hq with rfl|hq
    .exact⟨by simp,fun u hu=>.inl hu⟩
    .refine⟨by have:=(h1 q hq).1;simp only[cY,bc] at this ⊢;omega,fun u hu=>?_⟩
     rcases (h1 q hq).2 u hu with h|h
     .cases h
     .exact .inr (fi _ h)
   .obtain⟨h1,h2⟩:=tV size r (cur++[t])
    refine⟨fun q hq=>⟨by have:=(h1 q hq).1;simp only[cm,bc,cY] at this ⊢;omega,fun u hu=>?_⟩,by simp only[bc];omega⟩;rcases (h1 q hq).2 u hu with h|h
    .rcases cX.1 h with h|h
     .exact .inl h
     .rw[de.1 h];exact .inr (by simp)
    .exact .inr (fi _ h)
theorem NV(h:dY l=.tok k n):k<=7:=by
 cases l with
 |nil=>cases h
 |cons c r=>
  rw[dY] at h;split at h
  .cases h;decide
  split at h
  .unfold nA at h
   split at h
   .cases h;decide
   .cases h
  split at h
  .unfold oG at h
   split at h
   .cases h;decide
   .cases h
  split at h
  .cases h;decide
  split at h
  .obtain⟨-,-,rfl⟩:=GN h;decide
  split at h
  .unfold eT at h
   split at h
   .cases h
   .split at h
    .cases h
    .obtain⟨-,-,rfl⟩:=GN h;decide
  split at h
  .cases h
  .cases h;decide
theorem vQ:∀(k:Nat) (l:Bs) (p:Nat),l.length<=k->∀t∈(aC l p).1,t.kind<5\/t.kind=5\/t.kind=6\/t.kind=7
 | 0,l,p,h=>by
  obtain rfl:=cC (Nat.le_zero.1 h);intro t ht;rw[dM] at ht;cases ht
 |k+1,[],p,_=>by intro t ht;rw[dM] at ht;cases ht
 | k+1,c::r,p,h=>by
  simp only[bc] at h
  by_cases hb:aN c=true
  .rw[bV hb]
   exact vQ k r (p+1) (by omega)
  .have hb':aN c=false:=by simpa using hb
   cases ho:dY (c::r) with
   |bad off e=>rw[fw hb' ho];intro t ht;cases ht
   |tok kd sz=>
    rw[dE hb' ho];have i:=dC ho;intro t ht;rcases cL.1 ht with rfl|ht
    .have:=NV ho
     simp only;omega
    .exact vQ k ((c::r).drop sz) (p+sz) (by rw[bm,bc];omega) t ht
def Ww(w:cd)(r:List bX×Int×Int)(e:Ending)(w':cd):Prop:=cj w.heap.size w w'/\∃ia ic,e=bk (ew #[an ia r.1.length ic,ao ar 0,ao ar r.2.1,ao ar r.2.2,cG false,al ⟨#[]⟩,al ⟨#[]⟩,al ⟨#[]⟩,an aq 0 0,an aq 0 0,an aq 0 0])/\jM (fun q=>w.heap.size<=q) w' (an ia r.1.length ic) r.1
theorem jM.nil{P:Nat->Prop}:jM P w (an aq 0 0) []:=⟨aq,0,rfl,Nat.le_refl _,ck _,fun _=>rfl,fun x hx=>by cases hx⟩
theorem GU(s:E7)(w:cd)(hs:s.size<=800000):cJ bh 14 #[al s] w (Ww w (aT s.data.toList)):=by
 have AN:s.data.toList.length=s.size:=aM s;obtain⟨X,hX⟩:=exq (aT s.data.toList);have AF:=aa.new w (bL 0 0) 50;have AE:=(ba _ w).alloc lz (aE (bL 0 0) 50);have hL:=GZ s (w.alloc (aE (bL 0 0) 50)) (by omega);have h1:=oh s.data.toList.length s.data.toList 0 lz;have h2:=xm s.data.toList.length s.data.toList 0 lz;have h3:=vQ s.data.toList.length s.data.toList 0 lz;have h4:=tZ s.data.toList.length s.data.toList 0 lz;have Aa:=vP (l:=s.data.toList);have Ab:=DV (l:=s.data.toList);rw[<-hX] at Aa Ab ⊢;rw[AN] at h1 h4 Ab;clear hX;generalize aC s.data.toList 0=Y at *;obtain⟨Ac,Ae,er⟩:=Y;simp only at hL h1 h2 h3 h4 Aa Ab;have A8:=Hh AE;have AA:=Hh AF;have H:=Jh h2 (And.intro h3 h4);clear AF AE h2 h3 h4;go_in;go_wp2_with fail;refine hL.mono ?_;clear hL;rintro _ w1 ⟨v,rfl,hO,hb1⟩;obtain⟨a,c,rfl⟩:=E5 hO;have AK:=Hh hO.toks;have A9:=Hh (A8.out.trans (hb1.mono A8.out.size));have AB:=Hh (AA.out.below hb1 AA.out.lt);clear hO hb1;go_upto_region 2 with fail
 have Aw:cj w1.heap.size w1 (w1.alloc (aE #[an a Ac.length c,ao ar Ae,ao ar er] 81)):=(ba _ w1).alloc lz _;have At:=Hh (AB.out.below Aw AB.out.lt);have AL:=Hh (AK.out.below Aw lz);have Ax:=Hh (A9.out.trans (Aw.mono A9.out.size));have hx:=aa.new w1 #[an a Ac.length c,ao ar Ae,ao ar er] 81;generalize w1.alloc (aE #[an a Ac.length c,ao ar Ae,ao ar er] 81)=w2 at *;have AQ:=hx.lt;obtain⟨A2,A5,A3,A6,A4,A7⟩:=hx.n3 rfl;clear hx Aw
 by_cases he:er=0
 .subst he
  have hX:=Ab rfl;rw[Fq] at hX;obtain⟨R,hR⟩:=exq (fD s.size Ac []);rw[<-hR] at hX;have A1:=JW w2 (an a Ac.length c) Ac s.size AL.out H.out.2.1 (by omega);rw[<-hR] at A1;have HM:=Hh (tV s.size Ac []);obtain⟨R0,c0,A0⟩:=qO s.size Ac [];rw[<-hR] at A0;have AC:=Hh A0;have AD:=Hh hR;have HX:=Hh hX;clear hR hX Aa Ab A0;go_wp2_with fail;refine A1.mono ?_;clear A1 A2 A3 A4 A5 A6 A7;rintro _ w3 ⟨rv,rfl,hLn,hb3⟩;have Ay:=Hh (Ax.out.trans (hb3.mono Ax.out.size));have Az:=Hh (At.out.below hb3 At.out.lt)
  have Av:=yU R s.size (by have:=HM.out.2;rw[<-AD.out] at this;omega) (by rw[AC.out];simp) (by simp only[AC.out];simp) (fun r hr=>by
   rw[AD.out] at hr;obtain⟨q1,q2⟩:=HM.out.1 r hr;refine⟨by simp only[cY] at q1;omega,fun t ht=>?_⟩;have AI:t∈Ac:=(q2 t ht).resolve_left (by simp)
   exact⟨by have h9:=H.out.2.2 t AI;omega,H.out.1 t AI⟩) R.length 0 0 (by omega) (by omega) (by omega) w3 rv _ hLn
  clear hLn hb3;obtain⟨g,hg⟩:=exq (dP s.size (R.drop 0) 0 [] 0);rw[<-hg] at Av;have HG:Hid (X=if g.e≠0 then ([],g.at_,g.e) else (g.l,-1,0)):=Hh (by rw[HX.out,hg];unfold dP;rw[dd]);clear hg;obtain⟨L,n,ga,ge⟩:=g;simp only[show ((0:Nat):Int)=0 from rfl] at Av;go_wp2_with fail;refine Av.mono ?_;clear Av;rintro e4 w4 ⟨hb4,Aa,hok⟩;simp only at Aa hok;have As:=Hh (Ay.out.trans (hb4.mono Ay.out.size));have Au:=Hh (Az.out.below hb4 Az.out.lt);clear hb4
  by_cases he:ge=0
  .subst he
   obtain⟨ia,ic,rfl,AH⟩:=hok rfl;have AJ:=Hh AH;clear hok Aa AH;have Af:cj w4.heap.size w4 (w4.alloc (aE #[an ia L.length ic,ao ar (n:Nat),ao ar 0,ao ar 0,cG false,al ⟨#[]⟩,al ⟨#[]⟩,al ⟨#[]⟩,an aq 0 0,an aq 0 0,an aq 0 0] 50)):=(ba _ w4).alloc lz _;have Ah:=Hh Af;have Ag:=Hh (Au.out.below Af Au.out.lt);clear Af;go_upto_region 7 with fail
   go_wp2_with (with_reducible first|refine bv ?_)
   refine Stop.out ?_;refine az rfl 50 _ _ rfl rfl _ rfl (#[an ia L.length ic,ao ar 0,ao ar (-1),ao ar 0,cG false,al ⟨#[]⟩,al ⟨#[]⟩,al ⟨#[]⟩,an aq 0 0,an aq 0 0,an aq 0 0]) rfl _ _ (Ag.out) rfl (by kernel_rfl) (lU _ _ _ _ _ _ _ _ _ _ _ _ _ _ _ _ _ _ _) ?_;have S:aa ((w4.alloc (aE #[an ia L.length ic,ao ar (n:Nat),ao ar 0,ao ar 0,cG false,al ⟨#[]⟩,al ⟨#[]⟩,al ⟨#[]⟩,an aq 0 0,an aq 0 0,an aq 0 0] 50)).setRow w.heap.size (#[an ia L.length ic,ao ar 0,ao ar (-1),ao ar 0,cG false,al ⟨#[]⟩,al ⟨#[]⟩,al ⟨#[]⟩,an aq 0 0,an aq 0 0,an aq 0 0])) w.heap.size (#[an ia L.length ic,ao ar 0,ao ar (-1),ao ar 0,cG false,al ⟨#[]⟩,al ⟨#[]⟩,al ⟨#[]⟩,an aq 0 0,an aq 0 0,an aq 0 0]) 50:=fR _ _ _ _ _ _ (Ag.out);go_wp2_with fail;obtain⟨Ai,Aj,Ak,Al,Am,An,Ao,Ap,Aq,Ar,Ad⟩:=S.m11 rfl;refine bj (v:=ew (#[an ia L.length ic,ao ar 0,ao ar (-1),ao ar 0,cG false,al ⟨#[]⟩,al ⟨#[]⟩,al ⟨#[]⟩,an aq 0 0,an aq 0 0,an aq 0 0])) (by simp[results,Tryz.results14,go_sem,Ai,Aj,Ak,Al,Am,An,Ao,Ap,Aq,Ar,Ad]) rfl ?_
   rw[HG.out];refine⟨fy (As.out.trans (Ah.out.mono As.out.size)) lz _,ia,ic,rfl,?_⟩;have AP:=Ay.out.size;have AO:w.heap.size<w3.heap.size:=Az.out.lt;exact jM.move (by rw[setRow_size];exact Ah.out.size) (fun q S hl=>by have S:w3.heap.size<=q:=S;rw[setRow_other _ _ _ _ (by omega)];exact Ah.out.block q hl) (fun q S _=>by have S:w3.heap.size<=q:=S;show w.heap.size<=q;omega) AJ.out
  .have AG:=Aa he
   simp only[bL] at AG;subst AG;have AM:(ge != 0)=true:=by simpa using he
   have HE:=Hh he;clear hok Aa he;have Af:cj w4.heap.size w4 (w4.alloc (aE (bL ga ge) 50)):=(ba _ w4).alloc lz _;have Ah:=Hh Af;have Ag:=Hh (Au.out.below Af Au.out.lt);clear Af;go_upto_region 6 with fail
   go_wp2_with (with_reducible first|refine bv ?_)
   refine Stop.out ?_;refine az rfl 50 _ _ rfl rfl _ rfl (bL ga ge) rfl _ _ (Ag.out) rfl (by kernel_rfl) (lU _ _ _ _ _ _ _ _ _ _ _ _ _ _ _ _ _ _ _) ?_;have S:aa ((w4.alloc (aE (bL ga ge) 50)).setRow w.heap.size (bL ga ge)) w.heap.size (bL ga ge) 50:=fR _ _ _ _ _ _ (Ag.out);go_wp2_with fail;obtain⟨Ai,Aj,Ak,Al,Am,An,Ao,Ap,Aq,Ar,Ad⟩:=S.m11 rfl;refine bj (v:=ew (bL ga ge)) (by simp[results,Tryz.results14,go_sem,Ai,Aj,Ak,Al,Am,An,Ao,Ap,Aq,Ar,Ad]) rfl ?_
   rw[HG.out,E4 HE.out];exact⟨fy (As.out.trans (Ah.out.mono As.out.size)) lz _,aq,0,rfl,jM.nil⟩
 .have AM:(er != 0)=true:=by simpa using he
  have HG:Hid (X=([],Ae,er)):=Hh (Aa he);clear Aa Ab he;go_upto_region 3 with fail
  go_wp2_with (with_reducible first|refine bv ?_)
  refine Stop.out ?_;refine az rfl 50 _ _ rfl rfl _ rfl (bL Ae er) rfl _ _ (At.out) rfl (by kernel_rfl) (lU _ _ _ _ _ _ _ _ _ _ _ _ _ _ _ _ _ _ _) ?_;have S:aa ((w2).setRow w.heap.size (bL Ae er)) w.heap.size (bL Ae er) 50:=fR _ _ _ _ _ _ (At.out);go_wp2_with fail;obtain⟨Ai,Aj,Ak,Al,Am,An,Ao,Ap,Aq,Ar,Ad⟩:=S.m11 rfl;refine bj (v:=ew (bL Ae er)) (by simp[results,Tryz.results14,go_sem,Ai,Aj,Ak,Al,Am,An,Ao,Ap,Aq,Ar,Ad]) rfl ?_
  rw[HG.out];exact⟨fy Ax.out lz _,aq,0,rfl,jM.nil⟩
section
variable {P:oR} {ops:Array Oper} {md:Region.Mode} {C:cd->Prop} {n:Nat} {L:Array Bool->Act->Prop}
def qp(P:oR)(md:Region.Mode)(ops:Array Oper)(C:cd->Prop)(n:Nat)(L:Array Bool->Act->Prop):Nat->Array Bool->Act->Prop
 |0,listed,a=>L listed a
 |f+1,listed,a=>xe md ops listed≠[]/\∀i∈xe md ops listed,i<n/\qOp P ops C i (qp P md ops C n L f (listed.setIfInBounds i true)) a
theorem qp.any{g:Nat}{Q:Exit->Act->cd->Prop}(hL:∀listed a w,C w->L listed a->wpAny P md ops Q g listed a w):∀(f:Nat) (listed:Array Bool) (a:Act) (w:cd),C w->qp P md ops C n L f listed a->wpAny P md ops Q (f+g) listed a w
 |0,_,_,_,hw,h=>by rw[Nat.zero_add];exact hL _ _ _ hw h
 | f+1,_,_,_,hw,h=>by
  rw[Nat.add_right_comm];exact⟨fun e=>absurd e h.1,fun i hi=>wpOp_of_qOp hw (fun a' w' hw' h'=>qp.any hL f _ a' w' hw' h') (h.2 i hi).2⟩
theorem qp.first{i:Nat}{oi:Oper}{v:cq}(hi:ops[i]?=aw oi)(E:∀(j:Nat) (o:Oper) cs b,ops[j]?=aw o->o.op≠.select cs b)(O:Region.sinkB md ops n=true)(M:Region.chainB md ops n=true)(N:n<ops.size)(G:i<n)(Q:∀listed a,L listed a->∀j∈xe md ops listed,n<=j):∀(f:Nat) (listed:Array Bool) (a:Act),HeadInv md ops n listed->
   (∀j oj,ops[j]?=aw oj->j≠i->listed.getD j true=false->(∀e∈oj.after,Region.binds md e=true->e.on≠i)->oi.apart ops oj=true)->
   i∈xe md ops listed->YieldsIn P ops C oi v a->qp P md ops C n L f (listed.setIfInBounds i true) (a.put oi.dst v)->qp P md ops C n L (f+1) listed a:=by
 intro f
 induction f with
 |zero=>
  intro listed a z _ x F H;refine⟨fun e=>(by rw[e] at x;cases x),fun j hj=>?_⟩;have Aa:j<n:=D3 fun h=>tail_waits O M N z _ i rfl G (mem_ready.1 x).1 j h hj;refine⟨Aa,?_⟩
  by_cases g:j=i
  .subst g;exact F.qOp hi H
  .exact absurd (Q _ _ H j (ready_mono hj g)) (by omega)
 |succ f ih=>
  intro listed a z u x F H;refine⟨fun e=>(by rw[e] at x;cases x),fun j hj=>?_⟩;have Aa:j<n:=D3 fun h=>tail_waits O M N z _ i rfl G (mem_ready.1 x).1 j h hj;refine⟨Aa,?_⟩
  by_cases g:j=i
  .subst g;exact F.qOp hi H
  .have J:=(H.2 j (ready_mono hj g)).2
   obtain⟨Ad,oj,Ac,Ab⟩:=mem_ready.1 hj
   have Ae:∀e∈oj.after,Region.binds md e=true->e.on≠i:=fun e he hb heq=>by
    have I:=Ab e he hb;have q0:=(mem_ready.1 x).1;rw[heq,getD_both q0] at I;cases I
   have K:=qOp_put Ac (u j oj Ac g Ad Ae) (fun cs b=>E i oi cs b hi) (fun cs b=>E j oj cs b Ac) F J;refine qOp_mono (fun a' h3=>ih (listed.setIfInBounds j true) a' (z.set hj Aa) (fun k ok hk hki hun' hno'=>u k ok hk hki ?_ hno') (ready_mono x (Ne.symm g)) h3.1 ?_) K
   .by_cases A:j=k
    .subst A;exact Ad
    .rw[getD_set_ne true A] at hun';exact hun'
   .rw[Array.setIfInBounds_comm _ _ g]
    exact h3.2
theorem qp.lex{g:Nat}{Lq:Act->Prop}(f:Region.noSelect ops=true)(E:Region.sinkB md ops n=true)(A:Region.chainB md ops n=true)(D:n<ops.size):∀(l:List Oper) (k:Nat) (listed:Array Bool) (a:Act),(∀j,j<l.length->l[j]?=ops[k+j]?)->k+l.length=n->HeadInv md ops n listed->
  Region.lexHead md ops g l.length k listed=true->wpQuiet P ops C Lq l a->qp P md ops C n (fun listed' a'=>Region.seqB md ops g n listed'=true/\Lq a') l.length listed a
 | [],k,_,_,_,hk,_,hB,h=>by
  obtain rfl:k=n:=by simpa using hk
  exact⟨by simpa [Region.lexHead] using hB,h⟩
 | o::l,k,listed,a,hl,hk,inv,hB,h=>by
  have i:ops[k]?=aw o:=by simpa using (hl 0 (by simp)).symm
  simp only[bc] at hk;simp only[bc,Region.lexHead,cP] at hB;have b:k<n:=by omega
  have w:k∈xe md ops listed:=by simpa using hB.1.1
  have u:qOp P ops C k (wpQuiet P ops C Lq l) a:=by unfold qOp;simp only[i];exact h
  obtain⟨v,F,z⟩:=yieldsIn_of_qOp i u
  exact qp.first i (Region.noSelect_spec f) E A D b (fun _ _ hL=>seqB_ready hL.1) l.length listed a inv (Region.free_spec i hB.1.2) w F
   (qp.lex f E A D l (k+1) _ _ (fun j hj=>by have:=hl (j+1) (by simp;omega);simpa [kO,eV 1 j] using this) (by omega) (inv.set w b) hB.2 z)
end
theorem mF{id:Nat}{l:List Oper}{Q:Exit->Act->cd->Prop}{a:Act}(D:cd)(n:Nat)(A:P.follows .mixedOrders=true)(o:Region.lexTailB .any l.toArray n=true)(C:cj D.heap.size D w)(h:wpQuiet P l.toArray (fun w'=>∃x:bG D,w'=x.w) (fun a'=>∀w',(∃x:bG D,w'=x.w)->wpList P l.toArray Q (l.drop n) a' w') (l.take n) a):(Code.region id l.toArray true).wp P Q a w:=by
 simp only[Region.lexTailB,cP,decide_eq_true_eq] at o;obtain⟨⟨⟨⟨Ac,k⟩,z⟩,u⟩,Ab⟩:=o;have Af:n<l.length:=by simpa using k
 have Aa:(l.take n).length=n:=by simp;omega
 have Ae:(l.drop n).length=l.toArray.size-n:=by simp
 have Ad:HeadInv .any l.toArray n (Array.replicate l.toArray.size false):=⟨by simp,fun j oj _ hl=>(by rw[getD_replicate_false] at hl;cases hl),fun t _ ht=>getD_in (by simpa using ht) (getD_replicate_false _ _)⟩
 have H:=qp.lex (md:=.any) (g:=l.toArray.size-n) Ac z u k (l.take n) 0 _ a (fun j hj=>by
  rw[Aa] at hj
  simp[hj]) (by simpa using Aa) Ad (by rw[Aa];exact Ab) h
 refine wp_region_any A ?_
 have i:=qp.any (Q:=Q) (g:=l.toArray.size-n) (fun listed a' w' hw' hL=>by
  have:=wpAny_of_seq (md:=.any) (Q':=Q) (l.drop n) n listed a' w' (fun j=>by simp[sd]) (by rw[Ae];exact hL.1) (hL.2 w' hw')
  rwa [Ae] at this) _ _ _ { w with drawn:=w.drawn+1 } ⟨⟨_,C.drew⟩,rfl⟩ H
 rw[Aa,show n+(l.toArray.size-n)=l.toArray.size by omega] at i;exact i
def Az(l:Bs)(L:List (List ae)):List Bool:=[qW l,uP L l 0,lG aq L,qo l L 0,vF l L,oH l L (-1) true,Bt L]
def lJ(l:Bs):List Int:=if (aT l).2.2=0 then fM (Az l (jG l)) 1 else [-1]
theorem UO(h:0<s.size):qW s.data.toList=decide ((s[s.size-1]'(by omega)).toNat=10):=by
 have c:s.data.toList.length=s.size:=aM s
 have b:s.data.toList.getLast?=aw (s[s.size-1]'(by omega)):=by
  rw[List.getLast?_eq_getElem?,br (by omega)];simp only[c];rfl
 unfold qW;rw[b];exact EH _ 10 (by decide)
theorem GA(w x:cd)(g i j n q r u:Bool)(h:x=w.alloc (aE #[cG g,cG i,cG j,cG n,cG q,cG r,cG u] 4)):∀k,k<7->x.cell? ⟨w.heap.size,k,aq⟩=aw (cG ([g,i,j,n,q,r,u].getD k false))/\w.heap.size<x.heap.size:=by
 subst h;intro k v;have b:=aa.new w #[cG g,cG i,cG j,cG n,cG q,cG r,cG u] 4;refine⟨?_,b.lt⟩;have f:k=0\/k=1\/k=2\/k=3\/k=4\/k=5\/k=6:=by omega
 rcases f with rfl|rfl|rfl|rfl|rfl|rfl|rfl<;>exact b.cell _ _ rfl
theorem CY(s:E7)(w:cd)(hs:s.size<=800000)(hF:(aT s.data.toList).2.2=0->(∀r∈jG s.data.toList,F9 r/\r.length<=1000000)/\(jG s.data.toList).length<=1000000/\K7 s (jG s.data.toList)) :
  cJ bh 7 #[al s] w fun e w'=>∃v,e=bk v/\aI jf 3 w.heap.size w' v (lJ s.data.toList)/\cj w.heap.size w w':=by
 have hP:=GU s w hs;have Ax:=fun W=>G5 s W hs;have Ai:Hid (lJ s.data.toList=if (aT s.data.toList).2.2=0 then fM (Az s.data.toList (jG s.data.toList)) 1 else [-1]):=Hh rfl;generalize aT s.data.toList=X at *;obtain⟨X1,A1,er⟩:=X;simp only at hF Ai;have Ar:=Hh hF;clear hF;go_in;go_wp2_with fail;refine hP.mono ?_;clear hP;rintro _ w1 ⟨hb1,ia,ic,rfl,-⟩;have Am:=Hh hb1;clear hb1;simp only;generalize X1.length=xn at *;have AA:∀w:cd,(Instr.field 50 (ew #[an ia xn ic,ao ar 0,ao ar A1,ao ar er,cG false,al ⟨#[]⟩,al ⟨#[]⟩,al ⟨#[]⟩,an aq 0 0,an aq 0 0,an aq 0 0]) 3).run bh w=.ok (ao ar er) w:=fun _=>by kernel_rfl
 by_cases h0:er=0
 .subst h0
  obtain⟨Au,Av,Aw⟩:=Ar.out rfl;have Aj:Hid (lJ s.data.toList=fM (Az s.data.toList (jG s.data.toList)) 1):=Hh (by rw[Ai.out,E4 rfl]);have Ad:=Jh Au Aw;clear Ai Ar Au Aw;go_wp2_with fail;refine (Ax _).mono ?_;clear Ax;rintro _ C ⟨v,rfl,hT,hb2⟩;have Ae:Hid (OV w1.heap.size C v (jG s.data.toList)):=Hh ⟨hT,fun r hr=>(Ad.out.1 r hr).1,fun r hr=>(Ad.out.1 r hr).2,Av⟩;have Ah:=Hh (av Am.out hb2);obtain⟨va,vc,rfl,A5,A6,-⟩:=hT.len;unfold cV at A6;clear hT hb2;obtain⟨L,hL⟩:=exq (jG s.data.toList);rw[<-hL] at Ae Ad Aj A5 Av ⊢;clear hL;have q2:=fun W (h:cj C.heap.size C W)=>Nr s W _ L (Ae.out.below h) Ad.out.2 (by omega);have q3:=fun W (h:cj C.heap.size C W)=>Nq W _ L (Ae.out.below h);have q4:=fun W (h:cj C.heap.size C W)=>Np s W _ L (Ae.out.below h) Ad.out.2 (by omega);have q5:=fun W (h:cj C.heap.size C W)=>Nn s W _ L (Ae.out.below h) Ad.out.2 (by omega);have q6:=fun W (h:cj C.heap.size C W)=>Nl s W _ L (Ae.out.below h) Ad.out.2 (by omega);have q7:=fun W (h:cj C.heap.size C W)=>Nk W _ L (Ae.out.below h);obtain⟨bs,An⟩:=exq (Az s.data.toList L);rw[<-An] at Aj;have Ak:Hid (bs=[qW s.data.toList,uP L s.data.toList 0,lG aq L,qo s.data.toList L 0,vF s.data.toList L,oH s.data.toList L (-1) true,Bt L]):=Hh An
  have Ap:Hid (bs.length=7):=Hh (by rw[An];rfl);have A0:=Hh (fun k (hk:k<7)=>yx bs k 1 (by have:=Ap.out;omega));have Aq:=Hh (UO (s:=s));clear An Ad;generalize uP L s.data.toList 0=b2 at *;generalize lG aq L=b3 at *;generalize qo s.data.toList L 0=b4 at *;generalize vF s.data.toList L=b5 at *;generalize oH s.data.toList L (-1) true=b6 at *;generalize Bt L=b7 at *;have p2:=fun x:bG C=>bG.call x (q2 x.w x.below);have p3:=fun x:bG C=>bG.call x (q3 x.w x.below);have p4:=fun x:bG C=>bG.call x (q4 x.w x.below);have p5:=fun x:bG C=>bG.call x (q5 x.w x.below);have p6:=fun x:bG C=>bG.call x (q6 x.w x.below);have p7:=fun x:bG C=>bG.call x (q7 x.w x.below);clear q2 q3 q4 q5 q6 q7
  by_cases hz:s.size=0
  case' pos=>
   have e:qW s.data.toList=true:=by
    have:s.data.toList=[]:=cC (by rw[aM];exact hz);rw[this];rfl
   rw[e] at Ak;clear e Aq;go_wp2_with fail;refine mF C 27 (by kernel_rfl) (by kernel_rfl) (ba _ _) ?_;simp only[cN,fz,ec,dd];repeat (go_big_quiet_step ((first|(with_reducible exact p2 _)|(with_reducible exact p3 _)|(with_reducible exact p4 _)|(with_reducible exact p5 _)|(with_reducible exact p6 _)|(with_reducible exact p7 _))))
   refine wpQuiet_nil ?_;rintro _ ⟨x,rfl⟩;obtain⟨Q,Ag⟩:=exq (x.w.alloc (aE #[cG true,cG b2,cG b3,cG b4,cG b5,cG b6,cG b7] 4));have HX:=Hh (GA x.w Q true b2 b3 b4 b5 b6 b7 Ag);rw[<-Ak.out] at HX
  case' neg=>
   have A7:0<s.size:=by omega
   have i1:eC.i64.wrap ((s.size:Int)-1)=((s.size-1:Nat):Int):=by rw[cU _ (by omega)];omega
   have i2:(0:Int)<(s.size:Int):=by omega
   have i3:0<=((s.size-1:Nat):Int)/\((s.size-1:Nat):Int)<(s.size:Int):=by omega
   have ez:((s.size:Int)==0)=false:=by rw[Fc];omega
   rw[Aq.out A7] at Ak;obtain⟨ch,A2⟩:∃ch:Nat,(s[s.size-1]'(by omega)).toNat=ch:=⟨_,rfl⟩;rw[A2] at Ak
   have A8:((ch:Int)==10)=decide (ch=10):=by
    by_cases h:ch=10
    .subst h;rfl
    .rw[decide_eq_false h,Fc];omega
   generalize decide (ch=10)=bE at *;clear Aq hz;go_wp2_with fail;refine mF C 27 (by kernel_rfl) (by kernel_rfl) (ba _ _) ?_;simp only[cN,fz,ec,dd];repeat (go_big_quiet_step ((first|(with_reducible exact p2 _)|(with_reducible exact p3 _)|(with_reducible exact p4 _)|(with_reducible exact p5 _)|(with_reducible exact p6 _)|(with_reducible exact p7 _))))
   refine wpQuiet_nil ?_;rintro _ ⟨x,rfl⟩;obtain⟨Q,Ag⟩:=exq (x.w.alloc (aE #[cG bE,cG b2,cG b3,cG b4,cG b5,cG b6,cG b7] 4));have HX:=Hh (GA x.w Q bE b2 b3 b4 b5 b6 b7 Ag);rw[<-Ak.out] at HX
  all_goals
   have Ao:Hid (cj w.heap.size w Q):=Hh (by rw[Ag];exact (Ah.out.trans (x.below.mono Ah.out.size)).alloc (Ah.out.trans (x.below.mono Ah.out.size)).size _);clear p2 p3 p4 p5 p6 p7 Ae Ah;go_wp2_with fail;rw[<-Ag];clear Ag;generalize x.w.heap.size=g at *;go_loopw [5,6] (fun lv i wr=>∃k:Nat,k<=7/\i=ao ar (k:Int)/\aI jf 3 Q.heap.size wr lv (fM (bs.take k) 1)/\cj Q.heap.size Q wr) (fun _ i _=>7-(intOf i).toNat)
   .exact⟨0,ck _,rfl,aI.nil,ba _ _⟩
   obtain⟨k,hk,rfl,Ac,hb⟩:=hrel;have S:=Jh Ac hb;obtain⟨oa,oc,rfl,-⟩:=Ac.row.len;have Aa:=Bp (bs.take k) 1
   have At:(fM (bs.take k) 1).length<=7:=by
    have:=Ap.out;rw[c8] at Aa;omega
   by_cases N:k<7
   .obtain⟨Af,As⟩:=HX.out k N
    have A9:=(hb.cell (p:=⟨g,k,aq⟩) As).trans Af;have A3:g<wr.heap.size:=Nat.lt_of_lt_of_le As hb.size;have Ay:=Hh (A0.out k N);have A4:=hb.size;generalize bs.getD k false=bb at *;generalize fM (bs.take k) 1=E at *;clear Ac Aa Af As hb
    cases bb with
    |true=>
     go_wp2;go_roundw
     .exact⟨k+1,N,by go_num,by rw[Ay.out];simpa using S.out.1,S.out.2⟩
     simp[intOf];omega
    |false=>
     have kk:eC.i64.wrap ((k:Int)+1)=1+(k:Int):=by rw[cU _ (by omega)];omega
     go_wp2_with (with_reducible first|refine aL ?_)
     refine Stop.out ?_;have Ab:=fun n=>aI.lit (f:=jf) (E:=3) (base:=wr.heap.size) (w:=wr) [n] lz (by simp[cV]);refine fA (f:=jf) rfl _ _ _ rfl Q.heap.size 3 8 (ao ar 0) Tryz.underlying27 Tryz.infoIntZ rfl (fun _=>rfl) E [_] (by exact S.out.1.alloc _) (by exact (Ab _).row) (by simp;unfold cV;omega) (by simp;omega) (by simp;omega) Q (by exact (S.out.2.alloc A4 _)) ?_;intro v6 w6 K hb6 hg6;obtain⟨r6,c6,rfl,-⟩:=K.row.len;have H6:=Jh K hb6;clear Ab K hb6 hg6;go_wp2;go_roundw
     .exact⟨k+1,N,by go_num,by rw[Ay.out];simpa using H6.out.1,H6.out.2⟩
     simp[intOf];omega
   .obtain rfl:k=7:=by omega
    have Al:fM (bs.take 7) 1=fM bs 1:=by rw[List.take_of_length_le (by have:=Ap.out;omega)]
    have HR:Hid (fM (bs.take 7) 1=lJ s.data.toList):=Hh (by rw[Al,Aj.out]);clear Al Ac Aa hb;generalize fM (bs.take 7) 1=E at *;go_wp2;go_ret;rw[<-HR.out];exact⟨_,rfl,S.out.1.base_le Ao.out.size,Ao.out.trans (S.out.2.mono Ao.out.size)⟩
 .have AB:(er != 0)=true:=by simpa using h0
  have Aj:Hid (lJ s.data.toList=[-1]):=Hh (by rw[Ai.out,E6 h0]);have Ab:=aI.lit (f:=jf) (E:=3) (base:=w.heap.size) (w:=w1) [-1] Am.out.size (by simp[cV]);have HL:=Hh Ab;clear h0 Ar Ai Ab;go_wp2;go_ret;rw[Aj.out];exact⟨_,rfl,HL.out,Am.out.alloc Am.out.size _⟩
theorem AR(size:Int):∀(toks cur:List ae) (fr o:Int),F9 cur->∀r∈gF size toks cur fr o,F9 r.toks
 | [],cur,fr,o,hc=>by
  rw[gF];split
  .intro r hr
   rw[de.1 hr];exact hc
  .intro r hr;cases hr
 | t::toks,cur,fr,o,hc=>by
  rw[gF];split
  .intro r hr
   rcases cL.1 hr with rfl|hr
   .exact hc
   .exact AR size toks [] _ _ (fun u hu=>by cases hu) r hr
  .next h5=>
   exact AR size toks (cur++[t]) _ _ (fun u hu=>by
    rcases cX.1 hu with hu|hu
    .exact hc u hu
    .rw[de.1 hu];exact h5)
theorem GG(l:Bs):∀r∈(aA l).map (·.toks),F9 r:=by
 intro r b;obtain⟨d,a,rfl⟩:=j8.1 b;unfold aA at a;split at a
 .exact AR _ _ [] _ _ (fun u hu=>by cases hu) d a
 .cases a
theorem tJ:∀(toks cur:List ae) (b:Bool) (r:List ae),r∈jS toks cur b->∀t∈r,t∈cur\/t∈toks
 | [],cur,b,r,h,t,ht=>by
  rw[jS] at h
  cases b with
  |true=>rw[E4 rfl,de] at h;subst h;exact .inl ht
  |false=>cases h
 | u::q,cur,b,r,h,t,ht=>by
  rw[jS] at h;split at h
  .rcases cL.1 h with rfl|h
   .exact .inl ht
   .rcases tJ q [] b r h t ht with e|e
    .cases e
    .exact .inr (fi _ e)
  .rcases tJ q _ b r h t ht with e|e
   .rcases cX.1 e with e|e
    .exact .inl e
    .rw[de.1 e];exact .inr (pN ..)
   .exact .inr (fi _ e)
theorem Lp{l:Bs}{hi:Int}:∀(toks:List ae) (fr:Int),CE l hi fr toks->∀t∈toks,0<=t.pos/\t.pos+(t.text.size:Int)<=l.length
 |[],_,_,t,ht=>by cases ht
 | u::q,fr,h,t,ht=>by
  obtain⟨h1,h2,h3,-,h5⟩:=h;rcases cL.1 ht with rfl|ht
  .refine⟨by omega,?_⟩
   cases q with
   |nil=>exact Int.le_trans h5.2.1 h5.2.2.1
   |cons v q=>exact Int.le_trans h5.2.1 h5.2.2.1
  .exact Lp q _ h5 t ht
theorem PY(s:E7):K7 s (jG s.data.toList):=by
 intro r b t q;unfold jG at b;split at b
 .next f=>
  have j:=(tJ _ _ _ r b t q).resolve_left (fun e=>by cases e);have k:=(xg s.data.toList.length s.data.toList [] [] 0 lz (ck _) f (fun c hc=>by cases hc)).1;obtain⟨v,u⟩:=Lp _ _ k t j;have i:([]++(s.data.toList++[])).length=s.size:=by rw[cM,List.append_nil];exact aM s
  rw[i] at u;exact⟨t.pos.toNat,by omega,by omega⟩
 .cases b
theorem JO(s:E7)(i:s.size<=900000):(∀r∈jG s.data.toList,F9 r/\r.length<=1000000)/\(jG s.data.toList).length<=1000000/\K7 s (jG s.data.toList):=by
 have f:=mH s.data.toList;have c:=GG s.data.toList;have g:=aM s;refine⟨fun r hr=>?_,?_,PY s⟩
 .rw[mD] at hr
  refine⟨c r hr,?_⟩;obtain⟨d,b,rfl⟩:=j8.1 hr;have:=f.2.2 d b;omega
 .rw[mD,cW]
  omega
theorem uQ(s:E7)(w:cd)(hs:s.size<=800000):cJ bh 7 #[al s] w fun e w'=>∃v,e=bk v/\aI jf 3 w.heap.size w' v (lJ s.data.toList)/\cj w.heap.size w w':=
 CY s w hs fun _=>JO s (by omega)
theorem Mx{pre a z:Bs}(d:10∉a)(i:pre=[]\/∃q,pre=q++[10]):∀k,k<=a.length->jg (pre++(a++z)) (pre.length+k)=pre.length
 | 0,_=>by
  rcases i with rfl|⟨q,rfl⟩
  .rfl
  .have e:(q++[10]).length+0=q.length+1:=by simp
   rw[e,jg]
   have:(q++[10]++(a++z))[q.length]?=aw 10:=by
    rw[ef,eK lz,Nat.sub_self];rfl
   rw[E4 this];simp
 | k+1,hk=>by
  have e:(pre++(a++z))[pre.length+k]?=aw (a[k]'(by omega)):=by
   rw[eK (Nat.le_add_right _ _),Nat.add_sub_cancel_left,List.getElem?_append_left (by omega),br (by omega)]
  have b:¬(pre++(a++z))[pre.length+k]?=aw 10:=by
   rw[e];intro h;exact d (by rw[<-dt h];exact cH _)
  rw[<-kO,jg,E6 b];exact Mx d i k (by omega)
def U8(l:Bs)(r:aK):Prop:=∀n:Nat,r.lo<=(n:Int)->(n:Int)<=r.hi->(jg l n:Int)=r.lo
theorem Dz(l:Bs):∀(ls:List Bs) (pre:Bs) (o:Int),l=pre++q9 ls->(pre=[]\/∃q,pre=q++[10])->(∀a∈ls,10∉a)->∀r∈kH ls pre.length o,U8 l r
 |[],_,_,_,_,_,r,hr=>by cases hr
 | a::ls,pre,o,hl,hp,hn,r,hr=>by
  have e:q9 (a::ls)=a++10::q9 ls:=by unfold q9;rw[fb];simp
  rw[e] at hl;rw[kH] at hr;rcases cL.1 hr with rfl|hr
  .intro n f g
   simp only[mo] at f g ⊢;obtain⟨k,rfl⟩:∃k,n=pre.length+k:=⟨n-pre.length,by omega⟩;rw[hl,Mx (hn a (by simp)) hp k (by omega)]
  .refine Dz l ls (pre++(a++[10])) (dn o (aC a pre.length).1) (by rw[hl];simp) (.inr ⟨pre++a,by simp⟩) (fun b hb=>hn b (by simp[hb])) r ?_
   have c:(pre++(a++[10])).length=pre.length+a.length+1:=by simp;omega
   rw[c];exact hr
theorem GD(j:(aT l).2.2=0)(i:qW l=true):(∀r∈aA l,U8 l r)/\CL 0 (aA l):=by
 obtain⟨b,g,h,Aa⟩:=xI l i;have f:=(iD j).1;have e:aA l=kH b 0 0:=by rw[fK f,g,ko]
 rw[e];exact⟨Dz l b [] 0 (by rw[cM];exact h) (.inl rfl) Aa,tK b 0 0⟩
theorem Ew:∀b:Bs,(b.all fun c=>decide (c=32))=decide (b.count 32=b.length)
 |[]=>rfl
 | c::b=>by
  rw[List.all_cons,Ew b,List.count_cons,bc];have:=List.count_le_length (a:=(32:UInt8)) (l:=b)
  by_cases h:c=32
  .subst h
   simp
  .have e:(c==32)=false:=by simpa using h
   rw[e,decide_eq_false h];simp
   omega
theorem UY{b:Nat}{x y:Int}(g:x=(a:Int))(i:y=(b:Int))(j:a<=b)(k:b<=l.length)(n:Int):qA (kQ l x y) n=(decide (y-x=n)&&jc l a b):=by
 subst g i;rw[uq];unfold qA jc;rw[Ew];have f:((l.take b).drop a).length=b-a:=by rw[bm,c8];omega
 rw[f]
 by_cases h:(b:Int)-a=n
 .rw[decide_eq_true h,decide_eq_true (show ((b-a:Nat):Int)=n by omega),ie,ie]
  exact decide_eq_decide.2 (by omega)
 .rw[decide_eq_false h,decide_eq_false (show ¬((b-a:Nat):Int)=n by omega)]
  rfl
theorem JK{l:Bs}{hi:Int}:∀(toks:List ae) (fr:Int),CE l hi fr toks->fr<=hi/\∀t∈toks,fr<=t.pos/\t.pos<=hi
 |[],_,h=>⟨h.2.1,fun t ht=>by cases ht⟩
 | u::q,fr,h=>by
  obtain⟨-,h2,-,-,h5⟩:=h;obtain⟨i1,i2⟩:=JK q _ h5;refine⟨by omega,fun t ht=>?_⟩;rcases cL.1 ht with rfl|ht
  .exact⟨h2,by omega⟩
  .have:=i2 t ht
   exact⟨by omega,this.2⟩
structure xR(l:Bs)(r:aK):Prop where
 beg:U8 l r
 ok:RY l r
 in_:lY l r
theorem xR.lo(h:xR l r):0<=r.lo:=by
 obtain⟨q,a,z,-,b,-⟩:=h.in_.cut;omega
theorem xR.blk(h:xR l r)(hi:i<r.toks.length)(n:Int):qA (lQ l r i) n=(decide (r.toks[i].pos-pJ r i=n)&&jc l (pJ r i).toNat r.toks[i].pos.toNat):=by
 have g:=h.ok.1 i (by omega)
 have e:jh r i=r.toks[i].pos:=by
  unfold jh;rw[br hi];rfl
 unfold lQ;rw[e] at g ⊢;exact UY (a:=(pJ r i).toNat) (b:=r.toks[i].pos.toNat) (by omega) (by omega) (by omega) (by omega) n
theorem xR.begin(h:xR l r)(hi:i<r.toks.length):((jg l r.toks[i].pos.toNat:Nat):Int)=r.lo:=by
 have b:=(JK _ _ h.in_.seg).2 r.toks[i] (cH hi);have:=h.lo;exact h.beg _ (by omega) (by omega)
theorem Tm(h:xR l r):Tn l r.dep r.toks=jd l r:=by
 unfold Tn jd
 cases hr:r.toks with
 |nil=>rfl
 |cons t q=>
  have a:0<r.toks.length:=by rw[hr];simp
  have e:r.toks[0]=t:=by simp[hr]
  have b:=h.blk a (2*r.dep);have c:=h.begin a;rw[e] at b c;have f:pJ r 0=r.lo:=rfl;rw[b,f];simp only[List.head?_cons,List.isEmpty_cons,j0];rw[<-c,eL]
theorem FB{l:Bs}:∀(R:List aK) (o:Int),(∀r∈R,xR l r)->CL o R->qo l (R.map (·.toks)) o=jB l R
 |[],_,_,_=>rfl
 | r::R,o,h,hd=>by
  obtain⟨d1,d2⟩:=hd;rw[cI,qo,jB,FB R _ (fun x hx=>h x (by simp[hx])) d2,<-d1,Tm (h r (by simp))]
theorem Ty(r:aK):KI r=rA (gK r.toks):=by
 unfold KI rA;cases gK r.toks<;>rfl
theorem Lm{l:Bs}{r:aK}(h:xR l r):∀(n m:Nat),r.toks.length=m+1+n->rz l r.toks (r.toks.drop m) (m+1)=iZ l r n (m+1)
 | 0,m,hm=>by
  rw[cg (by omega),fg (by omega)];rfl
 | n+1,m,hm=>by
  have hi:m+1<r.toks.length:=by omega
  have b:=Lm h n (m+1) (by omega);rw[cg (show m+1<r.toks.length from hi)] at b;rw[cg (by omega),cg hi,rz,b,iZ]
  congr 1
  unfold Un;rw[h.blk hi,Ty]
  have e:pJ r (m+1)=zk r.toks[m]:=by
   show ((r.toks[m]?.map (fun t=>t.pos+(t.text.size:Int))).getD 0)=_;rw[br (by omega)];rfl
  rw[e]
theorem EK{l:Bs}:∀(R:List aK),(∀r∈R,xR l r)->vF l (R.map (·.toks))=l9 l R
 |[],_=>rfl
 | r::R,h=>by
  rw[cI,vF,l9,EK R (fun x hx=>h x (by simp[hx]))]
  congr 1
  cases hr:r.toks with
  |nil=>rfl
  |cons t q=>
   have:=Lm (h r (by simp)) (r.toks.length-1) 0 (by rw[hr];simp;omega);rw[dd,Nat.zero_add,hr] at this;rw[this]
theorem TA{b:Bs}(h:Vd b):zx b=fJ b:=by
 unfold zx fJ;rw[show (scan (nb b) 0).2=aq from h];rfl
theorem Rl(hi:lY l r)(z:lS r.toks){k:pO}(x:sV n (dX r.toks) k)(v:jd l r=true)(A:iZ l r (r.toks.length-1) 1=true)(b:gK r.toks=aw i)(h:rD l r i=true):Vd (kQ l r.lo (jh r i)):=by
 have Aa:=iq b;obtain⟨f,g2⟩:=ug b h
 have u:=hi.col (g:=Me l r) Aa.2 (fun j hj=>by
  by_cases e:j=i
  .subst e
   rw[f];unfold Me;rw[E4 b]
  .exact wJ v A (by omega) (by rw[b];intro q;cases q;exact e rfl))
 rw[u];exact ((EG _ _ 0 (vT z x b)).app (Dp _).1).1
theorem xR.gap(h:xR l r)(v:i-1<r.toks.length)(u:i<r.toks.length)(hi:1<=i):rD l r i=Vt l r.toks[i-1] r.toks[i]/\decide ((lQ l r i).length=1)=decide (r.toks[i].pos-zk r.toks[i-1]=1):=by
 obtain⟨m,rfl⟩:∃m,i=m+1:=⟨i-1,by omega⟩;have g:=h.ok.1 (m+1) (by omega)
 have e:jh r (m+1)=r.toks[m+1].pos:=by
  unfold jh;rw[br u];rfl
 have j:pJ r (m+1)=zk r.toks[m]:=by
  show ((r.toks[m]?.map (fun t=>t.pos+(t.text.size:Int))).getD 0)=_;rw[br (show m<r.toks.length by omega)];rfl
 have Aa:((lQ l r (m+1)).length:Int)=r.toks[m+1].pos-zk r.toks[m]:=by
  unfold lQ;rw[sK g.1 g.2.1 g.2.2.1,e,j]
 have o:=h.blk u ((lQ l r (m+1)).length:Nat);rw[j,Aa,decide_eq_true rfl,ie] at o;refine⟨?_,decide_eq_decide.2 (by simp only[r4];omega)⟩;unfold rD Vt;simp only[r4];rw[Aa,o]
 congr 2
 cases hA:lQ l r (m+1) with
 |nil=>
  rw[hA] at Aa;exact (decide_eq_true (by simp at Aa;omega)).symm
 |cons c q=>
  rw[hA] at Aa;exact (decide_eq_false (by simp at Aa;omega)).symm
theorem KY{l:Bs}:∀(R:List aK) (col:Int) (near:Bool),(∀r∈R,xR l r/\∀i,gK r.toks=aw i->rD l r i=true->Vd (kQ l r.lo (jh r i)))->oH l (R.map (·.toks)) col near=eU l R col near
 |[],_,_,_=>rfl
 | r::R,col,near,h=>by
  have ih:=fun c n=>KY R c n (fun x hx=>h x (by simp[hx]));obtain⟨hF,hV⟩:=h r (by simp)
  cases he:gK r.toks with
  |none=>
   rw[cI,oH,eU,he];simp only;rw[ih]
  |some i=>
   obtain⟨hi1,hi2⟩:=iq he;obtain⟨g1,g2⟩:=hF.gap (by omega) hi2 hi1;rw[cI,RD l he _ _ (by omega) hi2,eU,he];simp only;rw[<-g1,<-g2]
   cases hg:rD l r i with
   |false=>rfl
   |true=>
    have hb:=hF.begin hi2;have hlo:=hF.lo;have hs:=(JK _ _ hF.in_.seg).2 r.toks[i] (cH hi2)
    have ht:jh r i=r.toks[i].pos:=by
     unfold jh;rw[br hi2];rfl
    have k:(zx (EN l r.toks[i]):Int)=uH l r i:=by
     have e:EN l r.toks[i]=kQ l r.lo (jh r i):=by
      unfold EN kQ;rw[ht,<-hb,eL]
     rw[e,TA (hV i he hg)];rfl
    rw[k,ih,ie,ie]
    by_cases f:col<0
    .rw[E4 f,E4 f,decide_eq_true f,decide_eq_true rfl]
     rfl
    .rw[E6 f,E6 f,decide_eq_false f,j0]
     by_cases j:uH l r i=col
     .rw[j]
     .rw[decide_eq_false j]
      rfl
theorem Mm:∀(R:List aK),lG aq (R.map (·.toks))=iw aq R:=by
 intro R;have h:=FM R aq;have a:=FL (R.map (·.toks)) aq;rw[h,<-a,List.map_map];rfl
theorem Fa:∀L:List (List ae),Bt L=true↔RN L
 |[]=>⟨fun _=>trivial,fun _=>rfl⟩
 | r::L=>by
  rw[Bt,cP,Fa L,RN];refine and_congr_left fun _=>?_
  cases hd:bq L with
  |nil=>
   refine⟨fun _ x q h=>(by cases h),fun _=>?_⟩;show (!fe r || !il [])=true;cases fe r<;>rfl
  |cons y p=>
   refine⟨fun h x q hx hc=>?_,fun h=>?_⟩
   .cases hx
    rw[hc.1] at h;simp only[List.headD_cons,hc.2] at h;cases h
   .have:=h y p rfl
    simp only[List.headD_cons];cases h1:fe r<;>cases h2:il y<;>simp_all
theorem T9:∀R:List aK,jm R=true->RN (R.map (·.toks))
 |[],_=>trivial
 | r::R,h=>by
  rw[jm,cP] at h;refine⟨fun x q hx=>?_,T9 R h.2⟩;obtain⟨d,h1,h2⟩:=vV hx;rw[h1] at h;rw[<-h2];exact Iw h.1
theorem Qk(R:List aK):Bt (R.map (·.toks))=jm R:=by
 cases h:jm R with
 |true=>exact (Fa _).2 (T9 R h)
 |false=>
  cases h2:Bt (R.map (·.toks)) with
  |false=>rfl
  |true=>
   rw[BO R ((Fa _).1 h2)] at h;cases h
theorem Qi(h:c∉gm):aN c=false:=by
 unfold aN
 cases hc:gm.contains c with
 |false=>rfl
 |true=>exact absurd (List.contains_iff_mem.1 hc) h
theorem Jd{P:UInt8->Prop}(h:P c)(hb:∀b∈gm,¬P b):aN c=false:=Qi fun hm=>hb c hm h
theorem zU:∀(l:Bs),∀c∈l.take (bN l),aN c=false
 |[],c,h=>by simp at h
 | d::l,c,h=>by
  rw[bN] at h;split at h
  .next hd=>
   rw[cN] at h;rcases cL.1 h with rfl|h
   .exact Jd (P:=fun c=>dg c=true) hd (by decide)
   .exact zU l c h
  .simp at h
theorem wE{b:Nat}(h:c∈l.take (a+b)):c∈l.take a\/c∈(l.drop a).take b:=by
 rw[od] at h;exact cX.1 h
theorem Sa(l:Bs):∀c∈l.take (oN l),aN c=false:=by
 cases l with
 |nil=>intro c h;simp at h
 |cons d l=>
  intro c h;rw[oN] at h;split at h
  .next b=>
   simp at h
   subst h;rcases b with rfl|rfl<;>decide
  .simp at h
theorem Tq(l:Bs):∀c∈l.take (dm l),aN c=false:=by
 cases l with
 |nil=>intro c h;simp at h
 |cons d l=>
  intro c h;rw[dm] at h;split at h
  .next a=>
   rw[eV 1,cN] at h;rcases cL.1 h with rfl|h
   .rw[a.1];decide
   .exact zU l c h
  .simp at h
theorem Uu(l:Bs):∀c∈l.take (jl l),aN c=false:=by
 cases l with
 |nil=>intro c h;simp at h
 |cons d l=>
  intro c h;rw[jl] at h;split at h
  .next b=>
   rw[kO,eV 1,cN] at h;rcases cL.1 h with rfl|h
   .rcases b.1 with e|e<;>(rw[e];decide)
   .rcases wE h with h|h
    .exact Sa l c h
    .exact zU _ c h
  .simp at h
theorem UA(l:Bs):∀c∈l.take (dB l),aN c=false:=by
 intro c h;unfold dB at h;split at h
 .simp at h
 .rcases wE h with h|h
  .rcases wE h with h|h
   .cases l with
    |nil=>simp at h
    |cons d l=>
     rw[nC] at h;split at h
     .next a=>simp at h;rw[h,a];decide
     .simp at h
   .generalize l.drop (nC l)=q at h
    cases q with
    |nil=>simp at h
    |cons d q=>
     rw[fH] at h;split at h
     .next a=>simp at h;rw[h,a];decide
     .exact zU _ c h
  .unfold gX at h
   rcases wE h with h|h
   .exact Tq _ c h
   .exact Uu _ c h
theorem Cs:∀(k:Nat) (l:List Nat),l.length<=k->yP l->(bT l).2.2=0->(l.take (bT l).2.1).getLast?=aw 34
 | k,l,hk,hl,h=>by
  by_cases h34:l.head?=aw 34
  .have e:(bT l).2.1=1:=by rw[dx hl,E4 h34]
   rw[e]
   cases l with
   |nil=>cases h34
   |cons c r=>simpa using h34
  .have b:(ax l).2.2=0:=by
    refine eE fun hn=>?_;rw[dx hl,E6 h34,E4 hn] at h;exact hn h
   obtain⟨_,_,_,j,q⟩:=lu hl b
   have f:(bT (l.drop (ax l).2.1)).2.2=0:=by
    refine eE fun hn=>?_;rw[dx hl,E6 h34,E6 (by simp[b]),E4 hn] at h;exact hn h
   have e:(bT l).2.1=(ax l).2.1+(bT (l.drop (ax l).2.1)).2.1:=by
    rw[dx hl,E6 h34,E6 (by simp[b]),E6 (by simp[f])]
   cases k with
   |zero=>omega
   |succ k=>
    have i:=Cs k (l.drop (ax l).2.1) (by simp;omega) (hl.drop _) f;rw[e,od,List.getLast?_append,i];rfl
theorem JL{l:List Nat}(k:yP l)(h:(aW l).2.2=0):(l.take (aW l).2.1).getLast?=aw 34:=by
 cases l with
 |nil=>simp[aW,aJ] at h
 |cons c r=>
  have i:c=34:=by
   refine eE fun hn=>?_;rw[aW,E4 hn] at h;simp[aJ] at h
  have e:aW (c::r)=ig [] 1 (bT r):=by rw[aW,E6 (by simpa using i)]
  have d:(bT r).2.2=0:=by
   refine eE fun hn=>?_;rw[e,ig,E4 hn] at h;exact hn h
  have j:=Cs r.length r lz (fun x hx=>k x (by simp[hx])) d;have f:(aW (c::r)).2.1=1+(bT r).2.1:=by rw[e,ig,E6 (by simp[d])]
  rw[f,eV 1,cN,List.getLast?_cons,j];rfl
theorem MW{u w:Bs}(h:iu u gm=u)(e:u=w++[b]):aN b=false:=by
 cases hb:aN b with
 |false=>rfl
 |true=>
  exfalso
  have q:=congrArg fh h;unfold iu at q;rw[e,List.reverse_append,List.reverse_singleton,List.singleton_append,List.dropWhile_cons_of_pos (by exact hb),o0,cm,eh] at q;have:=(List.dropWhile_sublist (p:=(gm.contains ·)) (l:=w.reverse)).length_le;rw[o0] at this;omega
theorem QE{w:Bs}(e:l=(w++[b])++rest)(a:n=(w++[b]).length):b∈l.take n:=by
 rw[e,a,fl];simp
theorem NU{r w:Bs}(h:dY ((c::r)++rest)=.tok k (c::r).length)(Q:aN c=false)(h5:k≠5)(e:c::r=w++[b]):aN b=false:=by
 rw[cf,dY] at h;split at h
 .next hl=>
  injection h with _ h
  have hi:uF (r++rest)=r.length:=by simp at h;omega
  have Ac:∀(q s:Bs),uF (q++s) ≥ q.length->∀x∈q,Ky x=true:=by
   intro q
   induction q with
   |nil=>intro s _ x v;cases v
   |cons d q ih=>
    intro s B x v;rw[cf,uF] at B;split at B
    .next C=>
     rcases cL.1 v with rfl|v
     .exact C
     .exact ih s (by simp at B;omega) x v
    .simp at B
  have u:b∈c::r:=by rw[e];simp
  rcases cL.1 u with rfl|u
  .exact Q
  .exact Jd (P:=fun c=>Ky c=true) (Ac r rest (by omega) b u) (by decide)
 split at h
 .unfold nA at h
  split at h
  .injection h with _ h
   exact UA _ b (QE (w:=w) (rest:=rest) (by rw[<-e]) (by rw[<-e];exact h))
  .cases h
 split at h
 .unfold oG at h
  split at h
  .next D=>
   injection h with _ h
   have Aa:=JL (gN _) D;rw[h,<-cf,e] at Aa
   have M:(nb ((w++[b])++rest)).take (w++[b]).length=nb w++[b.toNat]:=by
    rw[vN,vN];have:(w++[b]).length=(nb w++nb [b]).length:=by simp[kr]
    rw[this,fl];rfl
   rw[M,List.getLast?_concat] at Aa;have:b.toNat=34:=dt Aa;have:b=34:=UInt8.toNat_inj.1 this;rw[this];decide
  .cases h
 split at h
 .injection h with h _
  exact absurd h.symm h5
 split at h
 .unfold gp at h
  split at h
  .cases h
  .injection h with _ h
   rw[<-cf] at h;obtain⟨I,X,O,-⟩:=AY (t:=c::r) (rest:=rest) h.symm;obtain⟨ws,-,-,K⟩:=ym (c::r);rw[O] at K;exact MW K e
 split at h
 .unfold eT at h
  split at h
  .cases h
  .next n J=>
   split at h
   .cases h
   .unfold gp at h
    split at h
    .cases h
    .injection h with _ h
     have Ag:=oZ _ _ J;obtain⟨-,Ab⟩:=yH _ _ J;rw[c8] at h;rw[bm] at Ag;have Ah:(c::r).length=n+4:=by omega
     rw[sd,<-cf,e] at Ab
     have hi:2+(n+1)=w.length:=by
      have:=congrArg fh e;rw[cm,eh] at this;omega
     rw[hi,ef,eK lz,Nat.sub_self] at Ab;have:b=47:=dt Ab;rw[this];decide
 split at h
 .cases h
 .injection h with _ h
  unfold CU at h;split at h
  .next C=>
   obtain⟨d,Ae,Ad⟩:=vi.1 C;have R:=List.isPrefixOf_iff_prefix.1 Ad;obtain⟨z,V⟩:=R;have Ad:∀d∈mq,d.length=2:=by decide
   have Af:=Ad d Ae
   have D:c::r=d:=by
    have q:=congrArg (List.take 2) V;rw[<-Af,fl,Af,h,<-cf,fl] at q;exact q.symm
   have u:b∈d:=by rw[<-D,e];simp
   have:∀d∈mq,∀b∈d,aN b=false:=by decide
   exact this d Ae b u
  .have I:(c::r).length=1:=by
    simp only at h;split at h<;>simp at h ⊢<;>omega
   have S:r=[]:=cC (by simpa using I);subst S;have:=List.append_inj' (s₁:=[]) (t₁:=[c]) e rfl;rw[<-(rr this.2).1];exact Q
theorem MX{t:ae}(h:xP t)(p:t.kind≠5){w:Bs}(e:kG t=w++[b]):aN b=false:=by
 obtain⟨c,r,Aa,k,g,i,j,f⟩:=h;rw[g] at f e;exact NU f i (by intro q;exact p (by rw[j,q];rfl)) e
open Go.RowKit Go.Tab
theorem TU(L:List (List ae)):∀(g:Nat) (v:Bs) (p:Nat),uP L v (p+g)=true->(g=0\/Df v=false)->uP L (iR g++v) p=true
 |0,v,p,h,_=>h
 | g+1,v,p,h,hn=>by
  have hv:=hn.resolve_left (by omega);have ih:=TU L g v (p+1) (by rw[kO,eV 1];exact h) (.inr hv)
  have e:Df (iR g++v)=false:=by
   cases g with
   |zero=>exact hv
   |succ g=>rfl
  show uP L (32::(iR g++v)) p=true;rw[uP,ih,e];simp
theorem PU(L:List (List ae)):∀(u v:Bs) (p:Nat),uP L v (p+u.length)=true->(∀i,i<u.length->L8 L (p+i)=true)->10∉u->(∀w b,u=w++[b]->aN b=false)->uP L (u++v) p=true
 |[],v,p,h,_,_,_=>h
 | c::u,v,p,h,hi,hn,hl=>by
  have ih:=PU L u v (p+1) (by rw[kO,eV 1];exact h) (fun i h=>by have:=hi (i+1) (by simp;omega);rw[kO,eV 1];exact this) (fun hm=>hn (fi _ hm)) (fun w b e=>hl (c::w) b (by rw[e];rfl));have h0:=hi 0 (by simp);rw[Nat.add_zero] at h0
  have e:(aN c&&Df (u++v))=false:=by
   cases u with
   |nil=>rw[hl [] c rfl];rfl
   |cons d u=>
    have:Df (d::u++v)=false:=by
     show decide (d=10)=false;exact decide_eq_false fun e=>hn (by rw[e];simp)
    rw[this,Bool.and_false]
  rw[cf,uP,ih,e,h0];rfl
theorem Vl(L:List (List ae)){v:Bs}{p:Nat}(h:uP L v (p+1)=true):uP L (10::v) p=true:=by
 rw[uP,h,show aN 10=false by decide];simp
theorem Ph(t:ae):(kG t).length=t.text.size:=aM t.text
def U7(L:List (List ae))(t:ae):Prop:=xP t/\t.kind≠5/\∀i:Nat,Jp i t=true->L8 L i=true
theorem PM{L:List (List ae)}{l:Bs}{hi:Int}:∀(toks:List ae) (fr:Nat) (v:Bs),CE l hi fr toks->uP L v hi.toNat=true->(∀i,i<toks.length->∃k,(eX l hi fr toks)[i]?=aw (iR k))->(eX l hi fr toks)[toks.length]?=aw []->
  10∉uD (eX l hi fr toks) toks->(∀t∈toks,U7 L t)->uP L (uD (eX l hi fr toks) toks++v) fr=true
 | [],fr,v,hk,hv,_,h0,_,_=>by
  have e:kQ l fr hi=[]:=by
   simpa [eX] using h0
  have Aa:=sK hk.1 hk.2.1 hk.2.2.1;rw[e] at Aa;have A:hi.toNat=fr:=by simp at Aa;omega
  rw[A] at hv;show uP L (kQ l fr hi++v) fr=true;rw[e];exact hv
 | t::r,fr,v,hk,hv,hg,h0,hn,ht=>by
  obtain⟨k1,k2,F,-,x⟩:=hk;obtain⟨p,B⟩:∃p:Nat,t.pos=(p:Int):=⟨t.pos.toNat,by omega⟩;obtain⟨g,Ac⟩:=hg 0 (by simp);have q:kQ l fr t.pos=iR g:=by simpa [eX] using Ac
  have Aa:=sK k1 k2 F;rw[q] at Aa
  have Ad:fr+g=p:=by
   have:(iR g).length=g:=by unfold iR;simp
   rw[this] at Aa;omega
  obtain⟨z,H,I⟩:=ht t (by simp);have j:t.pos+(t.text.size:Int)=((p+t.text.size:Nat):Int):=by omega
  rw[eX,uD,q,j] at hn ⊢;rw[eX,j] at hg h0;rw[j] at x;have Ab:10∉kG t:=fun hm=>hn (vh _ (List.mem_append_left _ hm))
  have C:=PM r (p+t.text.size) v x hv (fun i hi'=>by
   obtain⟨k,e⟩:=hg (i+1) (by simp;omega)
   exact⟨k,by simpa using e⟩) (by simpa using h0) (fun hm=>hn (vh _ (vh _ hm))) (fun u hu=>ht u (by simp[hu]))
  rw[ef,ef];refine TU L g _ fr ?_ (.inr ?_)
  .rw[Ad]
   refine PU L (kG t) _ p (by rw[Ph];exact C) (fun i hi'=>I (p+i) ?_) Ab (fun w b e=>MX z H e);rw[Ph] at hi';unfold Jp;rw[B,decide_eq_true (by omega),decide_eq_true (by omega)];rfl
  .obtain⟨c,u,Ae,k,o,-⟩:=z
   rw[o];exact decide_eq_false fun e=>Ab (by rw[o,e];simp)
structure V7(L:List (List ae))(l:Bs)(r:aK):Prop where
 in_:lY l r
 gap:∀j,j<r.toks.length->∃k,lQ l r j=iR k
 tail:lQ l r r.toks.length=[]
 tok:∀t∈r.toks,U7 L t
theorem Li{L:List (List ae)}{l:Bs}:∀(ls:List Bs) (pre:Bs) (o:Int),l=pre++q9 ls->(∀a∈ls,10∉a)->(∀r∈kH ls pre.length o,V7 L l r)->uP L (q9 ls) pre.length=true
 |[],_,_,_,_,_=>rfl
 | a::ls,pre,o,hl,hn,hr=>by
  have e:q9 (a::ls)=a++10::q9 ls:=by unfold q9;rw[fb];simp
  rw[e] at hl ⊢;rw[kH] at hr;have v:(pre++(a++[10])).length=pre.length+a.length+1:=by simp;omega
  have A:=Li ls (pre++(a++[10])) (dn o (aC a pre.length).1) (by rw[hl];simp) (fun b hb=>hn b (by simp[hb])) (fun r h=>hr r (by rw[v] at h;exact fi _ h));rw[v] at A;have h:=hr _ (pN ..);obtain⟨q,u,z,c1,B,E,c⟩:=h.in_.cut;simp only[mo] at B E
  have I:q=pre/\u++z=a++10::q9 ls:=by
   have:=List.append_inj (c1.symm.trans hl) (by omega);exact this
  have F:u=a:=(List.append_inj I.2 (by omega)).1;rw[F] at c
  have Aa:=PM (L:=L) (l:=l) (mo o (aC a pre.length).1 (pre.length:Nat) ((pre.length+a.length:Nat):Int)).toks pre.length (10::q9 ls) h.in_.seg (Vl L A) (fun i hi=>by
   obtain⟨k,G⟩:=h.gap i hi
   exact⟨k,by rw[<-G];exact kX l _ i (by omega)⟩) (by rw[<-h.tail];exact kX l _ _ lz) (by
   have:uD (eX l ((pre.length+a.length:Nat):Int) (pre.length:Nat) (aC a pre.length).1) (aC a pre.length).1=a:=c;show 10∉uD (eX l ((pre.length+a.length:Nat):Int) (pre.length:Nat) (aC a pre.length).1) (aC a pre.length).1;rw[this]
   exact hn a (by simp)) h.tok
  have x:uD (eX l ((pre.length+a.length:Nat):Int) (pre.length:Nat) (aC a pre.length).1) (aC a pre.length).1=a:=c;rw[<-x]
  simpa [mo,x] using Aa
theorem TV{L:List (List ae)}:∀(q:Bs) (p i:Nat) (h:i<q.length),uP L q p=true->aN q[i]=true->Df (q.drop (i+1))=false
 |[],_,_,h,_,_=>by simp at h
 | c::q,p,0,_,h,hb=>by
  rw[uP,cP] at h;have h1:=h.1;simp only[eg] at hb;rw[hb] at h1
  simpa using h1
 | c::q,p,i+1,hi,h,hb=>by
  rw[uP,cP,cP] at h;exact TV q (p+1) i (by simpa using hi) h.2.2 (by simpa using hb)
theorem Dy(l:Bs):∀(ls:List Bs) (pre:Bs) (o:Int),l=pre++q9 ls->∀r∈kH ls pre.length o,Df (l.drop r.hi.toNat)=true
 |[],_,_,_,r,hr=>by cases hr
 | a::ls,pre,o,hl,r,hr=>by
  have e:q9 (a::ls)=a++10::q9 ls:=by unfold q9;rw[fb];simp
  rw[e] at hl;rw[kH] at hr;rcases cL.1 hr with rfl|hr
  .simp only[mo]
   have b:l=(pre++a)++10::q9 ls:=by rw[hl];simp
   have c:((pre.length+a.length:Nat):Int).toNat=(pre++a).length:=by simp;omega
   rw[c,b,List.drop_left];rfl
  .refine Dy l ls (pre++(a++[10])) (dn o (aC a pre.length).1) (by rw[hl];simp) r ?_
   have b:(pre++(a++[10])).length=pre.length+a.length+1:=by simp;omega
   rw[b];exact hr
theorem Gw{l:Bs}{hi:Int}:∀(toks:List ae) (fr:Int),CE l hi fr toks->∃a:Int,0<=a/\a<=hi/\hi<=l.length/\RP (kQ l a hi)/\(eX l hi fr toks)[toks.length]?=aw (kQ l a hi)
 |[],fr,h=>⟨fr,h.1,h.2.1,h.2.2.1,h.2.2.2,rfl⟩
 | t::r,fr,h=>by
  obtain⟨a,q⟩:=Gw r _ h.2.2.2.2;exact⟨a,q⟩
theorem Sb{L:List (List ae)}(h:lY l r)(C:Df (l.drop r.hi.toNat)=true)(F:uP L l 0=true):lQ l r r.toks.length=[]:=by
 obtain⟨a,D,E,G,u,c⟩:=Gw r.toks r.lo h.seg;rw[kX l r _ lz] at c;rw[dt c];rcases Int.lt_or_le a r.hi with A|x
 .exfalso
  obtain⟨n,q⟩:∃n:Nat,r.hi=((n+1:Nat):Int):=⟨(r.hi-1).toNat,by omega⟩;have Aa:n<l.length:=by omega
  have B:l[n]∈kQ l a r.hi:=by
   rw[q];unfold kQ;rw[eL];have v:n-a.toNat<((l.take (n+1)).drop a.toNat).length:=by rw[bm,c8];omega
   have e:((l.take (n+1)).drop a.toNat)[n-a.toNat]=l[n]:=by
    rw[List.getElem_drop,List.getElem_take]
    congr 1
    omega
   rw[<-e];exact cH v
  have:=TV l 0 n Aa F (u _ B);rw[q,eL] at C;rw[C] at this;cases this
 .obtain rfl:a=r.hi:=by omega
  unfold kQ;rw[fg (by rw[c8];omega)]
theorem Hy:∀(l:List Bool) (i:Int),fM l i=[]↔∀b∈l,b=true
 |[],_=>⟨fun _ b h=>(by cases h),fun _=>rfl⟩
 | b::l,i=>by
  rw[fM]
  cases b with
  |true=>simpa using Hy l (i+1)
  |false=>simp
theorem sH{l:Bs}:∀R:List aK,jB l R=true↔∀r∈R,jd l r=true
 |[]=>⟨fun _ r h=>(by cases h),fun _=>rfl⟩
 |r::R=>by rw[jB,cP,sH R];simp
theorem vG{l:Bs}:∀R:List aK,l9 l R=true↔∀r∈R,iZ l r (r.toks.length-1) 1=true
 |[]=>⟨fun _ r h=>(by cases h),fun _=>rfl⟩
 |r::R=>by rw[l9,cP,vG R];simp
theorem AC(F:(aT l).2.2=0)(B:qW l=true)(hl:l.length<=1000000):(∀r∈aA l,xR l r/\Df (l.drop r.hi.toNat)=true/\lS r.toks/\(∃n k,sV n (dX r.toks) k)/\∀t∈r.toks,U7 (jG l) t)/\CL 0 (aA l):=by
 obtain⟨c,x,U,-⟩:=iD F;obtain⟨N,c1,O,Z⟩:=xI l B;have Q:aA l=kH N 0 0:=by rw[fK c,c1,ko]
 have j:=GD F B;have E:=Lu F B hl;have M:=Dy l N [] 0 (by rw[cM];exact O);rw[cY,<-Q] at M;have Aa:=nW c;have P:=AJ _ [bR] (by simp) (by rw[U];rfl);refine⟨fun r hr=>⟨⟨j.1 r hr,(E r hr).1,(E r hr).2⟩,M r hr,Aa r hr,P _ (gw hr),fun t ht=>⟨?_,?_,fun i hi=>?_⟩⟩,j.2⟩
 .have g:r.toks∈jG l:=by rw[mD];exact gw hr
  unfold jG at g;rw[E4 c] at g;exact tY l.length l 0 lz t ((tJ _ _ _ _ g t ht).resolve_left (fun e=>by cases e))
 .exact GG l r.toks (gw hr) t ht
 .unfold L8
  rw[vi];exact⟨r.toks,by rw[mD];exact gw hr,vi.2 ⟨t,ht,hi⟩⟩
theorem sN(P:(aT l).2.2=0)(Z:l.length<=1000000):lJ l=[]↔K4 l:=by
 unfold lJ;rw[E4 P,Hy];unfold Az;simp only[List.forall_mem_cons,List.not_mem_nil,false_implies,implies_true,and_true];constructor
 .rintro⟨e1,V,u,f,q,x,E⟩
  obtain⟨a,M⟩:=AC P e1 Z;rw[mD] at u f q x E;rw[Mm] at u;rw[FB _ 0 (fun r hr=>(a r hr).1) M] at f;rw[EK _ (fun r hr=>(a r hr).1)] at q;have f:=(sH _).1 f;have q:=(vG _).1 q
  rw[KY _ _ _ (fun r hr=>⟨(a r hr).1,fun i he hg=>by
   obtain⟨n,k,O⟩:=(a r hr).2.2.2.1
   exact Rl (a r hr).1.in_ (a r hr).2.2.1 O (f r hr) (q r hr) he hg⟩)] at x
  rw[Qk] at E;exact⟨e1,fun r hr=>Sb (a r hr).1.in_ (a r hr).2.1 V,u,f,q,x,E⟩
 .intro h
  obtain⟨a,M⟩:=AC P h.nl Z;obtain⟨S,c1,Q,U⟩:=xI l h.nl;have W:=(iD P).1;have X:aA l=kH S 0 0:=by rw[fK W,c1,ko]
  refine⟨h.nl,?_,?_,?_,?_,?_,?_⟩
  .have:=Li (L:=jG l) (l:=l) S [] 0 (by rw[cM];exact Q) U (fun r hr=>by
    rw[cY,<-X] at hr
    exact⟨(a r hr).1.in_,fun j hj=>Gi h hr hj,h.tail r hr,(a r hr).2.2.2.2⟩)
   rw[<-Q] at this;exact this
  .rw[mD,Mm];exact h.emp
  .rw[mD,FB _ 0 (fun r hr=>(a r hr).1) M];exact (sH _).2 h.ind
  .rw[mD,EK _ (fun r hr=>(a r hr).1)];exact (vG _).2 h.spc
  .rw[mD,KY _ _ _ (fun r hr=>⟨(a r hr).1,fun i he hg=>by
    obtain⟨n,k,O⟩:=(a r hr).2.2.2.1
    exact Rl (a r hr).1.in_ (a r hr).2.2.1 O (h.ind r hr) (h.spc r hr) he hg⟩)]
   exact h.aln
  .rw[mD,Qk];exact h.jn
theorem O5:∀{a b:List ae},m0 a=m0 b->nQ a=nQ b
 |[],[],_=>rfl
 |[],_::_,h=>by cases h
 |_::_,[],h=>by cases h
 | t::a,u::b,h=>by
  obtain⟨h1,h2⟩:=rr h
  have e:t.text=u.text:=by
   show (n0 t).text=(n0 u).text;rw[h1]
  rw[kS,kS,O5 (a:=a) (b:=b) h2];unfold kG;rw[e]
theorem Ju(b:(aT l).2.2=0)(h:K4 l):di ((aA l).map (·.toks))=(aA l).map wB:=by
 have a:=(GD b h.nl).2;have:=Fe (aA l).length false (aA l) 0 aq lz a h.emp h.jn (fun e=>by cases e) (fun p e=>by cases e);unfold di;rw[cW];exact this
theorem MZ(q:(aT l).2.2=0){T:Bs}(k:T=iC ((aA l).map (·.toks))):∀d∈aA T,nQ d.toks<=2*l.length:=by
 intro d f;have c:=(Du q).2;rw[<-k] at c;obtain⟨x,j,Aa⟩:=c.mem d f;rw[O5 Aa.t];have g:=(nR ((aA l).map (·.toks))).2;have Ab:x.2∈di ((aA l).map (·.toks)):=by rw[<-g];exact gw j
 have:=(wC ((aA l).map (·.toks))).1 x.2 Ab;have:=(mH l).1;omega
theorem M5(s:E7)(w:cd)(x:jF w)(N:s.size<=1500)(j:(aT s.data.toList).2.2=0) :
  cJ bh 5 #[al (au (bU s.data.toList).1)] w fun e w'=>e=bk (.tuple #[al (au (bU s.data.toList).1),ao ar (-1),ao ar 0])/\cj w.heap.size w w':=by
 have J:=aM s;have e:(bU s.data.toList).1=iC ((aA s.data.toList).map (·.toks)):=by unfold bU;rw[E4 j]
 obtain⟨q,t2,E⟩:=vz j;have Af:=Ag j (by omega);have Ac:=MZ j e;rw[<-e] at Af;generalize (bU s.data.toList).1=T at *;have Ai:(au T).size=T.length:=by show T.toArray.size=_;simp
 have K:=mH T;have Ad:=Ju q t2;have Ah:=xV q t2;have Ae:=rU q;have Aa:∀d∈aA T,d.toks.length<=3000:=fun d hd=>by have:=Ac d hd;have:=ED d.toks;omega
 have h:=Ak (au T) w x x.tabB (by omega) (by rw[aV];omega) (by rw[aV];exact fun r hr=>by have:=Aa r hr;omega) (by
  rw[aV];intro _;refine⟨fun r hr=>?_,by rw[<-Ah];omega,by rw[Ad,cW];omega⟩;have hd:=Ae r hr;rw[Ad] at hr;obtain⟨d,Ab,rfl⟩:=j8.1 hr;have I:=Ac d Ab;refine⟨⟨hd.1,by omega⟩,by have:=Aa d Ab;show d.toks.length<=_;omega,?_⟩;have:=qL (wB d).toks (wB d).ind;have G:nQ (wB d).toks=nQ d.toks:=rfl;unfold aB.ind at this ⊢
  omega)
 rw[aV,E] at h;exact h
open Go.RowKit Go.Tab Go.ChangeShapes
section
variable {H:Type} {enc:ff×cq->H} {W:cd} {base:Nat} {spare:Nat->Bool} {held:Bool}
end
open Go.RowKit Go.Tab
theorem OG(s:E7)(w:cd)(N:jF w)(O:s.size<=800000)(L:(aA s.data.toList).length<=1000000)(K:(aT s.data.toList).2.2=0->∀r∈aA s.data.toList,RY s.data.toList r) :
  cJ bh 8 #[al s] w fun e w'=>e=bk (ao ar (FT s.data.toList))/\cj w.heap.size w w':=by
 have H:=KU s w N O L K;have u:Hid (FT s.data.toList=(nG s.data.toList).head?.getD 0):=Hh rfl;generalize nG s.data.toList=E at *;clear K L;go_in;go_wp2_with fail;refine H.mono ?_;rintro _ M ⟨v,rfl,f,k⟩;clear H;have q:=Hh k;obtain⟨P,Q,rfl,-⟩:=f.row.len;have J:=Hh f.row;clear f k;go_wp2;go_loopw [8] (fun i wr=>i=ao ar 0/\wr=M) (fun i _=>0)
 .exact⟨rfl,rfl⟩
 obtain⟨rfl,rfl⟩:=hrel
 cases E with
 |nil=>
  go_wp2;go_ret;rw[u.out];exact⟨rfl,q.out⟩
 |cons x E=>
  obtain⟨b,Ac,rfl,Ab,I⟩:=J.out.at (j:=0) (by simp);have Aa:=I 0 (by simp);simp only[Nat.add_zero,eg] at Aa;have e1:(0:Int)<(((x::E).length:Nat):Int):=by simp
  clear I;go_wp2;go_ret;rw[u.out];exact⟨rfl,q.out⟩
def Iz(s:E7):Bool:=decide ((bU s.data.toList).2.2=0)&&decide (au (bU s.data.toList).1=s)
theorem JD(s:E7)(w:cd)(B:jF w)(H:s.size<=4500):cJ bh 6 #[al s] w fun e w'=>e=bk (cG (Iz s))/\cj w.heap.size w w':=by
 have j:=Ah s w B H;have f:Hid (Iz s=(decide ((bU s.data.toList).2.2=0)&&decide (au (bU s.data.toList).1=s))):=Hh rfl;generalize bU s.data.toList=X at *;obtain⟨v,C,q⟩:=X;simp only at j f;generalize au v=k at *;clear B;go_in;go_wp2_with fail;refine j.mono ?_;clear j;rintro _ I ⟨rfl,c⟩;have Ab:=Hh c;clear c;have G:=pY k s;generalize decide (k=s)=x at *
 by_cases i:q=0
 .subst i
  have Aa:Hid (Iz s=x):=Hh (by rw[f.out];rfl);go_wp2;go_ret;rw[Aa.out];exact⟨rfl,Ab.out⟩
 .have E:(q==0)=false:=by rw[Fc];exact i
  have Aa:Hid (Iz s=false):=Hh (by rw[f.out,decide_eq_false i];rfl);go_wp2;go_ret;rw[Aa.out];exact⟨rfl,Ab.out⟩
theorem M7(h:(aT l).2.2≠0):bU l=([],(aT l).2.1,(aT l).2.2):=by
 unfold bU;rw[E6 h]
theorem Aj(h:(aT l).2.2=0):bU l=((bU l).1,-1,0):=by
 unfold bU;rw[E4 h]
theorem Nb(h:au l=s):l=s.data.toList:=by
 rw[<-h,aV]
theorem Nc(s:E7):au s.data.toList=s:=by
 show (⟨s.data.toList.toArray⟩:E7)=s;simp
theorem MS(f:(aT s.data.toList).2.2=0)(k:s.size<=1500):decide ((lJ s.data.toList).length=0)=decide (au (bU s.data.toList).1=s):=by
 have j:=aM s;have e:(bU s.data.toList).1=iC ((aA s.data.toList).map (·.toks)):=by unfold bU;rw[E4 f]
 refine decide_eq_decide.2 ⟨fun h=>?_,fun h=>?_⟩
 .have g:=(sN f (by omega)).1 (cC h)
  rw[e,<-xV f g];exact Nc s
 .have i:=Nb h
  have g:=(vz f).2.1;rw[i] at g;rw[(sN f (by omega)).2 g];rfl
theorem M3(c:(aT s.data.toList).2.2=0)(i:s.size<=1500):lJ (bU s.data.toList).1=[]/\FT (bU s.data.toList).1=0/\(bU s.data.toList).1.length<=750000/\((aT (bU s.data.toList).1).2.2=0->∀r∈aA (bU s.data.toList).1,RY (bU s.data.toList).1 r):=by
 have f:=aM s;have e:(bU s.data.toList).1=iC ((aA s.data.toList).map (·.toks)):=by unfold bU;rw[E4 c]
 have Aa:=Ag c (by omega);rw[<-e] at Aa;obtain⟨b,t2,-⟩:=vz c;refine⟨(sN b (by omega)).2 t2,?_,Aa,fun _ r hr=>(Lu b t2.nl (by omega) r hr).1⟩;unfold FT;rw[Gj b t2];rfl
theorem TidyWell_walk(x:E7)(w:cd)(w0:x.size<=cV)(hT:jF w) :
  cJ bh 3 #[al x] w fun e w'=>e=bk (cG true)/\cj w.heap.size w w':=by
 have hW:=Gl w hT;unfold cV at w0;go_in;go_wp2_with fail;refine hW.mono ?_;clear hW;rintro _ O ⟨rfl,M⟩;have Af:=Hh (hT.below M);have Ab:=Hh M;clear M hT
 by_cases h0:1500<x.size
 .go_wp2
  go_ret;exact⟨rfl,Ab.out⟩
 have L:=Ah x O Af.out (by omega);have E:=Hh (fun W (h:cj O.heap.size O W)=>JD x W (Af.out.below h) (by omega))
 by_cases K:(aT x.data.toList).2.2=0
 .have Ag:=Hh (fun W (h:cj O.heap.size O W)=>M5 x W (Af.out.below h) (by omega) K)
  obtain⟨n1,n2,n3,n4⟩:=M3 K (by omega);have Aq:=fun W=>uQ x W (by omega);have Ar:=MS K (by omega)
  have Ae:Iz x=decide (au (bU x.data.toList).1=x):=by
   unfold Iz;rw[Aj K];rfl
  rw[Ae] at E;rw[Aj K] at L;simp only at L
  have An:(au (bU x.data.toList).1).size<=800000:=by
   have:(au (bU x.data.toList).1).size=(bU x.data.toList).1.length:=by show (bU x.data.toList).1.toArray.size=_;simp
   omega
  have Am:=fun W=>uQ (au (bU x.data.toList).1) W An;rw[aV,n1] at Am;have Ad:=Hh (fun W (h:cj O.heap.size O W)=>OG (au (bU x.data.toList).1) W (Af.out.below h) An (by rw[aV];have:=(mH (bU x.data.toList).1).2.1;omega) (by rw[aV];exact n4));rw[aV,n2] at Ad;have et:=pY (au (bU x.data.toList).1) x;have As:=pY x (au (bU x.data.toList).1);have e3:decide (x=au (bU x.data.toList).1)=decide (au (bU x.data.toList).1=x):=decide_eq_decide.2 ⟨fun h=>h.symm,fun h=>h.symm⟩;rw[e3] at As;generalize au (bU x.data.toList).1=S1 at *;generalize decide (S1=x)=bt at *;generalize lJ x.data.toList=E1 at *
  have eN:((E1.length:Int)==0)=bt:=by
   rw[<-Ar]
   by_cases h:E1.length=0
   .rw[h];rfl
   .rw[decide_eq_false h,Fc];omega
  have es:(S1.toList==S1.toList)=true:=by simp
  clear n1 n2 n3 n4 Ar Ae e3 K An;go_wp2_with fail;refine L.mono ?_;clear L;rintro _ v2 ⟨rfl,B⟩;have Ac:=Hh B;have Ag:=Ag.out v2 B;clear B;go_wp2_with fail;refine Ag.mono ?_;clear Ag;rintro _ v3 ⟨rfl,P⟩;have Ao:=Hh (av Ac.out P);clear P Ac;go_wp2_with fail;refine (Aq _).mono ?_;clear Aq;rintro _ v4 ⟨x1,rfl,ho1,R⟩;have Ap:=Hh (av Ao.out R);obtain⟨oa,oc,rfl,-⟩:=ho1.row.len;clear R Ao ho1;go_wp2_with fail;refine (Am _).mono ?_;clear Am;rintro _ v5 ⟨x2,rfl,ho2,X⟩;have Ai:=Hh (av Ap.out X);obtain⟨pa,pc,rfl,-⟩:=ho2.row.len;have Ad:=Ad.out v5 Ai.out;clear X Ap ho2;simp only[cY];go_wp2_with fail;refine Ad.mono ?_;clear Ad;rintro _ v6 ⟨rfl,Z⟩;have Ak:=Hh (av Ai.out Z);have E:=E.out v6 Ak.out;clear Z Ai;go_wp2_with fail;refine E.mono ?_;clear E;rintro _ v7 ⟨rfl,C⟩;have Al:=Hh (Ab.out.trans ((av Ak.out C).mono Ab.out.size));clear C Ak;cases bt
  all_goals
   go_wp2;go_ret;exact⟨rfl,Al.out⟩
 .have Aa:=M7 K
  have Ae:Iz x=false:=by
   unfold Iz;rw[Aa,decide_eq_false K];rfl
  rw[Ae] at E;rw[Aa] at L;simp only at L;generalize (aT x.data.toList).2.1=p at *;generalize (aT x.data.toList).2.2=er at *;rw[show au []=⟨#[]⟩ from rfl] at L;have At:(er != 0)=true:=by simpa using K
  clear Aa Ae K;go_wp2_with fail;refine L.mono ?_;clear L;rintro _ v2 ⟨rfl,B⟩;have Ac:=Hh B;have E:=E.out v2 B;clear B;go_wp2_with fail;refine E.mono ?_;clear E;rintro _ v7 ⟨rfl,C⟩;have Al:=Hh (Ab.out.trans ((av Ac.out C).mono Ab.out.size));clear C Ac;go_wp2;go_ret;exact⟨rfl,Al.out⟩
end Go.Proofs.YtgmpmolfcaihfaaGreatDoor
namespace Go.Tab
open Go.Lib
variable{held:Bool}{p:List MemPlace}{cs:List cq}{base fuel g m n:Nat}{sp:Nat->Bool}{P:oR}{name:String}{H:Type}{e t:ff}{W w:cd}
def sZ(P:oR)(W:cd)(n:String)(d:zp Unit):Prop:=
 ∃g t cs fuel p,P.globalNamed n=aw g/\(P.globals[g]?).map (·.type)=aw t/\W.var? P n=aw cs/\tI (fun _=>()) P W 0 (fun _=>true) false fuel t cs.toList=aw (d,p)
theorem DY{P:oR}{W:cd}:∀{L:List (String×zp Unit)} {ps:List MemPlace},zp.LaidVars P W L ps->∀n d,(n,d)∈L->sZ P W n d
 |[],_,_,_,_,h=>by cases h
 | (n',d')::L,_,h0,n,d,h=>by
  obtain⟨g,t,cs,fuel,p,q,h1,h2,h3,h4,h5,_⟩:=h0;rcases cL.1 h with h|h
  .cases h;exact⟨g,t,cs,fuel,p,h1,h2,h3,h4⟩
  .exact DY h5 n d h
theorem sF{L:List (String×zp Unit)}(h:laidMet P L W){n:String}{d:zp Unit}(b:(n,d)∈L):sZ P W n d:=by
 obtain⟨c,a,_⟩:=h;exact DY a n d b
theorem sZ.tab{k:eC}{zs:List Int}(x:P.globalNamed name=aw g)(r:(P.globals[g]?).map (·.type)=aw t)(z:P.underlying t=aw (.array n e))(v:P.underlying e=aw (.int k))(i:P.cellsOf e=1)(o:P.cellsOf t=n)(h:sZ P W name (tabData k zs)):TabIs P W name k zs:=by
 obtain⟨u,A,cs,Ab,p,Ac,Ad,Aa,q⟩:=h;obtain rfl:=dt (x.symm.trans Ac);obtain rfl:=dt (r.symm.trans Ad);unfold TabIs;rw[Aa,<-cells_of_tab z v i o q]
theorem Dh{enc:ff×cq->H}{i:ff}{k:eC}{zss:List (List Int)}(G:P.underlying t=aw (.array n e))(F:P.underlying e=aw (.array m i))(hi:P.underlying i=aw (.int k))(C:P.cellsOf i=1)(r:P.cellsOf e=m)(I:P.cellsOf t=n*m)(h:tI enc P w base sp held fuel t cs=aw (.agg (zss.map fun zs=>tabData k zs),p)):∀a (ha:a<zss.length),((cs.drop (a*m)).take m)=zss[a].map fun z=>cq.int k z:=by
 cases fuel with
 |zero=>simp[tI] at h
 |succ fuel=>
  simp only[tI,G,r] at h;split at h
  .rename_i hl
   obtain⟨xs,u,E⟩:=eH.1 h
   have Aa:xs.map (·.1)=zss.map fun zs=>(tabData k zs:zp H):=by
    have:=congrArg Prod.fst E
    simpa using this
   have Ac:xs.length=n:=by simpa using mapM_length u
   have Ab:zss.length=n:=by
    have:=congrArg fh Aa;simp at this
    omega
   intro a ha;obtain⟨b,B,D⟩:=mapM_at u a a (by simp[Ab ▸ ha]);have q:(xs.map (·.1))[a]?=aw b.1:=by simp[B]
   rw[Aa] at q;simp only[lR] at q;rw[br ha] at q;have v:b.1=tabData k zss[a]:=(dt q).symm;have A:tI enc P w base sp held fuel e ((cs.drop (a*m)).take m)=aw (tabData k zss[a],b.2):=by rw[D,<-v]
   exact cells_of_tab F hi C r A
  .cases h
theorem sZ.tabs{k:eC}{zss:List (List Int)}{i:ff}(C:P.globalNamed name=aw g)(D:(P.globals[g]?).map (·.type)=aw t)(I:P.underlying t=aw (.array n e))(H:P.underlying e=aw (.array m i))(hi:P.underlying i=aw (.int k))(z:P.cellsOf i=1)(x:P.cellsOf e=m)(A:P.cellsOf t=n*m)(h:sZ P W name (.agg (zss.map fun zs=>tabData k zs)))(a b:Nat)(F:a<zss.length)(G:b<zss[a].length)(v:b<m):W.cell? ⟨g,a*m+b,aq⟩=aw (ao k zss[a][b]):=by
 obtain⟨E,J,cs,Ab,p,Ac,Ad,Aa,B⟩:=h;obtain rfl:=dt (C.symm.trans Ac);obtain rfl:=dt (D.symm.trans Ad);have o:=Dh I H hi z x A B a F
 have q:cs[a*m+b]?=aw (ao k zss[a][b]):=by
  have:=congrArg (·[b]?) o;simp only[j7,sd,lR] at this;rw[E4 v,br G] at this
  simpa using this
 have u:=cd.var?_cell C Aa (a*m+b);rw[u,q]
theorem UC{L:List (String×zp Unit)}(h:laidMetH P L W)(a:(L.filter fun x=>x.2.handleName?.isSome)=[]):laidMet P L W:=by
 unfold laidMetH at h;rw[a] at h;exact h
open Go.Lib
theorem Di{enc:ff×cq->H}{zs:List (List UInt8)}(F:P.underlying t=aw (.array n e))(E:P.underlying e=aw .string)(A:P.cellsOf e=1)(B:P.cellsOf t=n)(h:tI enc P w base sp held fuel t cs=aw (.agg (zs.map fun z=>(.lit (.string z):zp H)),p)):∀i (hi:i<zs.length),cs[i]?=aw (Value.string ⟨zs[i].toArray⟩):=by
 cases fuel with
 |zero=>simp[tI] at h
 |succ fuel=>
  simp only[tI,F,A,B,Nat.mul_one] at h;split at h
  .rename_i hl
   obtain⟨xs,k,D⟩:=eH.1 h
   have Aa:xs.map (·.1)=zs.map fun z=>(zp.lit (.string z):zp H):=by
    have:=congrArg Prod.fst D
    simpa using this
   have Ac:xs.length=n:=by simpa using mapM_length k
   have Ab:zs.length=n:=by
    have:=congrArg fh Aa;simp at this
    omega
   intro i hi;obtain⟨b,u,C⟩:=mapM_at k i i (by simp[Ab ▸ hi]);obtain⟨s,v,rfl,_⟩:=zp.trod_string E C
   have r:cs[i]?=aw (al s):=by
    have:=congrArg (·[0]?) v
    simpa [j7,sd] using this
   have j:(xs.map (·.1))[i]?=aw (zp.lit (.string s.data.toList):zp H):=by simp[u]
   rw[Aa] at j;simp only[lR,br hi,Option.map_some,Option.some.injEq,zp.lit.injEq,Lit.string.injEq] at j;rw[r,j]
  .cases h
theorem sZ.strs{zs:List (List UInt8)}(x:P.globalNamed name=aw g)(A:(P.globals[g]?).map (·.type)=aw t)(D:P.underlying t=aw (.array n e))(C:P.underlying e=aw .string)(q:P.cellsOf e=1)(u:P.cellsOf t=n)(h:sZ P W name (.agg (zs.map fun z=>.lit (.string z))))(i:Nat)(hi:i<zs.length):W.cell? ⟨g,i,aq⟩=aw (al ⟨zs[i].toArray⟩):=by
 obtain⟨B,E,cs,Ab,p,Ac,Ad,Aa,v⟩:=h;obtain rfl:=dt (x.symm.trans Ac);obtain rfl:=dt (A.symm.trans Ad);have k:=Di D C q u v i hi;have o:=cd.var?_cell x Aa i;rw[o]
 simpa using k
def Ua:Nat->zp Unit->List cq
 |0,_=>[]
 |_+1,.lit (.int k z)=>[ao k z]
 |_+1,.lit (.string s)=>[al ⟨s.toArray⟩]
 |n+1,.agg xs=>xs.flatMap (Ua n)
 |_,_=>[]
def Td(P:oR)(h:Array Obj)(nd:String×zp Unit):Array Obj:=
 match P.globalNamed nd.1,Ua 4 nd.2 with
 | some g,v::vs=>h.modify g fun o=>match o with
  |aE _ t f=>aE (v::vs).toArray t f
  |o=>o
 |_,_=>h
def layAllS(P:oR)(L:List (String×zp Unit))(h:Array Obj):Array Obj:=L.foldl (Td P) h
end Go.Tab
namespace Go.Proofs.YtgmpmolfcaihfaaGreatDoor
open Go.RowKit Go.Tab
variable{held:Bool}{l rest:Bs}{s:E7}{p:List MemPlace}{cs:List cq}{a base fuel g i k m n:Nat}{sp:Nat->Bool}{P:oR}{name:String}{H:Type}{e t:ff}{b c:UInt8}{W w:cd}{r:aK}
def vD:List (List Int):=[[1,9,2,3,9,9,9],[9,9,2,3,9,9,9],[9,9,9,9,4,6,9],[9,9,3,3,4,6,9],[9,9,5,5,9,9,9],[9,9,5,5,9,6,9],[7,7,8,8,9,9,9],[9,9,8,8,9,9,9],[9,9,8,8,9,9,9]]
theorem Nf:∀j:Fin 63,((vD.getD (j.val / 7) []).getD (j.val % 7) 0)=((aY.getD j.val 9:Nat):Int):=by decide +kernel
theorem UK:Tryz.prog.globalNamed "tabularium/num.steps"=aw 3:=by kernel_rfl
theorem Um:(Tryz.prog.globals[3]?).map (·.type)=aw 196:=by kernel_rfl
theorem c1:Tryz.prog.cellsOf 3=1:=by kernel_rfl
theorem c7:Tryz.prog.cellsOf 195=7:=by kernel_rfl
theorem Wu:Tryz.prog.cellsOf 196=9*7:=by kernel_rfl
theorem UR:(Rows.laid_tabularium_num_steps:zp Unit)=.agg (vD.map fun zs=>Lib.tabData ar zs):=by kernel_rfl
theorem Vk:∀a:Fin 9,(vD.getD a.val []).length=7:=by decide +kernel
theorem Vu:Tryz.prog.globalNamed "tabularium/utf.sizes"=aw 0:=by kernel_rfl
theorem QZ:(Tryz.prog.globals[0]?).map (·.type)=aw 154:=by kernel_rfl
theorem Rp:Tryz.prog.cellsOf 154=32:=by kernel_rfl
def EM:List Int:=[1,1,1,1,1,1,1,1,1,1,1,1,1,1,1,1,0,0,0,0,0,0,0,0,2,2,2,2,3,3,4,0]
theorem Ng:∀j:Fin 32,EM.getD j.val 0=((fB (8*j.val):Nat):Int):=by decide +kernel
theorem UT:(Rows.laid_tabularium_utf_sizes:zp Unit)=Lib.tabData ar EM:=by kernel_rfl
theorem VW:Tryz.prog.globalNamed "tabularium/lex.doubles"=aw 1:=by kernel_rfl
theorem VO:(Tryz.prog.globals[1]?).map (·.type)=aw 181:=by kernel_rfl
theorem Vx:Tryz.prog.cellsOf 9=1:=by kernel_rfl
theorem c6:Tryz.prog.cellsOf 181=6:=by kernel_rfl
theorem VX:(Rows.laid_tabularium_lex_doubles:zp Unit)=.agg (mq.map fun z=>.lit (.string z)):=by kernel_rfl
theorem Vv:mq.length=6:=by decide +kernel
theorem Tc{L:List (String×zp Unit)}(hL:laidMetH bh L W)(hf:(L.filter fun x=>x.2.handleName?.isSome)=[])(hsh:W.ShapedOpen bh)(h1:("tabularium/utf.sizes",Rows.laid_tabularium_utf_sizes)∈L)(h2:("tabularium/num.steps",Rows.laid_tabularium_num_steps)∈L)(h3:("tabularium/lex.doubles",Rows.laid_tabularium_lex_doubles)∈L):jF W:=by
 have met:=UC hL hf;have l1:=sF met h1;have l2:=sF met h2;have l3:=sF met h3;rw[UT] at l1;rw[UR] at l2;rw[VX] at l3;refine⟨fun j hj=>?_,fun j hj=>?_,fun j hj=>?_,?_⟩
 .have t:=l1.tab Vu QZ Tryz.underlying154 gg c1 Rp
  have hc:=t.cell Vu j (by simpa [EM] using hj);rw[hc,show EM.getD j 0=_ from Ng ⟨j,hj⟩]
 .have ha:j / 7<vD.length:=by show j / 7<9;omega
  have hg:vD.getD (j / 7) []=vD[j / 7]:=by rw[s4,br ha];rfl
  have hr:=Vk ⟨j / 7,ha⟩;simp only[hg] at hr;have hb:j % 7<(vD[j / 7]).length:=by rw[hr];omega
  have h3:=l2.tabs UK Um Tryz.underlying196 Tryz.underlying195 gg c1 c7 Wu (j / 7) (j % 7) ha hb (by omega);rw[show j / 7*7+j % 7=j by omega] at h3;rw[h3];have h4:=Nf ⟨j,hj⟩;simp only[hg] at h4;rw[s4,br hb] at h4;rw[<-h4];rfl
 .have h:=l3.strs VW VO Tryz.underlying181 Tryz.underlying9 Vx c6 j (by rw[Vv];exact hj)
  rw[h,s4,br (by rw[Vv];exact hj)];rfl
 .exact cell_of_shapedOpen_int (t:=3) (zero:=#[ao ar 0]) hsh (by decide +kernel) (by kernel_rfl) rfl (by kernel_rfl) (by kernel_rfl) gg
theorem tab_of_TidyWell(hL:laidMetH bh Rows.tidyWellRow.laid W)(hsh:W.ShapedOpen bh):jF W:=Tc hL (by kernel_rfl) hsh (.tail _ (.head _)) (.tail _ (.tail _ (.head _))) (.tail _ (.tail _ (.tail _ (.head _))))
end Go.Proofs.YtgmpmolfcaihfaaGreatDoor
