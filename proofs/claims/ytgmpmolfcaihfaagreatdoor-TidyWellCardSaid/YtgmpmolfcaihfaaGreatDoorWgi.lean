/- Laws that TidyWell rests on; conditions: those that each names. -/
import Derived.Test.YtgmpmolfcaihfaaGreatDoorWgh
set_option linter.unusedSimpArgs false
set_option linter.unusedVariables false
set_option maxRecDepth 100000
set_option maxHeartbeats 20000000
open And renaming intro→cE
open Bool renaming and_eq_true→cP,and_false→sT,and_true→ot,false_eq_true→fm,false_or→j0,or_false→my
open ByteArray renaming size_extract→gx
open Go renaming Calls→cJ,IntKind→eC,Value→cq,World→cd,below_setRow→fy,bodyPost_ret→bj,madeCells→xf,maxLen→cV,results→cD,setRow_heap→fR,wpList_append_lies→n8,wpList→gE
open Go.Addr renaming add_lit→iS
open Go.Ending renaming returned→bk
open Go.IntKind renaming i64→ar
open Go.IntWalk renaming i64_in→cU
open Go.Obj renaming cells→aE
open Go.Proofs.Tryz renaming prog→bh,results134→qq,results185→sf,results62→kj,underlying27→sB
open Go.RowKit renaming Below→cj,intOf→cR
open Go.RowKit.Below renaming heap_alloc→fX,refl→ba
open Go.Value renaming agg→ew,bool→cG,int→ao,ownBlock→ev,slice→an,string→al,string→fx
open Go.Value.slice renaming injEq→fS
open Go.World renaming block_lt_of_cell?→lj,cell?_alloc_past→kc,ownsRow_nil→ir,size_alloc→cF
open Go.World.ownsRow renaming lt→cy
open Int renaming natCast_add→se,toNat_natCast→eL
open List renaming contains_cons→lA,drop_drop→c4,drop_eq_getElem_cons→cg,drop_eq_nil_iff→qS,drop_eq_nil_of_le→ek,drop_length→ei,drop_of_length_le→fg,drop_succ_cons→ec,drop_take→gO,drop_zero→dd,eq_nil_of_length_eq_zero→cC,getElem?_cons_zero→fs,getElem?_eq_getElem→br,getElem_cons_zero→eg,getElem_map→ju,getElem_mem→cH,getLast?_eq_getElem?→gk,isPrefixOf_iff_prefix→ly,length_append→cm,length_cons→bc,length_drop→bm,length_filter_le→vf,length_map→cW,length_nil→cY,length_singleton→eh,length_take→c8,map_append→eJ,mem_append→cX,mem_cons→cL,mem_singleton→de,not_mem_nil→fW,take_length→eR,take_succ_cons→cN,take_succ_eq_append_getElem→e9
open List.cons renaming inj→rr
open Nat renaming add_sub_cancel'→pd,add_zero→eA,le_of_eq→ox,le_refl→cA,le_succ→pA,lt_of_lt_of_le→cT,zero_add→df,zero_le→ck,zero_mul→iz
open Option renaming none→aq,some→aw
open Option.some renaming inj→dt
open UInt8 renaming toNat_inj→nf
namespace Go.Proofs.YtgmpmolfcaihfaaGreatDoor
open Go.RowKit Go.Tab
variable{ops:Array Oper}{o s:E7}{Q:Exit->Act->cd->Prop}{pa pe size:Int}{rest:List Oper}{cs vs:List cq}{l r:List ae}{st:List bX}{B c cap gb i j k n:Nat}{p:Oper}{a:Option Addr}{lv v:cq}{W W' w w':cd}{t:ae}{x:iA}
theorem Eh:∀D:Bs,(∀n,gP (D.take (cO D))=aw n->gP D=aw n/\(D.take n).contains 10=false)/\(gP (D.take (cO D))=aq->gP D=aq\/∃n,gP D=aw n/\(D.take n).contains 10=true)
 |[]=>⟨(fun n h=>by cases h),fun _=>.inl rfl⟩
 | c::D=>by
  obtain⟨h1,h2⟩:=Eh D
  by_cases hc:c=10
  .subst hc
   rw[cO,E4 rfl,List.take_zero];refine⟨(fun n h=>by cases h),fun _=>?_⟩;rw[gP,E6 (by rintro⟨h,-⟩;revert h;decide)]
   cases hd:gP D with
   |none=>exact .inl rfl
   |some n=>exact .inr ⟨n+1,rfl,by simp⟩
  .rw[cO,E6 hc,cN]
   have hh:(D.take (cO D)).head?=aw 47↔D.head?=aw 47:=by
    cases D with
    |nil=>simp
    |cons d D=>
     rw[cO]
     by_cases hd:d=10
     .subst hd;simp
     .rw[E6 hd];simp
   rw[gP,gP]
   by_cases i:c=42/\D.head?=aw 47
   .rw[E4 ⟨i.1,hh.2 i.2⟩,E4 i]
    exact⟨fun n h=>by cases h;exact⟨rfl,by simp⟩,fun h=>by cases h⟩
   .rw[E6 (fun h=>i ⟨h.1,hh.1 h.2⟩),E6 i]
    have Ab:(c==10)=false:=by simpa using hc
    have Aa:((10:UInt8)==c)=false:=by simpa using fun e:(10:UInt8)=c=>hc e.symm
    refine⟨fun n h=>?_,fun h=>?_⟩
    .obtain⟨m,q,rfl⟩:=Option.map_eq_some_iff.1 h
     obtain⟨j,k⟩:=h1 m q;rw[j];exact⟨rfl,by rw[cN,lA,k,Aa];rfl⟩
    .rcases h2 (Option.map_eq_none_iff.1 h) with j|⟨n,j,k⟩
     .left;rw[j];rfl
     .right;rw[j]
      exact⟨n+1,rfl,by rw[cN,lA,k];simp⟩
theorem KX{c d:UInt8}{D:Bs}(u:c≠10)(v:d≠10) :
  (∀n,gP (D.take (cO D))=aw n->eT (c::d::D)=gp ((c::d::D).take (n+4)) 7)/\(gP (D.take (cO D))=aq->eT (c::d::D)=.bad 0 2):=by
 obtain⟨k,q⟩:=Eh D;have Aa:((10:UInt8)==c)=false:=by simpa using fun e:(10:UInt8)=c=>u e.symm
 have Ab:((10:UInt8)==d)=false:=by simpa using fun e:(10:UInt8)=d=>v e.symm
 have j:∀n,((c::d::D).take (n+2)).contains 10=(D.take n).contains 10:=by
  intro n;rw[cN,cN,lA,lA,Aa,Ab,j0,j0]
 refine⟨fun n h=>?_,fun h=>?_⟩
 .obtain⟨f,i⟩:=k n h
  unfold eT;simp only[ec,dd];rw[f];simp only;rw[j,i,E6 (by simp)]
 .unfold eT
  simp only[ec,dd];rcases q h with f|⟨n,f,i⟩
  .rw[f]
  .rw[f]
   simp only;rw[j,i,E4 rfl]
theorem Ei:∀(E:Bs) (t:Nat),(∀j,j<t->([42,47]:Bs).isPrefixOf (E.drop j)=false)->([42,47]:Bs).isPrefixOf (E.drop t)=true->gP E=aw t
 |[],t,_,h=>by simp[List.isPrefixOf] at h
 | c::E,0,_,h=>by
  rw[dd,C8] at h;rw[gP,E4 (by simpa using h)]
 | c::E,t+1,h1,h=>by
  have h0:=h1 0 (by omega);rw[dd,C8] at h0;rw[gP,E6 (by simpa using h0),Ei E t (fun j hj=>by have:=h1 (j+1) (by omega);simpa using this) (by simpa using h)];rfl
theorem Mk:∀(E:Bs),(∀j,j<E.length->([42,47]:Bs).isPrefixOf (E.drop j)=false)->gP E=aq
 |[],_=>rfl
 | c::E,h1=>by
  have h0:=h1 0 (by simp);rw[dd,C8] at h0;rw[gP,E6 (by simpa using h0),Mk E (fun j hj=>by have:=h1 (j+1) (by simp;omega);simpa using this)];rfl
theorem NP(s:E7)(k:Nat)(w:cd)(hs:s.size<=1048576)(hk:k<s.size)(hc:s[k]'hk=47)(V:(s.data.toList.drop (k+1)).head?=aw 42) :
  cJ bh 62 #[al s,ao ar (k:Nat)] w (CJ w s k (eT (s.data.toList.drop k))):=by
 have L:=fI hk;rw[hc] at L
 obtain⟨D,Z⟩:∃D,s.data.toList.drop (k+1)=42::D:=by
  cases hq:s.data.toList.drop (k+1) with
  |nil=>rw[hq] at V;cases V
  |cons d D=>rw[hq] at V;simp at V;subst V;exact⟨D,rfl⟩
 rw[Z] at L
 have Ai:s.data.toList.drop (k+2)=D:=by
  have:=congrArg (List.drop 1) Z;rw[c4] at this
  simpa using this
 have Ap:D.length=s.size-(k+2):=by rw[<-Ai,bm,<-ak]
 have A6:k+2<=s.size:=by have:=congrArg List.length Z;rw[bm,<-ak,bc] at this;omega
 obtain⟨G,Af⟩:∃G,cO D=G:=⟨_,rfl⟩;have An:=sw D;rw[Af,Ap] at An;have hE:=fun W=>Mj s k W (by omega) (by omega);rw[L,cO,E6 (by decide),cO,E6 (by decide),Af] at hE;have Ak:=fun W=>vR s k ⟨#[47,47]⟩ W (by omega) (by omega) (by decide);rw[L,show (⟨#[47,47]⟩:E7).data.toList.isPrefixOf (47::42::D)=false from rfl] at Ak;have Al:=fun W=>vR s k ⟨#[47,42]⟩ W (by omega) (by omega) (by decide);rw[L,show (⟨#[47,42]⟩:E7).data.toList.isPrefixOf (47::42::D)=true from rfl] at Al;obtain⟨Ag,Ah⟩:=KX (c:=47) (d:=42) (D:=D) (by decide) (by decide);rw[Af] at Ag Ah;rw[L]
 have A4:∀t W,t<=G->cJ bh 101 #[al (s.extract 0 (k+2+G)),ao ar ((k+2+t:Nat):Int),al ⟨#[42,47]⟩] W fun e w'=>e=bk (cG (([42,47]:Bs).isPrefixOf ((D.take G).drop t)))/\W=w':=fun t W ht=>by
  have h:=vR (s.extract 0 (k+2+G)) (k+2+t) ⟨#[42,47]⟩ W (by rw[mR (by omega)];omega) (by rw[mR (by omega)];omega) (by decide);rw[qx] at h
  have e:(s.data.toList.take (k+2+G)).drop (k+2+t)=(D.take G).drop t:=by
   rw[<-c4,<-Ai]
   congr 1
   rw[gO];congr 1;omega
  rw[e] at h;exact h
 have Ao:∀t W,t+2<=G->cJ bh 103 #[al s,ao ar (k:Nat),ao ar ((k+2+t+2:Nat):Int),ao ar ((7:Nat):Int)] W (Ey W (Bz s k (gp ((47::42::D).take (t+4)) 7)).1 (Bz s k (gp ((47::42::D).take (t+4)) 7)).2.1 (Bz s k (gp ((47::42::D).take (t+4)) 7)).2.2):=fun t W ht=>by
  have h:=ze s k (k+2+t+2) 7 W hs (by omega) (by omega)
  have e:(s.data.toList.take (k+2+t+2)).drop k=(47::42::D).take (t+4):=by
   rw[<-L,gO];congr 1;omega
  rw[e] at h;exact h
 have Aj:(D.take G).length=G:=by rw[c8];omega
 have Ax:∀t,([42,47]:Bs).isPrefixOf ((D.take G).drop t)=true->t+2<=G:=by
  intro t ht;have:=(ly.1 ht).length_le;rw[bm,Aj] at this;simp at this;omega
 have Ab:=jw 47;rw[show lC 47=false from rfl] at Ab;have A7:(s[k]'hk).toNat=47:=by rw[hc];rfl
 have Az:=Hh Ao;have HA:=Jh Ag Ah;have A3:=Hh Ax;have A0:=Hh Aj;clear L Z Ai Ap Af V Ao Ax Aj hc Ag Ah;generalize hW:(47::42::D:Bs)=W0 at *;generalize D.take G=E at *;clear hW;have U:cj w.heap.size w (w.alloc (aE #[an aq 0 0,ao ar 0,ao ar 0] 81)):=(ba _ w).alloc lz _;have Ac:=aa.new w #[an aq 0 0,ao ar 0,ao ar 0] 81;have HH:=Jh U Ac;clear U Ac;go_in;go_wp2_with fail;refine (Ab _).mono ?_;rintro _ _ ⟨rfl,F⟩;cases F
 go_wp2_with fail;refine (Ak _).mono ?_;rintro _ _ ⟨rfl,F⟩;cases F
 go_wp2_with fail;refine (Al _).mono ?_;rintro _ _ ⟨rfl,F⟩;cases F
 go_wp2_with fail;refine (hE _).mono ?_;rintro _ _ ⟨rfl,F⟩;cases F
 rw[show ((k+(G+1+1):Nat):Int)=((k+2+G:Nat):Int) by omega];clear Ab Ak Al hE;go_wp2;go_loop [12] (fun n=>∃t:Nat,n=ao ar ((k+2+t:Nat):Int)/\t<=G/\∀j,j<t->([42,47]:Bs).isPrefixOf (E.drop j)=false) (fun n=>s.size-(cR n).toNat)
 .exact⟨0,by congr 1,ck _,fun j hj=>by omega⟩
 obtain⟨t,rfl,ht,Aw⟩:=hrel;have HN:=Hh Aw;clear Aw
 by_cases hlt:t<G
 .have hI:=fun W=>A4 t W ht
  cases hp:([42,47]:Bs).isPrefixOf (E.drop t) with
  |true=>
   rw[hp] at hI;have Ad:=HA.out.1 t (Ei E t HN.out hp);have Y:=Az.out t (w.alloc (aE #[an aq 0 0,ao ar 0,ao ar 0] 81)) (A3.out t hp);rw[Ad];rw[show ((k+2+t+2:Nat):Int)=((k+2+t:Nat):Int)+2 by omega] at Y;unfold CJ;obtain⟨⟨tl,ta,te⟩,Q⟩:∃x,Bz s k (gp (W0.take (t+4)) 7)=x:=⟨_,rfl⟩;rw[Q] at Y ⊢;simp only at Y ⊢;clear Q Ad hp;go_wp2_with fail;refine (hI _).mono ?_;rintro _ _ ⟨rfl,F⟩;cases F
   go_wp2_with fail;obtain⟨U,Ac⟩:=HH.out;refine (Y).mono ?_;rintro _ w2 ⟨v,rfl,K,M⟩;obtain⟨Am,Aa,Ae,-⟩:=kW (a:=ta) (e:=te) U Ac M.size K M;obtain⟨va,vc,Ay⟩:=K.len
   (try simp only[bc,cY,df] at Ay)
   subst Ay;have A8:=Am.lt;have HX:=Jh Aa (cE Ae Am);clear K M Aa Ae U Ac;obtain⟨Aq,At,Ar,Au,As,Av⟩:=Am.n3 rfl;go_wp2;obtain⟨Aa,Ae,A5⟩:=HX.out;have hq:=((A5.setI 0 (an va tl.length vc)).setI 1 (ao ar ta)).setI 2 (ao ar te);obtain⟨Q,hy,hz⟩:=hq.m3 rfl;refine bj (v:=ew #[an va tl.length vc,ao ar ta,ao ar te]) (by simp[cD,kj,go_sem,Q,hy,hz]) rfl ?_;exact⟨_,rfl,Aa,Ae⟩
  |false=>
   rw[hp] at hI
   have A2:Hid (∀j,j<t+1->([42,47]:Bs).isPrefixOf (E.drop j)=false):=Hh (fun j hj=>by
    by_cases h:j=t
    .subst h;exact hp
    .exact HN.out j (by omega))
   clear hp;go_wp2_with fail;refine (hI _).mono ?_;rintro _ _ ⟨rfl,F⟩;cases F
   go_wp2;go_round
   .exact⟨t+1,by go_num,by omega,A2.out⟩
   simp[cR];omega
 .obtain rfl:t=G:=by omega
  have Ad:=HA.out.2 (Mk E (by rw[A0.out];exact HN.out));have A1:=Hh Ad;clear Ad;go_wp2;have hq:=aa.new w #[an aq 0 0,ao ar (k:Nat),ao ar 2] 81;obtain⟨Q,hy,hz⟩:=hq.m3 rfl;refine bj (v:=ew #[an aq 0 0,ao ar (k:Nat),ao ar 2]) (by simp[cD,kj,go_sem,Q,hy,hz]) rfl ?_;rw[A1.out];exact⟨_,by simp[Bz],aS.nil,(ba _ w).alloc lz _⟩
theorem Uq(j:Nat)(h:j<qa.length):([(⟨#[61]⟩:E7),(⟨#[60]⟩:E7),(⟨#[62]⟩:E7),(⟨#[43]⟩:E7),(⟨#[45]⟩:E7),(⟨#[42]⟩:E7),(⟨#[47]⟩:E7),(⟨#[37]⟩:E7),(⟨#[33]⟩:E7),(⟨#[63]⟩:E7),(⟨#[58]⟩:E7),(⟨#[44]⟩:E7),(⟨#[46]⟩:E7),(⟨#[40]⟩:E7),(⟨#[41]⟩:E7),(⟨#[91]⟩:E7),(⟨#[93]⟩:E7),(⟨#[123]⟩:E7),(⟨#[125]⟩:E7)]:List E7)[j]'(by exact h)=⟨#[qa[j]'h]⟩:=by
 have Aa:∀i:Fin 19,([(⟨#[61]⟩:E7),(⟨#[60]⟩:E7),(⟨#[62]⟩:E7),(⟨#[43]⟩:E7),(⟨#[45]⟩:E7),(⟨#[42]⟩:E7),(⟨#[47]⟩:E7),(⟨#[37]⟩:E7),(⟨#[33]⟩:E7),(⟨#[63]⟩:E7),(⟨#[58]⟩:E7),(⟨#[44]⟩:E7),(⟨#[46]⟩:E7),(⟨#[40]⟩:E7),(⟨#[41]⟩:E7),(⟨#[91]⟩:E7),(⟨#[93]⟩:E7),(⟨#[123]⟩:E7),(⟨#[125]⟩:E7)]:List E7)[i.val]'i.isLt=⟨#[qa[i.val]'i.isLt]⟩:=by decide
 exact Aa ⟨j,h⟩
theorem UQ(j:Nat)(h:j<mq.length):(mq.map au)[j]'(by rw[cW];exact h)=au (mq[j]'h):=ju au
theorem RA{l:List Bs}{p:Bs->Bool}(h:j<l.length):(l.drop j).any p=(p l[j] || (l.drop (j+1)).any p):=by
 rw[cg h,List.any_cons]
theorem Qb(s:E7)(k:Nat)(w:cd)(hs:s.size<=1048576)(hk:k<s.size)(h10:s[k]'hk≠10)(hl:lC (s[k]'hk)=false)(hg:dg (s[k]'hk)=false)(h34:s[k]'hk≠34)(h35:s[k]'hk≠35)(h47:¬(s[k]'hk=47/\(s.data.toList.drop (k+1)).head?=aw 47))(h42:¬(s[k]'hk=47/\(s.data.toList.drop (k+1)).head?=aw 42)) :
  cJ bh 62 #[al s,ao ar (k:Nat)] w (CJ w s k (if CU (s.data.toList.drop k)=0 then .bad 0 3 else .tok 4 (CU (s.data.toList.drop k)))):=by
 have hd:=fI hk;have AH:=gu h10 (m:=10) rfl;have AI:=gu h34 (m:=34) rfl;have AJ:=gu h35 (m:=35) rfl;have Ay:=jw (s[k]'hk);rw[hl] at Ay
 have A0:(s[k]'hk).toNat<48\/(48<=(s[k]'hk).toNat/\57<(s[k]'hk).toNat):=by
  have:¬(48<=(s[k]'hk).toNat/\(s[k]'hk).toNat<=57):=by simpa [dg,Mo] using hg
  omega
 have Aw:=fun W=>vR s k ⟨#[47,47]⟩ W (by omega) (by omega) (by decide);rw[hd,show (⟨#[47,47]⟩:E7).data.toList=[47,47] from rfl,C8,decide_eq_false h47] at Aw;have Ax:=fun W=>vR s k ⟨#[47,42]⟩ W (by omega) (by omega) (by decide);rw[hd,show (⟨#[47,42]⟩:E7).data.toList=[47,42] from rfl,C8,decide_eq_false h42] at Ax;have A5:∀(p:E7) W,p.size<=1000->cJ bh 101 #[al s,ao ar (k:Nat),al p] W fun e w'=>e=bk (cG (p.data.toList.isPrefixOf (s.data.toList.drop k)))/\W=w':=fun p W hp=>vR s k p W (by omega) (by omega) hp;obtain⟨B,hB⟩:∃B,mq.any (fun d=>d.isPrefixOf (s.data.toList.drop k))=B:=⟨_,rfl⟩;obtain⟨C,hC⟩:∃C,qa.contains (s[k]'hk)=C:=⟨_,rfl⟩
 have AE:CU (s.data.toList.drop k)=if B=true then 2 else if C=true then 1 else 0:=by
  unfold CU;rw[hB,hd];simp only;rw[hC]
 rw[AE];have HB:=Hh hB;have HC:=Hh hC;have HD:=Hh hd;clear h10 hl hg h34 h35 h47 h42 hB hC AE hd;obtain⟨R,hR⟩:∃R,(if (if B=true then 2 else if C=true then 1 else 0)=0 then LR.bad 0 3 else LR.tok 4 (if B=true then 2 else if C=true then 1 else 0))=R:=⟨_,rfl⟩;rw[hR];have HR:=Hh hR;clear hR;have N:cj w.heap.size w (w.alloc (aE #[an aq 0 0,ao ar 0,ao ar 0] 81)):=(ba _ w).alloc lz _;have Ab:=aa.new w #[an aq 0 0,ao ar 0,ao ar 0] 81;have HH:=Jh N Ab;clear N Ab;rcases A0 with A0|A0
 all_goals
  go_in;go_wp2_with fail;refine (Ay _).mono ?_;rintro _ _ ⟨rfl,M⟩;cases M
  go_wp2_with fail;refine (Aw _).mono ?_;rintro _ _ ⟨rfl,M⟩;cases M
  go_wp2_with fail;refine (Ax _).mono ?_;rintro _ _ ⟨rfl,M⟩;cases M
  clear Ay Aw Ax;go_wp2_with fail;obtain⟨N,Ab⟩:=HH.out;clear HH;have Af:=(aI.lit (f:=fx) (E:=9) (base:=w.heap.size) (w:=w.alloc (aE #[an aq 0 0,ao ar 0,ao ar 0] 81)) (mq.map au) (by simp) (by decide)).row;have Am:=N.alloc N.size (aE #[al ⟨#[61,61]⟩,al ⟨#[33,61]⟩,al ⟨#[60,61]⟩,al ⟨#[62,61]⟩,al ⟨#[38,38]⟩,al ⟨#[124,124]⟩] 9);have Ag:=Ab.alloc (aE #[al ⟨#[61,61]⟩,al ⟨#[33,61]⟩,al ⟨#[60,61]⟩,al ⟨#[62,61]⟩,al ⟨#[38,38]⟩,al ⟨#[124,124]⟩] 9);rw[cF] at Af;change RowOf fx ((w.alloc (aE #[an aq 0 0,ao ar 0,ao ar 0] 81)).alloc (aE #[al ⟨#[61,61]⟩,al ⟨#[33,61]⟩,al ⟨#[60,61]⟩,al ⟨#[62,61]⟩,al ⟨#[38,38]⟩,al ⟨#[124,124]⟩] 9)) (an (aw ⟨w.heap.size+1,0,aq⟩) 6 6) _ at Af;clear N Ab;generalize (w.alloc (aE #[an aq 0 0,ao ar 0,ao ar 0] 81)).alloc (aE #[al ⟨#[61,61]⟩,al ⟨#[33,61]⟩,al ⟨#[60,61]⟩,al ⟨#[62,61]⟩,al ⟨#[38,38]⟩,al ⟨#[124,124]⟩] 9)=W1 at *;have N:=Am;have Ab:=Ag;clear Am Ag;have Aj:=Jh N Ab;clear N Ab;go_loop [14,167] (fun _ i=>∃j:Nat,i=ao ar (j:Int)/\j<=6/\(mq.drop j).any (fun d=>d.isPrefixOf (s.data.toList.drop k))=B) (fun _ i=>6-(cR i).toNat)
  .exact⟨0,rfl,by omega,HB.out⟩
  clear HB;obtain⟨j,rfl,hj,P⟩:=hrel
  by_cases hlt:j<6
  .have Ae:j<mq.length:=hlt
   obtain⟨b1,o1,A1,AF,Ad⟩:=Af.at (j:=j) (by exact hlt);cases A1
   have At:W1.cell? ⟨w.heap.size+1,0+j,aq⟩=aw (al (au (mq[j]'Ae))):=(Ad j (by exact hlt)).trans (congrArg (fun x=>aw (fx x)) (UQ j Ae));rw[RA (l:=mq) Ae] at P
   have AD:(au (mq[j]'Ae)).size=2:=by
    rw[bi];have h6:j=0\/j=1\/j=2\/j=3\/j=4\/j=5:=by omega
    rcases h6 with rfl|rfl|rfl|rfl|rfl|rfl<;>rfl
   have hJ:=fun W=>A5 (au (mq[j]'Ae)) W (by omega);rw[aV] at hJ;have Av:=Hh AD;clear Ad AD
   cases hp:(mq[j]'Ae).isPrefixOf (s.data.toList.drop k) with
   |true=>
    rw[hp] at hJ P;have A3:B=true:=by rw[<-P];rfl
    have h2:k+2<=s.size:=by
     have:=(ly.1 hp).length_le;rw[bm,<-ak,<-bi,Av.out] at this;omega
    have Ai:R=.tok 4 2:=by rw[<-HR.out,A3];rfl
    have Al:=Hh Ai;clear hp P Ai A3 Av;generalize au (mq[j]'Ae)=dj at *;simp only[df] at At;go_wp2_with fail;refine (hJ _).mono ?_;rintro _ _ ⟨rfl,M⟩;cases M
    go_wp2_with fail;obtain⟨N,Ab⟩:=Aj.out;have hT:=nL s k 2 4 W1 (by omega) h2;refine (hT).mono ?_;rintro _ w2 ⟨v,rfl,O,Y⟩;obtain⟨Ak,Aa,Ah,-⟩:=kW (a:=0) (e:=0) N Ab Y.size O Y;obtain⟨va,vc,Au⟩:=O.len
    (try simp only[bc,cY,df] at Au)
    subst Au;have AG:=Ak.lt;have HX:=Jh Aa (cE Ah Ak);clear O Y Aa Ah N Ab;obtain⟨An,Aq,Ao,Ar,Ap,As⟩:=Ak.n3 rfl;go_wp2;obtain⟨Aa,Ah,Az⟩:=HX.out;have hq:=((Az.setI 0 (an va 1 vc)).setI 1 (ao ar 0)).setI 2 (ao ar 0);obtain⟨hx,hy,hz⟩:=hq.m3 rfl;refine bj (v:=ew #[an va 1 vc,ao ar 0,ao ar 0]) (by simp[cD,kj,go_sem,hx,hy,hz]) rfl ?_;rw[Al.out];exact⟨_,rfl,Aa,Ah⟩
   |false=>
    rw[hp,j0] at P;rw[hp] at hJ;have HI:=Hh P;clear hp P Av;generalize au (mq[j]'Ae)=dj at *;simp only[df] at At;go_wp2_with fail;refine (hJ _).mono ?_;rintro _ _ ⟨rfl,M⟩;cases M
    go_wp2;go_round
    .exact⟨j+1,by go_num,by omega,HI.out⟩
    simp[cR];omega
  .obtain rfl:j=6:=by omega
   have A2:Hid (B=false):=Hh P.symm;clear P Af;go_wp2_with fail;obtain⟨N,Ab⟩:=Aj.out;have Af:=(aI.lit (f:=fx) (E:=9) (base:=w.heap.size) (w:=W1) [(⟨#[61]⟩:E7),(⟨#[60]⟩:E7),(⟨#[62]⟩:E7),(⟨#[43]⟩:E7),(⟨#[45]⟩:E7),(⟨#[42]⟩:E7),(⟨#[47]⟩:E7),(⟨#[37]⟩:E7),(⟨#[33]⟩:E7),(⟨#[63]⟩:E7),(⟨#[58]⟩:E7),(⟨#[44]⟩:E7),(⟨#[46]⟩:E7),(⟨#[40]⟩:E7),(⟨#[41]⟩:E7),(⟨#[91]⟩:E7),(⟨#[93]⟩:E7),(⟨#[123]⟩:E7),(⟨#[125]⟩:E7)] N.size (by decide)).row;have Am:=N.alloc N.size (aE #[al ⟨#[61]⟩,al ⟨#[60]⟩,al ⟨#[62]⟩,al ⟨#[43]⟩,al ⟨#[45]⟩,al ⟨#[42]⟩,al ⟨#[47]⟩,al ⟨#[37]⟩,al ⟨#[33]⟩,al ⟨#[63]⟩,al ⟨#[58]⟩,al ⟨#[44]⟩,al ⟨#[46]⟩,al ⟨#[40]⟩,al ⟨#[41]⟩,al ⟨#[91]⟩,al ⟨#[93]⟩,al ⟨#[123]⟩,al ⟨#[125]⟩] 9);have Ag:=Ab.alloc (aE #[al ⟨#[61]⟩,al ⟨#[60]⟩,al ⟨#[62]⟩,al ⟨#[43]⟩,al ⟨#[45]⟩,al ⟨#[42]⟩,al ⟨#[47]⟩,al ⟨#[37]⟩,al ⟨#[33]⟩,al ⟨#[63]⟩,al ⟨#[58]⟩,al ⟨#[44]⟩,al ⟨#[46]⟩,al ⟨#[40]⟩,al ⟨#[41]⟩,al ⟨#[91]⟩,al ⟨#[93]⟩,al ⟨#[123]⟩,al ⟨#[125]⟩] 9);change RowOf fx (W1.alloc (aE #[al ⟨#[61]⟩,al ⟨#[60]⟩,al ⟨#[62]⟩,al ⟨#[43]⟩,al ⟨#[45]⟩,al ⟨#[42]⟩,al ⟨#[47]⟩,al ⟨#[37]⟩,al ⟨#[33]⟩,al ⟨#[63]⟩,al ⟨#[58]⟩,al ⟨#[44]⟩,al ⟨#[46]⟩,al ⟨#[40]⟩,al ⟨#[41]⟩,al ⟨#[91]⟩,al ⟨#[93]⟩,al ⟨#[123]⟩,al ⟨#[125]⟩] 9)) (an (aw ⟨W1.heap.size,0,aq⟩) 19 19) _ at Af
   clear N Ab Aj;generalize hW2:W1.alloc (aE #[al ⟨#[61]⟩,al ⟨#[60]⟩,al ⟨#[62]⟩,al ⟨#[43]⟩,al ⟨#[45]⟩,al ⟨#[42]⟩,al ⟨#[47]⟩,al ⟨#[37]⟩,al ⟨#[33]⟩,al ⟨#[63]⟩,al ⟨#[58]⟩,al ⟨#[44]⟩,al ⟨#[46]⟩,al ⟨#[40]⟩,al ⟨#[41]⟩,al ⟨#[91]⟩,al ⟨#[93]⟩,al ⟨#[123]⟩,al ⟨#[125]⟩] 9)=W2 at *;generalize W1.heap.size=g2 at *;clear hW2;have N:=Am;have Ab:=Ag;clear Am Ag;have Aj:=Jh N Ab;clear N Ab;go_loop [16,181] (fun _ i=>∃j:Nat,i=ao ar (j:Int)/\j<=19/\(qa.drop j).contains (s[k]'hk)=C) (fun _ i=>19-(cR i).toNat)
   .exact⟨0,rfl,by omega,HC.out⟩
   clear HC;obtain⟨j,rfl,hj,P⟩:=hrel
   by_cases hlt:j<19
   .have Ac:j<qa.length:=hlt
    obtain⟨b1,o1,A1,AF,Ad⟩:=Af.at (j:=j) (by exact hlt);cases A1
    have At:W2.cell? ⟨g2,0+j,aq⟩=aw (al ⟨#[qa[j]'Ac]⟩):=(Ad j (by exact hlt)).trans (congrArg (fun x=>aw (fx x)) (Uq j Ac));rw[cg Ac,lA] at P;have hJ:=fun W=>A5 ⟨#[qa[j]'Ac]⟩ W (by simp[ByteArray.size])
    have A6:(⟨#[qa[j]'Ac]⟩:E7).data.toList.isPrefixOf (s.data.toList.drop k)=(s[k]'hk==qa[j]'Ac):=by
     rw[HD.out];show (qa[j]'Ac==s[k]'hk&&([]:Bs).isPrefixOf _)=_;rw[List.isPrefixOf_nil_left,ot,Bool.beq_comm]
    rw[A6] at hJ;clear A6 Ad
    cases hp:(s[k]'hk==qa[j]'Ac) with
    |true=>
     rw[hp] at hJ P;have A4:C=true:=by rw[<-P];rfl
     have Ai:R=.tok 4 1:=by rw[<-HR.out,A2.out,A4];rfl
     have Al:=Hh Ai;have AK:k+1<=s.size:=hk;clear hp P Ai A4;generalize (⟨#[qa[j]'Ac]⟩:E7)=dj at *;simp only[df] at At;go_wp2_with fail;refine (hJ _).mono ?_;rintro _ _ ⟨rfl,M⟩;cases M
     go_wp2_with fail;obtain⟨N,Ab⟩:=Aj.out;have hT:=nL s k 1 4 W2 (by omega) (by omega);refine (hT).mono ?_;rintro _ w2 ⟨v,rfl,O,Y⟩;obtain⟨Ak,Aa,Ah,-⟩:=kW (a:=0) (e:=0) N Ab Y.size O Y;obtain⟨va,vc,Au⟩:=O.len
     (try simp only[bc,cY,df] at Au)
     subst Au;have AG:=Ak.lt;have HX:=Jh Aa (cE Ah Ak);clear O Y Aa Ah N Ab;obtain⟨An,Aq,Ao,Ar,Ap,As⟩:=Ak.n3 rfl;go_wp2;obtain⟨Aa,Ah,Az⟩:=HX.out;have hq:=((Az.setI 0 (an va 1 vc)).setI 1 (ao ar 0)).setI 2 (ao ar 0);obtain⟨hx,hy,hz⟩:=hq.m3 rfl;refine bj (v:=ew #[an va 1 vc,ao ar 0,ao ar 0]) (by simp[cD,kj,go_sem,hx,hy,hz]) rfl ?_;rw[Al.out];exact⟨_,rfl,Aa,Ah⟩
    |false=>
     rw[hp,j0] at P;rw[hp] at hJ;have HI:=Hh P;clear hp P;generalize (⟨#[qa[j]'Ac]⟩:E7)=dj at *;simp only[df] at At;go_wp2_with fail;refine (hJ _).mono ?_;rintro _ _ ⟨rfl,M⟩;cases M
     go_wp2;go_round
     .exact⟨j+1,by go_num,by omega,HI.out⟩
     simp[cR];omega
   .obtain rfl:j=19:=by omega
    have Ai:R=.bad 0 3:=by rw[<-HR.out,A2.out,<-P];rfl
    have Al:=Hh Ai;clear P Af Ai;obtain⟨N,Ab⟩:=Aj.out;have HB:=Hh N;have HC:=Hh Ab;have AL:=Ab.lt;clear N Aj;obtain⟨A7,AA,A8,AB,A9,AC⟩:=Ab.n3 rfl;clear Ab;go_wp2;rw[Al.out];have hq:=(((HC.out).setI 0 (an aq 0 0)).setI 1 (ao ar (k:Nat))).setI 2 (ao ar 3);obtain⟨hx,hy,hz⟩:=hq.m3 rfl;refine bj (v:=ew #[an aq 0 0,ao ar (k:Nat),ao ar 3]) (by simp[cD,kj,go_sem,hx,hy,hz]) rfl ?_;exact⟨_,by simp[Bz],aS.nil,aZ _ _ lz [an aq 0 0,ao ar (k:Nat),ao ar 3] 0 _ _ HB.out⟩
theorem PS(s:E7)(k:Nat)(w:cd)(v:s.size<=1048576)(f:k<s.size) :
  cJ bh 62 #[al s,ao ar (k:Nat)] w (CJ w s k (dY (s.data.toList.drop k))):=by
 have q:=fI f;have D:dY (s.data.toList.drop k)=dY (s[k]'f::s.data.toList.drop (k+1)):=by rw[q]
 rw[D,dY]
 by_cases u:lC (s[k]'f)=true
 .rw[E4 u]
  refine Qa s k w v f ?_ u;intro h;rw[h] at u
  revert u;decide
 rw[E6 u];have Aa:lC (s[k]'f)=false:=by simpa using u
 by_cases B:dg (s[k]'f)=true
 .rw[E4 B,<-q]
  exact Kc s k w v f Aa B
 rw[E6 B];have Ab:dg (s[k]'f)=false:=by simpa using B
 by_cases j:s[k]'f=34
 .rw[E4 j,<-q]
  exact Kb s k w v f j
 rw[E6 j]
 by_cases i:s[k]'f=10
 .rw[E4 i]
  exact Qc s k w v f i
 rw[E6 i]
 by_cases A:s[k]'f=35\/(s[k]'f=47/\(s.data.toList.drop (k+1)).head?=aw 47)
 .rw[E4 A,<-q]
  exact Ka s k w v f A
 rw[E6 A]
 by_cases x:s[k]'f=47/\(s.data.toList.drop (k+1)).head?=aw 42
 .rw[E4 x,<-q]
  exact NP s k w v f x.1 x.2
 rw[E6 x,<-q];exact Qb s k w v f i Aa Ab j (fun h=>A (.inl h)) (fun h=>A (.inr h)) x
theorem GZ(s:E7)(w:cd)(hs:s.size<=1048576) :
  cJ bh 36 #[al s] w (Ey w (aC s.data.toList 0).1 (aC s.data.toList 0).2.1 (aC s.data.toList 0).2.2):=by
 have Aj:cj w.heap.size w (w.alloc (aE #[an aq 0 0,ao ar 0,ao ar 0] 81)):=(ba _ w).alloc lz _;have Ad:=aa.new w #[an aq 0 0,ao ar 0,ao ar 0] 81;have HH:=Jh Aj Ad;clear Aj Ad;go_in;go_wp2;go_loopw [3,4,5] (fun o p _ wr=>∃(k:Nat) (pre:List ae),p=ao ar (k:Int)/\k<=s.size/\dW s.data.toList k pre/\aS (w.heap.size+1) wr o pre/\aa wr w.heap.size #[an aq 0 0,ao ar 0,ao ar 0] 81/\cj w.heap.size w wr) (fun _ p _ _=>s.size-(cR p).toNat)
 .exact⟨0,[],rfl,ck _,dW.zero _,aS.nil,HH.out.2,HH.out.1⟩
 clear HH;obtain⟨k,pre,rfl,hk,hR,Aa,hc,hb⟩:=hrel;have hl:=hc.lt
 by_cases hlt:k<s.size
 .have hB:=yQ (s[k]'hlt)
  have Ag:k<s.data.toList.length:=by rw[<-ak];exact hlt
  have Ay:=hR.len;rw[<-ak] at Ay;have HR:=Hh hR;clear hR
  cases hb1:aN (s[k]'hlt) with
  |true=>
   rw[hb1] at hB;have Ax:=Hh (HR.out.blank Ag hb1);have M:=Jh Aa (cE hc hb);clear HR hb1 Aa hc hb;go_wp2_with fail;refine (hB _).mono ?_;rintro _ _ ⟨rfl,hw1⟩;cases hw1
   go_wp2;go_roundw
   .exact⟨k+1,pre,by go_num,by omega,Ax.out,M.out.1,M.out.2.1,M.out.2.2⟩
   simp[cR];omega
  |false=>
   rw[hb1] at hB;have hO:=PS s k;unfold CJ at hO;obtain⟨va,vc,rfl⟩:=Aa.len
   cases ho:dY (s.data.toList.drop k) with
   |bad o e=>
    have HD:=Hh (HR.out.bad Ag hb1 ho);have AC:(e != 0)=true:=by simpa using nZ ho
    rw[ho] at hO;simp only[Bz] at hO;clear HR hb1 ho;go_wp2_with fail;refine (hB _).mono ?_;rintro _ _ ⟨rfl,hw1⟩;cases hw1
    go_wp2_with fail;refine (hO _ hs hlt).mono ?_;rintro _ w2 ⟨v2,rfl,G,K⟩;obtain⟨ua,uc,rfl⟩:=G.len;have Ae:=hc.below K hl;have AB:=Ae.lt;have M:=Jh (Aa.below K lz) (cE Ae (hb.trans (K.mono hb.size)));clear G K Aa hc hb;obtain⟨Ak,An,Al,Ao,Am,Ap⟩:=Ae.n3 rfl;clear Ae;go_wp2;have hq:=(((M.out.2.1.setI 0 (an va pre.length vc)).setI 1 (ao ar ((k:Int)+o))).setI 2 (ao ar e)).alloc (aE #[an ua 0 uc,ao ar ((k:Int)+o),ao ar e] 81);obtain⟨hx,hy,hz⟩:=hq.m3 rfl;refine bj (v:=ew #[an va pre.length vc,ao ar ((k:Int)+o),ao ar e]) (by simp[cD,Tryz.results36,go_sem,hx,hy,hz]) rfl ?_;rw[HD.out];exact⟨an va pre.length vc,by simp,((aS.moved (w':=aj w2 w.heap.size 0 [an va pre.length vc,ao ar ((k:Int)+o),ao ar e]) M.out.1 (fun q hq=>aR _ _ 0 _ q (by have:=(cy M.out.1 q hq).1;omega))).base_le (pA _)).alloc _,(aZ _ _ lz [an va pre.length vc,ao ar ((k:Int)+o),ao ar e] 0 _ _ M.out.2.2).alloc (by rw[aD];exact M.out.2.2.size) _⟩
   |tok kd sz=>
    have HD:=Hh (HR.out.tok Ag hb1 ho);have A6:=dC ho;rw[bm,<-ak] at A6;have Ah:au ((s.data.toList.drop k).take sz)=s.extract k (k+sz):=jA (by rw[fU,aV,gO];congr 1;omega);rw[Ah] at HD;have AA:(s.extract k (k+sz)).size=sz:=by rw[gx];omega
    rw[ho] at hO;simp only[Bz] at hO;clear HR hb1 ho Ah;generalize s.extract k (k+sz)=tx at *;go_wp2_with fail;refine (hB _).mono ?_;rintro _ _ ⟨rfl,hw1⟩;cases hw1
    go_wp2_with fail;refine (hO _ hs hlt).mono ?_;rintro _ w2 ⟨v2,rfl,G,K⟩;obtain⟨ua,uc,rfl⟩:=G.len;obtain⟨ub,uo,rfl,A7,q0,q1,q2⟩:=aP.get (aS.toks G) (j:=0) (by simp);simp only[bc,cY,df,eg,iz,eA] at q0 q1 q2 G;go_wp2_with (with_reducible first|refine aL ?_)
    refine Stop.out ?_;have Ab:=((Aa.below K lz).alloc (aE #[an (aw ⟨ub,uo,aq⟩) 1 uc,ao ar 0,ao ar 0] 81)).alloc (aE #[ao ar (kd:Nat),al tx,ao ar (k:Nat)] 62);have A8:=(cy G ub rfl).1;refine kT rfl _ _ rfl (w.heap.size+1) pre ⟨(kd:Nat),tx,(k:Nat)⟩ Ab (w2.heap.size+1) rfl (by simp) (by simp) (by simp) (by omega) (by have:=K.size;simp;omega) _ (ba _ _) ?_;intro v' w' hown' hb9 hg';have Ai:cj w.heap.size w w':=(((hb.trans (K.mono hb.size)).alloc (Nat.le_trans hb.size K.size) (aE #[an (aw ⟨ub,uo,aq⟩) 1 uc,ao ar 0,ao ar 0] 81)).alloc (by have:=hb.size;have:=K.size;simp;omega) (aE #[ao ar (kd:Nat),al tx,ao ar (k:Nat)] 62)).trans (hb9.mono (pA _));have Ac:∀b,(Value.slice va pre.length vc).ownBlock=aw b->b<wr.heap.size:=fun b hbb=>(cy Aa b hbb).2;have AD:=K.size;have Aq:aa w' w.heap.size #[an aq 0 0,ao ar 0,ao ar 0] 81:=(((hc.below K hl).alloc _).alloc _).kept hg' (fun e=>by have:=(cy Aa _ e.symm).1;omega);have Af:aa w' w2.heap.size #[an (aw ⟨ub,uo,aq⟩) 1 uc,ao ar 0,ao ar 0] 81:=((aa.new w2 _ _).alloc _).kept hg' (fun e=>by have:=Ac _ e.symm;omega)
    have AF:w'.cell? ⟨ub,uo+1,aq⟩=aw (al tx):=by
     rw[jC (hg'.block ub (by simp;omega) (fun e=>by have:=Ac _ e.symm;omega))];rw[kc _ _ _ (by simp;omega),kc _ _ _ A7];exact q1
    have AE:=Af.lt;have M:=Jh hown' (cE Aq Ai);obtain⟨xa,xc,A9⟩:=hown'.len;subst A9;clear hown' Ai hb9 hg' Aq Ab G K Aa hc hb q0 q1 q2 Ac;obtain⟨Ar,Au,As,Av,At,Aw⟩:=Af.n3 rfl;clear Af;go_wp2;go_roundw
    .exact⟨k+sz,_,by go_num,by omega,HD.out,by simpa using M.out.1,M.out.2.1,M.out.2.2⟩
    simp[cR];omega
 .obtain rfl:k=s.size:=by omega
  have HD:=Hh (hR.done (ak s));obtain⟨va,vc,rfl⟩:=Aa.len;have Az:=hc;have M:=Jh Aa hb;clear hR Aa hb;obtain⟨A0,A3,A1,A4,A2,A5⟩:=hc.n3 rfl;go_wp2;have hq:=((Az.setI 0 (an va pre.length vc)).setI 1 (ao ar (-1))).setI 2 (ao ar 0);obtain⟨hx,hy,hz⟩:=hq.m3 rfl;refine bj (v:=ew #[an va pre.length vc,ao ar (-1),ao ar 0]) (by simp[cD,Tryz.results36,go_sem,hx,hy,hz]) rfl ?_;rw[HD.out];exact⟨_,rfl,(M.out.1.moved (fun q hq=>aR _ [an va pre.length vc,ao ar (-1),ao ar 0] 0 _ q (by have:=(cy M.out.1 q hq).1;omega))).base_le (pA _),aZ _ _ lz [an va pre.length vc,ao ar (-1),ao ar 0] 0 _ _ M.out.2⟩
structure MI(B:Nat)(w:cd)(lv:cq)(D:List (kE×List ae))(nv:kE)(cur:List ae):Prop where
 own:w.ownsRow B 55 1 lv D.length (D.map fun d=>dS d.1)
 tk:aS B w (dS nv) cur
 fin:∀d∈D,aS B w (dS d.1) d.2/\∀k,(dS d.1).ownBlock=aw k->(dS nv).ownBlock≠aw k
section
variable {B:Nat} {w w':cd} {lv v':cq} {D:List (kE×List ae)} {nv:kE} {cur:List ae}
theorem MI.below(h:MI B w lv D nv cur)(hb:cj w.heap.size w w'):MI B w' lv D nv cur:=
 ⟨cZ h.own (fun k e=>hb.block k (cy h.own k e).2),h.tk.below hb lz,fun d hd=>⟨(h.fin d hd).1.below hb lz,(h.fin d hd).2⟩⟩
theorem MI.push(h:MI B w lv D nv cur)(c:w.grownBy w' lv.ownBlock)(b:w'.ownsRow B 55 1 v' (D.length+1) ((D.map fun d=>dS d.1)++[dS nv])) :
  MI B w' v' (D++[(nv,cur)]) (aq,0,0) []:=by
 have a:∀v l,aS B w v l->aS B w' v l:=fun v l hv=>hv.moved fun k e=>c.block k (cy hv k e).2 (fun q=>nz hv h.own (by decide) k e q.symm);refine⟨?_,aS.nil,fun d hd=>?_⟩
 .rw[eJ,cm,eh]
  exact b
 .rcases cX.1 hd with hd|hd
  .exact⟨a _ _ (h.fin d hd).1,fun k _ e=>by cases e⟩
  .rw[de.1 hd]
   exact⟨a _ _ h.tk,fun k _ e=>by cases e⟩
theorem MI.tok{t:ae}{gb cap:Nat}(h:MI B w lv D nv cur)(l:w.grownBy w' (dS nv).ownBlock)(j:aS B w' (an (aw ⟨gb,0,aq⟩) (cur.length+1) cap) (cur++[t]))(c:(dS nv).ownBlock=aw gb\/w.heap.size<=gb) :
  MI B w' lv D (aw ⟨gb,0,aq⟩,cur.length+1,cap) (cur++[t]):=by
 refine⟨cZ h.own (fun k e=>l.block k (cy h.own k e).2 (fun q=>nz h.tk h.own (by decide) k q.symm e)),j,fun d hd=>?_⟩;obtain⟨f,i⟩:=h.fin d hd;refine⟨f.moved fun k e=>l.block k (cy f k e).2 (fun q=>i k e q.symm),fun k e q=>?_⟩;have q:gb=k:=by simpa [dS,ev] using q
 subst q;rcases c with c|c
 .exact i _ e c
 .have:=(cy f _ e).2;omega
theorem MI.done(h:MI B w lv D nv cur):mr B w lv (D.map (·.2)):=by
 have a:aI dS 55 B w lv (D.map (·.1)):=by
  show w.ownsRow B _ 1 lv (D.map (·.1)).length ((D.map (·.1)).map dS);rw[cW,List.map_map];exact h.own
 refine⟨D.map (·.1),a.row,by simp,fun j h1 h2=>?_⟩;rw[ju,ju];exact (h.fin _ (cH _)).1
end
theorem pU{a:Act}(C:p.guard=aq)(s x:Operand)(F:p.op=.call { callee:=.builtin .append,args:=#[s,x],argTypes:=#[40,40] })(B:Nat)(lv:cq)(D:List (kE×List ae))(d:kE)(I:a.eval s=lv)(A:w.ownsRow B 55 1 lv D.length (D.map fun d=>dS d.1))(g:Nat)(J:a.eval x=an (aw ⟨g,0,aq⟩) 1 1)(H:aa w g #[dS d] 55)(L:D.length<=1000000)(f:B<=w.heap.size)(G:∀g2 c2 w',w'.ownsRow B 55 1 (an (aw ⟨g2,0,aq⟩) (D.length+1) c2) (D.length+1) ((D.map fun d=>dS d.1)++[dS d])->w.grownBy w' lv.ownBlock->
   gE bh ops Q rest (a.put p.dst (an (aw ⟨g2,0,aq⟩) (D.length+1) c2)) w'):gE bh ops Q (p::rest) a w:=by
 obtain⟨i,Aa,Ab,Ac,Ad⟩:=info_parts Tryz.infoSlT;refine n8 w C s x 40 F B 55 i _ 1 24 Tryz.underlying40 Aa Ab Ac Ad rfl (by decide) lv D.length (D.map fun d=>dS d.1) I A ⟨g,0,aq⟩ 1 1 [dS d] J rfl ?_ ?_ (by omega) (by unfold cV;omega) (by omega) f _ rfl (fun g2 c2 w' h1 h2 _ _=>G g2 c2 w' h1 h2)
 .intro j u q
  rw[iS,df];exact H.cell _ _ (by simpa using q)
 .intro u q
  rw[de.1 q];rfl
theorem mr.base_le{B2:Nat}{L:List (List ae)}(h:mr B w v L)(i:B2<=B):mr B2 w v L:=by
 obtain⟨g,a,c,f⟩:=h;exact⟨g,a,c,fun j q1 q2=>(f j q1 q2).base_le i⟩
theorem Sc(h:0<s.size):mG s.data.toList=(s[s.size-1]'(by omega) != 10):=by
 have b:s.data.toList.length=s.size:=aM s;unfold mG;rw[gk,br (by omega)];simp only[b];rfl
theorem G5(J:E7)(w:cd)(hs:J.size<=800000) :
  cJ bh 15 #[al J] w fun e w'=>∃v,e=bk v/\mr w.heap.size w' v (jG J.data.toList)/\cj w.heap.size w w':=by
 have hL:=GZ J w (by omega);have Aq:=oh J.data.toList.length J.data.toList 0 lz;have A5:J.data.toList.length=J.size:=aM J;obtain⟨R,hR⟩:=exq (jG J.data.toList);rw[<-hR];unfold jG at hR;generalize aC J.data.toList 0=X at *;obtain⟨Aa,Al,er⟩:=X;simp only at hL Aq hR;go_in;go_wp2_with fail;refine hL.mono ?_;clear hL;rintro _ w1 ⟨v,rfl,hO,hb1⟩;obtain⟨a,c,rfl⟩:=r9 hO;have At:=hO.toks;have Av:cj w.heap.size w (w1.alloc (aE #[an a Aa.length c,ao ar Al,ao ar er] 81)):=hb1.alloc hb1.size _;have Aw:=aa.new w1 #[an a Aa.length c,ao ar Al,ao ar er] 81;have Au:=At.below ((ba _ w1).alloc lz (aE #[an a Aa.length c,ao ar Al,ao ar er] 81)) lz;have H2:=Jh Av (cE Aw Au);clear hO At hb1 Av Aw Au
 by_cases he:er=0
 .subst he
  rw[E4 rfl] at hR;have HR:=Hh hR;clear hR;go_wp2_with fail;generalize w1.alloc (aE #[an a Aa.length c,ao ar Al,ao ar 0] 81)=P at *;have Ar:=H2.out.2.1.lt
  have A2:Aa.length<=c/\c<=9223372036854775807:=by
   obtain⟨a',c',e',q1,q2,-⟩:=H2.out.2.2.len;cases e'
   unfold cV at q2;exact⟨q1,q2⟩
  generalize w1.heap.size=bx at *;go_loopw [4,5,6] (fun lv nv i wr=>∃(k:Nat) (D:List (kE×List ae)) (s:kE) (cur:List ae),k<=Aa.length/\i=ao ar (k:Int)/\nv=dS s/\Hid (MI P.heap.size wr lv D s cur/\R=D.map (·.2)++jS (Aa.drop k) cur (mG J.data.toList)/\D.length<=k/\cur.length<=k/\cj P.heap.size P wr)) (fun _ _ i _=>Aa.length-(cR i).toNat)
  .exact⟨0,[],(aq,0,0),[],ck _,rfl,rfl,Hh ⟨⟨ir _ _ _ _,aS.nil,fun d hd=>by cases hd⟩,by rw[HR.out];rfl,cA _,cA _,ba _ _⟩⟩
  obtain⟨k,D,s,cur,hk,rfl,rfl,H⟩:=hrel;obtain⟨na,nn,nc⟩:=s;obtain⟨a',c',e'⟩:=H.out.1.tk.len;simp only[dS,fS] at e';obtain⟨rfl,rfl,rfl⟩:=e';obtain⟨la,lc,rfl⟩:=r9 H.out.1.own;simp only[dS];have A0:=H.out.2.2.2.2.size;have Ap:=H2.out.2.1.below H.out.2.2.2.2 Ar;have Az:=Ap.lt;obtain⟨Af,Ai,Ag,Aj,Ah,Ak⟩:=Ap.n3 rfl;clear Ap
  by_cases V:k<Aa.length
  .obtain⟨b,A6,rfl,A3,c0,c1,c2⟩:=(H2.out.2.2.below H.out.2.2.2.2 lz).get V
   have Am:=H.out.2.1;rw[cg V] at Am;generalize Aa[k]=t at *;obtain⟨Y,tx,ps⟩:=t;simp only at c0 c1 c2;rw[jS] at Am;have Ac:=Hh Am;clear Am
   by_cases h5:Y=5
   .subst h5
    have Ab:Hid (R=D.map (·.2)++cur::jS (Aa.drop (k+1)) [] (mG J.data.toList)):=Hh (by rw[Ac.out,E4 rfl]);clear Ac;go_wp2_with (with_reducible first|refine aL ?_)
    refine Stop.out ?_;have Q:=(ba _ wr).alloc lz (aE #[an na cur.length nc] 55);refine pU rfl _ _ rfl P.heap.size (an la D.length lc) D (na,cur.length,nc) rfl (by exact (H.out.1.below Q).own) wr.heap.size rfl (aa.new wr _ _) (by have:=H.out.2.2.1;omega) (by simp;omega) ?_;intro g3 c3 w3 B K;have Ad:=(H.out.1.below Q).push K B;have Ae:=(H.out.2.2.2.2.alloc H.out.2.2.2.2.size (aE #[an na cur.length nc] 55)).grown K (by simp;omega) (fun k e=>(cy H.out.1.own k e).1);have HN:Hid (MI P.heap.size w3 (an (aw ⟨g3,0,aq⟩) (D.length+1) c3) (D++[((na,cur.length,nc),cur)]) (aq,0,0) []/\R=(D++[((na,cur.length,nc),cur)]).map (·.2)++jS (Aa.drop (k+1)) [] (mG J.data.toList)/\(D++[((na,cur.length,nc),cur)]).length<=k+1/\([]:List ae).length<=k+1/\cj P.heap.size P w3):=Hh ⟨Ad,by rw[Ab.out];simp,by simp;have:=H.out.2.2.1;omega,ck _,Ae⟩;clear Ad Ae B K Q c0 c1 c2 Af Ag Ah Ai Aj Ak;go_wp2;go_roundw
    .exact⟨k+1,_,_,_,V,by go_num,rfl,HN⟩
    simp[cR]<;>omega
   .have e5:(Y==5)=false:=by simpa using h5
    have Ab:Hid (R=D.map (·.2)++jS (Aa.drop (k+1)) (cur++[⟨Y,tx,ps⟩]) (mG J.data.toList)):=Hh (by rw[Ac.out,E6 h5]);clear h5 Ac;go_wp2_with (with_reducible first|refine aL ?_)
    refine Stop.out ?_;have Q:=(ba _ wr).alloc lz (aE #[ao ar Y,al tx,ao ar ps] 62);refine iE rfl _ _ rfl P.heap.size cur ⟨Y,tx,ps⟩ (by exact (H.out.1.below Q).tk) wr.heap.size rfl (aa.new wr _ _) (by have:=H.out.2.2.2.1;omega) (by simp;omega) _ rfl ?_;intro g3 c3 w3 B K hat3 hlt3;have Ad:=(H.out.1.below Q).tok K B (hat3.imp id (fun q=>ox q.symm));have Ae:=(H.out.2.2.2.2.alloc H.out.2.2.2.2.size (aE #[ao ar Y,al tx,ao ar ps] 62)).grown K (by simp;omega) (fun k e=>(cy H.out.1.tk k e).1);have HN:Hid (MI P.heap.size w3 (an la D.length lc) D (aw ⟨g3,0,aq⟩,cur.length+1,c3) (cur++[⟨Y,tx,ps⟩])/\R=D.map (·.2)++jS (Aa.drop (k+1)) (cur++[⟨Y,tx,ps⟩]) (mG J.data.toList)/\D.length<=k+1/\(cur++[(⟨Y,tx,ps⟩:ae)]).length<=k+1/\cj P.heap.size P w3):=Hh ⟨Ad,Ab.out,by have:=H.out.2.2.1;omega,by simp;have:=H.out.2.2.2.1;omega,Ae⟩;clear Ad Ae B K Q c0 c1 c2 Af Ag Ah Ai Aj Ak;go_wp2;go_roundw
    .exact⟨k+1,_,_,_,V,by go_num,rfl,HN⟩
    simp[cR]<;>omega
  .obtain rfl:k=Aa.length:=by omega
   have Ac:Hid (R=D.map (·.2)++if mG J.data.toList then [cur] else []):=Hh (by rw[H.out.2.1,ei];rfl);have HF:Hid (∀{v:cq} {L:List (List ae)} {W:cd},mr P.heap.size W v L->mr w.heap.size W v L):=Hh fun h=>h.base_le H2.out.1.size;have An:Hid (∀W,cj P.heap.size P W->cj w.heap.size w W):=Hh fun W h=>H2.out.1.trans (h.mono H2.out.1.size)
   by_cases h0:J.size=0
   .have Ab:Hid (R=D.map (·.2)):=Hh (by
     have e:J.data.toList=[]:=cC (by rw[aM];exact h0);rw[Ac.out,e]
     simp[mG])
    go_wp2;go_ret;exact⟨_,rfl,by rw[Ab.out];exact HF.out H.out.1.done,An.out _ H.out.2.2.2.2⟩
   .have Ay:0<J.size:=by omega
    have As:=Hh (Sc Ay);have i1:eC.i64.wrap ((J.size:Int)-1)=((J.size-1:Nat):Int):=by rw[cU _ (by omega)];omega
    have i2:(0:Int)<(J.size:Int):=by omega
    have i3:0<=((J.size-1:Nat):Int)/\((J.size-1:Nat):Int)<(J.size:Int):=by omega
    obtain⟨ch,Ao⟩:∃ch:Nat,(J[J.size-1]'(by omega)).toNat=ch:=⟨_,rfl⟩;have Ax:=Hh Ao
    by_cases T:ch=10
    .have Ab:Hid (R=D.map (·.2)):=Hh (by
      have e:J[J.size-1]'(by omega)=10:=nf.1 (by rw[Ax.out,T];rfl);rw[Ac.out,As.out,e]
      simp)
     subst T;go_wp2;go_ret;exact⟨_,rfl,by rw[Ab.out];exact HF.out H.out.1.done,An.out _ H.out.2.2.2.2⟩
    .have A1:((ch:Int) != 10)=true:=by simp;omega
     have Ab:Hid (R=D.map (·.2)++[cur]):=Hh (by
      have e:(J[J.size-1]'(by omega) != 10)=true:=by
       rw[bne_iff_ne];intro e;rw[e] at Ao;exact T Ao.symm
      rw[Ac.out,As.out,e]
      simp)
     clear T;go_wp2_with (with_reducible first|refine aL ?_)
     refine Stop.out ?_;have Q:=(ba _ wr).alloc lz (aE #[an na cur.length nc] 55);refine pU rfl _ _ rfl P.heap.size (an la D.length lc) D (na,cur.length,nc) rfl (by exact (H.out.1.below Q).own) wr.heap.size rfl (aa.new wr _ _) (by have:=H.out.2.2.1;omega) (by simp;omega) ?_;intro g3 c3 w3 B K;have Ad:=(H.out.1.below Q).push K B;have Ae:=(H.out.2.2.2.2.alloc H.out.2.2.2.2.size (aE #[an na cur.length nc] 55)).grown K (by simp;omega) (fun k e=>(cy H.out.1.own k e).1);have HN:=Jh (HF.out Ad.done) (An.out _ Ae);clear Ad Ae B K Q;go_wp2;go_ret;exact⟨_,rfl,by rw[Ab.out];have q:=HN.out.1;rw[eJ] at q;exact q,HN.out.2⟩
 .rw[E6 he] at hR
  have A4:(er != 0)=true:=by simpa using he
  clear he;subst hR;go_wp2;go_ret;exact⟨_,rfl,mr.nil,H2.out.1⟩
def Lf:ae:=⟨0,⟨#[]⟩,0⟩
def xA(r:List ae):ae:=(dX r).head?.getD Lf
def pq(r:List ae):ae:=(dX r).getLast?.getD Lf
theorem Q0(r:List ae):bZ (xA r) mZ=lW r:=by
 unfold xA lW;cases dX r<;>rfl
theorem Qu(r:List ae):bZ (pq r) pg=jy r:=by
 unfold pq jy;cases (dX r).getLast?<;>rfl
def jg(l:Bs):Nat->Nat
 |0=>0
 |n+1=>if l[n]?=aw 10 then n+1 else jg l n
def jc(l:Bs)(fr en:Nat):Bool:=((l.take en).drop fr).all fun c=>decide (c=32)
theorem FX(l:Bs):∀n,jg l n<=n
 |0=>cA _
 | n+1=>by
  rw[jg];split
  .exact cA _
  .have:=FX l n;omega
theorem Ev(s:E7)(n:Nat)(w:cd)(H:n<=s.size)(I:s.size<=1000000):cJ bh 44 #[al s,ao ar (n:Nat)] w fun e w'=>e=bk (ao ar (jg s.data.toList n:Nat))/\w'=w:=by
 go_in;go_wp2;go_loopw [1] (fun i wr=>∃k:Nat,k<=n/\i=ao ar (k:Int)/\Hid (jg s.data.toList k=jg s.data.toList n)/\wr=w) (fun i _=>(cR i).toNat)
 .exact⟨n,cA _,rfl,Hh rfl,rfl⟩
 obtain⟨k,G,rfl,x,rfl⟩:=hrel
 cases k with
 |zero=>
  go_wp2;go_ret;rw[<-x.out];exact⟨rfl,rfl⟩
 |succ k=>
  have Aa:k<s.size:=by omega
  have k0:eC.i64.wrap ((k:Int)+1-1)=(k:Int):=by rw[cU _ (by omega)];omega
  have D:jg s.data.toList (k+1)=if (s[k]'Aa).toNat=10 then k+1 else jg s.data.toList k:=by
   rw[jg];have:s.data.toList[k]?=aw (s[k]'Aa):=br (by rw[aM];exact Aa);rw[this]
   by_cases h:(s[k]'Aa).toNat=10
   .rw[E4 h,E4 (by congr 1;exact nf.1 h)]
   .rw[E6 h,E6 (fun q=>h (by rw[dt q];rfl))]
  have C:=Hh D;clear D;have Ab:(0:Int)<(k:Int)+1:=by omega
  have Ad:(0:Int)<=(k:Int)/\(k:Int)<s.size:=by omega
  obtain⟨c,F⟩:∃c:Nat,(s[k]'Aa).toNat=c:=⟨_,rfl⟩;rw[F] at C
  by_cases u:c=10
  .subst u
   go_wp2;go_ret;rw[<-x.out,C.out];exact⟨rfl,rfl⟩
  .have Ac:((c:Int) != 10)=true:=by rw[bne_iff_ne];omega
   have E:Hid (jg s.data.toList k=jg s.data.toList n):=Hh (by rw[<-x.out,C.out,E6 u]);clear u C x;go_wp2;go_roundw
   .exact⟨k,by omega,by first|rfl|go_num,E,by first|rfl|trivial⟩
   simp[cR]<;>omega
theorem Bo(s:E7)(fr q:Nat)(w:cd)(I:q<=s.size)(H:fr<=s.size)(J:s.size<=1000000):cJ bh 45 #[al s,ao ar (fr:Nat),ao ar (q:Nat)] w fun e w'=>e=bk (cG (jc s.data.toList fr q))/\w'=w:=by
 go_in;go_wp2;go_loopw [7] (fun i wr=>∃k:Nat,fr<=k/\(k<=q\/k=fr)/\i=ao ar (k:Int)/\Hid (jc s.data.toList k q=jc s.data.toList fr q)/\wr=w) (fun i _=>q-(cR i).toNat)
 .exact⟨fr,cA _,.inr rfl,rfl,Hh rfl,rfl⟩
 obtain⟨k,Ad,G,rfl,v,rfl⟩:=hrel
 by_cases D:k<q
 .have Aa:k<s.size:=by omega
  have E:jc s.data.toList k q=(decide ((s[k]'Aa).toNat=32)&&jc s.data.toList (k+1) q):=by
   unfold jc;have Ab:k<(s.data.toList.take q).length:=by rw[c8,aM];omega
   rw[cg Ab,List.all_cons,List.getElem_take];have:s.data.toList[k]'(by rw[aM];exact Aa)=s[k]'Aa:=rfl;rw[this]
   congr 1
   exact decide_eq_decide.2 ⟨fun h=>by rw[h];rfl,fun h=>nf.1 h⟩
  have x:=Hh E;clear E;obtain⟨c,F⟩:∃c:Nat,(s[k]'Aa).toNat=c:=⟨_,rfl⟩;rw[F] at x
  by_cases u:c=32
  .subst u
   have C:Hid (jc s.data.toList (k+1) q=jc s.data.toList fr q):=Hh (by rw[<-v.out,x.out];rfl);clear x v;go_wp2;go_roundw
   .exact⟨k+1,by omega,.inl D,by go_num,C,by first|rfl|trivial⟩
   simp[cR]<;>omega
  .have Ac:((c:Int) != 32)=true:=by rw[bne_iff_ne];omega
   have C:Hid (jc s.data.toList fr q=false):=Hh (by rw[<-v.out,x.out,decide_eq_false u];rfl);clear u x v;go_wp2;go_ret;rw[C.out];exact⟨rfl,rfl⟩
 .have C:Hid (jc s.data.toList fr q=true):=Hh (by
   rw[<-v.out];unfold jc;rw[fg (by rw[c8];omega)]
   first|rfl|trivial)
  clear v;go_wp2;go_ret;rw[C.out];exact⟨rfl,rfl⟩
theorem SG(x y:Int)(s:E7):∀v∈(#[ao ar x,al s,ao ar y]:Array cq).toList,v.oneCell'=true:=by
 intro v a;simp at a
 rcases a with rfl|rfl|rfl<;>rfl
theorem EU(w:cd)(lv:cq)(L:List (List ae))(h:mr B w lv L)(Q:∀r∈L,F9 r)(hl:∀r∈L,r.length<=1000000)(hn:L.length<=1000000)(i:Nat)(hi:i<L.length):cJ bh 42 #[lv,ao ar (i:Nat)] w fun e w'=>e=bk (fo (xA L[i]))/\cj w.heap.size w w':=by
 obtain⟨a,c,rfl,Ah,Ae,-⟩:=h.len;unfold cV at Ae;obtain⟨b,Ai,s,rfl,Af,Ab,u⟩:=h.get hi;have Q:=Q L[i] (cH hi);have hl:=hl L[i] (cH hi);have HO:=Hh Ab;generalize L[i]=r at *;have Ac:cj w.heap.size w (w.alloc (aE #[ao ar 0,al ⟨#[]⟩,ao ar 0] 62)):=(ba _ w).alloc lz _;have R:=A9 _ r _ (Ab.toks.below Ac lz) hl;rw[Hg Q] at R;have Al:(dX r).length<=r.length:=vf _ _;have N:Hid (xA r=((dX r).head?).getD Lf):=Hh rfl;have HC:=Hh (aa.new w #[ao ar 0,al ⟨#[]⟩,ao ar 0] 62);have Ag:=Ac.cell (p:=⟨b,Ai+i,aq⟩) Af;rw[u] at Ag;have Ad:b<(w.alloc (aE #[ao ar 0,al ⟨#[]⟩,ao ar 0] 62)).heap.size:=cT Af Ac.size;generalize dX r=p at *;have Aj:=Hh Ac;clear h Q Ab Ac;go_in;go_wp2_with fail;refine R.mono ?_;clear R;rintro _ w2 ⟨v,rfl,hO,E⟩;have K:=hO.toks;obtain⟨a,c,rfl,Ah,Ae,-⟩:=K.len;unfold cV at Ae;have Y:=Hh (av Aj.out E);have M:=HC.out.below E HC.out.lt;have J:=Hh M;have Ao:=M.lt;clear hO E Ag Ad u
 cases p with
 |nil=>
  clear K;clear M;go_wp2_with (with_reducible first|refine bv ?_)
  refine Stop.out ?_;refine az rfl 62 _ _ rfl rfl _ rfl (#[ao ar 0,al ⟨#[]⟩,ao ar 0]) rfl _ _ J.out rfl (by kernel_rfl) (SG _ _ _) ?_;have u:aa (w2.setRow w.heap.size #[ao ar 0,al ⟨#[]⟩,ao ar 0]) w.heap.size #[ao ar 0,al ⟨#[]⟩,ao ar 0] 62:=fR _ _ _ _ _ _ J.out;have S:=u.cell 0 (ao ar 0) rfl;have V:=u.cell 1 (al ⟨#[]⟩) rfl;have W:=u.cell 2 (ao ar 0) rfl;go_wp2_with fail;refine bj (v:=ew #[ao ar 0,al ⟨#[]⟩,ao ar 0]) (by simp[cD,Tryz.results42,go_sem,S,V,W]) rfl ?_;exact⟨by rw[N.out];rfl,fy Y.out lz _⟩
 |cons t0 q=>
  obtain⟨n,Aa⟩:=exq ((t0::q).length);have An:0<n:=by rw[Aa];simp
  rw[<-Aa] at Ah Al;obtain⟨b,Ai,rfl,Am,c0,c1,c2⟩:=K.get (j:=0) (by rw[<-Aa];omega)
  have Ak:Hid (xA r=((t0::q)[0]'(by rw[<-Aa];omega))):=Hh (by
   rw[N.out]
   rfl)
  rw[<-Aa];generalize (t0::q)[0]'(by rw[<-Aa];omega)=t at *;obtain⟨F,I,H⟩:=t;simp only at c0 c1 c2
  (try simp only[iz,eA] at c0 c1 c2)
  clear K Aa N;have i1:eC.i64.wrap ((n:Int)-1)=((n-1:Nat):Int):=by rw[cU _ (by omega)];omega
  have i2:(0:Int)<(n:Int):=by omega
  clear M;go_wp2_with (with_reducible first|refine bv ?_)
  refine Stop.out ?_;refine az rfl 62 _ _ rfl rfl _ rfl (#[ao ar F,al I,ao ar H]) rfl _ _ J.out rfl (by kernel_rfl) (SG _ _ _) ?_;have u:aa (w2.setRow w.heap.size #[ao ar F,al I,ao ar H]) w.heap.size #[ao ar F,al I,ao ar H] 62:=fR _ _ _ _ _ _ J.out;have S:=u.cell 0 (ao ar F) rfl;have V:=u.cell 1 (al I) rfl;have W:=u.cell 2 (ao ar H) rfl;go_wp2_with fail;refine bj (v:=ew #[ao ar F,al I,ao ar H]) (by simp[cD,Tryz.results42,go_sem,S,V,W]) rfl ?_;exact⟨by rw[Ak.out],fy Y.out lz _⟩
theorem G6(w:cd)(lv:cq)(L:List (List ae))(h:mr B w lv L)(N:∀r∈L,F9 r)(hl:∀r∈L,r.length<=1000000)(hn:L.length<=1000000)(i:Nat)(hi:i<L.length):cJ bh 41 #[lv,ao ar (i:Nat)] w fun e w'=>e=bk (fo (pq L[i]))/\cj w.heap.size w w':=by
 obtain⟨a,c,rfl,Ah,Ae,-⟩:=h.len;unfold cV at Ae;obtain⟨b,Ai,s,rfl,Af,Ab,u⟩:=h.get hi;have N:=N L[i] (cH hi);have hl:=hl L[i] (cH hi);have HO:=Hh Ab;generalize L[i]=r at *;have Ac:cj w.heap.size w (w.alloc (aE #[ao ar 0,al ⟨#[]⟩,ao ar 0] 62)):=(ba _ w).alloc lz _;have Q:=A9 _ r _ (Ab.toks.below Ac lz) hl;rw[Hg N] at Q;have Al:(dX r).length<=r.length:=vf _ _;have M:Hid (pq r=((dX r).getLast?).getD Lf):=Hh rfl;have W:=Hh (aa.new w #[ao ar 0,al ⟨#[]⟩,ao ar 0] 62);have Ag:=Ac.cell (p:=⟨b,Ai+i,aq⟩) Af;rw[u] at Ag;have Ad:b<(w.alloc (aE #[ao ar 0,al ⟨#[]⟩,ao ar 0] 62)).heap.size:=cT Af Ac.size;generalize dX r=p at *;have Aj:=Hh Ac;clear h N Ab Ac;go_in;go_wp2_with fail;refine Q.mono ?_;clear Q;rintro _ w2 ⟨v,rfl,hO,A⟩;have J:=hO.toks;obtain⟨a,c,rfl,Ah,Ae,-⟩:=J.len;unfold cV at Ae;have V:=Hh (av Aj.out A);have K:=W.out.below A W.out.lt;have I:=Hh K;have Ao:=K.lt;clear hO A Ag Ad u
 cases p with
 |nil=>
  clear J;clear K;go_wp2_with (with_reducible first|refine bv ?_)
  refine Stop.out ?_;refine az rfl 62 _ _ rfl rfl _ rfl (#[ao ar 0,al ⟨#[]⟩,ao ar 0]) rfl _ _ I.out rfl (by kernel_rfl) (SG _ _ _) ?_;have u:aa (w2.setRow w.heap.size #[ao ar 0,al ⟨#[]⟩,ao ar 0]) w.heap.size #[ao ar 0,al ⟨#[]⟩,ao ar 0] 62:=fR _ _ _ _ _ _ I.out;have R:=u.cell 0 (ao ar 0) rfl;have S:=u.cell 1 (al ⟨#[]⟩) rfl;have U:=u.cell 2 (ao ar 0) rfl;go_wp2_with fail;refine bj (v:=ew #[ao ar 0,al ⟨#[]⟩,ao ar 0]) (by simp[cD,Tryz.results41,go_sem,R,S,U]) rfl ?_;exact⟨by rw[M.out];rfl,fy V.out lz _⟩
 |cons t0 q=>
  obtain⟨n,Aa⟩:=exq ((t0::q).length);have An:0<n:=by rw[Aa];simp
  rw[<-Aa] at Ah Al;obtain⟨b,Ai,rfl,Am,Y,c1,c2⟩:=J.get (j:=n-1) (by rw[<-Aa];omega)
  have Ak:Hid (pq r=((t0::q)[n-1]'(by rw[<-Aa];omega))):=Hh (by
   rw[M.out]
   simp only[Aa];rw[gk,br (by simp)];rfl)
  rw[<-Aa];generalize (t0::q)[n-1]'(by rw[<-Aa];omega)=t at *;obtain⟨E,H,F⟩:=t;simp only at Y c1 c2
  (try simp only[iz,eA] at Y c1 c2)
  clear J Aa M;have i1:eC.i64.wrap ((n:Int)-1)=((n-1:Nat):Int):=by rw[cU _ (by omega)];omega
  have i2:(0:Int)<(n:Int):=by omega
  clear K;go_wp2_with (with_reducible first|refine bv ?_)
  refine Stop.out ?_;refine az rfl 62 _ _ rfl rfl _ rfl (#[ao ar E,al H,ao ar F]) rfl _ _ I.out rfl (by kernel_rfl) (SG _ _ _) ?_;have u:aa (w2.setRow w.heap.size #[ao ar E,al H,ao ar F]) w.heap.size #[ao ar E,al H,ao ar F] 62:=fR _ _ _ _ _ _ I.out;have R:=u.cell 0 (ao ar E) rfl;have S:=u.cell 1 (al H) rfl;have U:=u.cell 2 (ao ar F) rfl;go_wp2_with fail;refine bj (v:=ew #[ao ar E,al H,ao ar F]) (by simp[cD,Tryz.results41,go_sem,R,S,U]) rfl ?_;exact⟨by rw[Ak.out],fy V.out lz _⟩
def lI:Int->List (List ae)->List Int
 |_,[]=>[]
 |o,r::L=>eB o r::lI (dn o r) L
theorem mr.far{L:List (List ae)}(h:mr B w (an a n cap) L)(k:j<L.length) :
  ∃b off,∃(sa:Option Addr) (sc:Nat),a=aw ⟨b,off,aq⟩/\b<w.heap.size/\∀W,cj w.heap.size w W->aS B W (an sa L[j].length sc) L[j]/\W.cell? ⟨b,off+j,aq⟩=aw (an sa L[j].length sc)/\b<W.heap.size:=by
 obtain⟨b,off,s,rfl,g,Aa,q⟩:=h.get k;obtain⟨a,c,i⟩:=Aa.len;obtain⟨sa,o,sc⟩:=s;simp only[dS,fS] at i;obtain⟨rfl,rfl,rfl⟩:=i;exact⟨b,off,sa,sc,rfl,g,fun W hW=>⟨Aa.below hW lz,(hW.cell (p:=⟨b,off+j,aq⟩) g).trans q,cT g hW.size⟩⟩
structure OV(B:Nat)(w:cd)(v:cq)(L:List (List ae)):Prop where
 tk:mr B w v L
 nl:∀r∈L,F9 r
 len:∀r∈L,r.length<=1000000
 all:L.length<=1000000
theorem OV.below{L:List (List ae)}(h:OV B w v L)(hb:cj w.heap.size w w'):OV B w' v L:=⟨h.tk.below hb,h.nl,h.len,h.all⟩
theorem IR{L:List (List ae)}(h:OV B w v L)(hi:i<L.length):cJ bh 42 #[v,ao ar (i:Nat)] w fun e w'=>e=bk (fo (xA L[i]))/\cj w.heap.size w w':=EU w v L h.tk h.nl h.len h.all i hi
theorem Fw{L:List (List ae)}(h:OV B w v L)(hi:i<L.length):cJ bh 41 #[v,ao ar (i:Nat)] w fun e w'=>e=bk (fo (pq L[i]))/\cj w.heap.size w w':=G6 w v L h.tk h.nl h.len h.all i hi
theorem ol(W:cd):cJ bh 40 #[fo t,al s] W fun e w'=>e=bk (cG (bZ t s))/\cj W.heap.size W w':=
 (dL t s W).mono fun e w' h=>⟨h.1,by rw[h.2];exact fP W t⟩
theorem G7(w:cd)(lv:cq)(L:List (List ae))(h:OV B w lv L):cJ bh 43 #[lv] w fun e w'=>∃v,e=bk v/\aI jf 3 w.heap.size w' v (lI 0 L)/\cj w.heap.size w w':=by
 obtain⟨a,c,rfl,Am,Al,-⟩:=h.tk.len;unfold cV at Al;have hn:=h.all;have HG:=Hh h;clear h;go_in;go_wp2;go_loopw [3,4,5] (fun lv nv i wr=>∃(k:Nat) (o:Int) (D:List Int),k<=L.length/\i=ao ar (k:Int)/\nv=ao ar o/\-(k:Int)<=o/\o<=k/\aI jf 3 w.heap.size wr lv D/\Hid (D.length=k/\D++lI o (L.drop k)=lI 0 L)/\cj w.heap.size w wr) (fun _ _ i _=>L.length-(cR i).toNat)
 .exact⟨0,0,[],ck _,rfl,rfl,by omega,by omega,aI.nil,Hh ⟨rfl,rfl⟩,ba _ _⟩
 obtain⟨k,o,D,hk,rfl,rfl,An,Ao,Aa,T,U⟩:=hrel;have Q:=Jh Aa U;obtain⟨oa,oc,rfl,-⟩:=Aa.row.len
 by_cases H:k<L.length
 .have Ag:=IR (HG.out.below U) H
  have Ak:=Hh (fun W (h:cj w.heap.size w W)=>Fw (HG.out.below h) H);have HS:Hid (lI o (L.drop k)=eB o L[k]::lI (dn o L[k]) (L.drop (k+1))):=Hh (by rw[cg H,lI]);have HC:Hid (eB o L[k]=if bZ (xA L[k]) mZ then o-1 else o):=Hh (by rw[Q0];rfl);have HO:Hid (dn o L[k]=if bZ (pq L[k]) pg then eB o L[k]+1 else eB o L[k]):=Hh (by rw[Qu];rfl);have Ah:=fun W=>ol (t:=xA L[k]) (s:=mZ) W;have Ai:=fun W=>ol (t:=pq L[k]) (s:=pg) W;generalize bZ (xA L[k]) mZ=bC at *;generalize bZ (pq L[k]) pg=bO at *;generalize xA L[k]=t1 at *;generalize pq L[k]=t2 at *;generalize L[k]=r at *;clear Aa U;go_wp2_with fail;refine Ag.mono ?_;rintro _ w2 ⟨rfl,J⟩;have Ac:Hid (aI jf 3 w.heap.size w2 (an oa D.length oc) D/\cj w.heap.size w w2):=Hh ⟨Q.out.1.below J lz,av Q.out.2 J⟩;clear Ag Q J;go_wp2_with fail;refine (Ah _).mono ?_;rintro _ X ⟨rfl,K⟩;have Ad:Hid (aI jf 3 w.heap.size X (an oa D.length oc) D/\cj w.heap.size w X):=Hh ⟨Ac.out.1.below K lz,av Ac.out.2 K⟩;clear Ah Ac K;have i1:eC.i64.wrap (o-1)=o-1:=cU _ (by omega);have hD:D.length<=k:=ox T.out.1;have Af:=Ad.out.2.size;have Ab:=fun n=>aI.lit (f:=jf) (E:=3) (base:=X.heap.size) (w:=X) [n] lz (by simp[cV])
  have Ae:=Hh Ab;clear Ab;cases bC
  all_goals
   go_wp2_with (with_reducible first|refine aL ?_)
   refine Stop.out ?_;refine fA (f:=jf) rfl _ _ _ rfl w.heap.size 3 8 (ao ar 0) sB Tryz.infoIntZ rfl (fun _=>rfl) D [_] (by exact Ad.out.1.alloc _) (by exact (Ae.out _).row) (by simp;unfold cV;omega) (by simp;omega) (by simp;omega) w (by exact (Ad.out.2.alloc Af _)) ?_;intro v6 w6 x M hg6;obtain⟨r6,c6,rfl,-⟩:=x.row.len;have Y:=Jh x M;clear x hg6;have Aj:=Ak.out w6 M;clear M;go_wp2_with fail;refine Aj.mono ?_;rintro _ w7 ⟨rfl,N⟩;have H7:=Jh (Y.out.1.below N lz) (av Y.out.2 N);clear Aj Y N;go_wp2_with fail;refine (Ai _).mono ?_;rintro _ w8 ⟨rfl,P⟩;have H8:=Jh (H7.out.1.below P lz) (av H7.out.2 P);clear Ai H7 P;cases bO
   all_goals
    go_wp2;go_roundw
    .exact⟨k+1,_,D++[_],H,by go_num,by go_num,by omega,by omega,by have q:=H8.out.1;simp only[cm,eh] at q;exact q,Hh ⟨by have:=T.out.1;simp;omega,by rw[<-T.out.2,HS.out,HO.out,HC.out];simp⟩,H8.out.2⟩
    simp[cR];omega
 .obtain rfl:k=L.length:=by omega
  have HF:Hid (D=lI 0 L):=Hh (by rw[<-T.out.2,ei];simp[lI]);clear Aa U;go_wp2;go_ret;exact⟨_,rfl,by rw[<-HF.out];exact Q.out.1,Q.out.2⟩
def rY(L:List (List ae)):Nat->Option (List ae)
 |0=>aq
 |k+1=>L[k]?
theorem KL(x:Option (List ae)):uT aq x=false:=by cases x<;>rfl
theorem KM(x:Option (List ae)):uT x aq=false:=by cases x<;>rfl
theorem Nq(w:cd)(lv:cq)(L:List (List ae))(h:OV B w lv L):cJ bh 17 #[lv] w fun e w'=>e=bk (cG (lG aq L))/\cj w.heap.size w w':=by
 obtain⟨a,c,rfl,Aq,Am,-⟩:=h.tk.len;unfold cV at Am;have hn:=h.all;have P:=Hh h;clear h;go_in;go_wp2;go_loopw [3] (fun i wr=>∃k:Nat,k<=L.length/\i=ao ar (k:Int)/\Hid (lG (rY L k) (L.drop k)=lG aq L)/\cj w.heap.size w wr) (fun i _=>L.length-(cR i).toNat)
 .exact⟨0,ck _,rfl,Hh rfl,ba _ _⟩
 obtain⟨k,hk,rfl,I,F⟩:=hrel
 by_cases H:k<L.length
 .obtain⟨b,Ar,sa,sc,rfl,Ao,hq⟩:=P.out.tk.far H
  obtain⟨-,q0,Ap⟩:=hq wr F
  have J:Hid (lG (rY L k) (L.drop k)=((!decide (L[k].length=0) || uT (rY L k) (L.drop (k+1)).head?)&&lG (rY L (k+1)) (L.drop (k+1)))):=Hh (by
   rw[cg H,lG];have:L[k].isEmpty=decide (L[k].length=0):=by cases L[k]<;>rfl
   simp only[rY,br H,this])
  generalize L[k]=r at *;have x:=Hh F;clear F hq;obtain⟨n,Aj⟩:=exq r.length;rw[<-Aj] at q0 J;clear Aj
  by_cases K:n=0
  .subst K
   cases k with
   |zero=>
    rw[eA] at q0;go_wp2;go_ret;rw[<-I.out,J.out,rY,KL];exact⟨rfl,x.out⟩
   |succ m=>
    have kq:eC.i64.wrap ((L.length:Int)-1)=(L.length:Int)-1:=cU _ (by omega);have km:eC.i64.wrap ((m:Int)+1-1)=(m:Int):=by rw[cU _ (by omega)];omega
    have kp:eC.i64.wrap ((m:Int)+1+1)=((m+2:Nat):Int):=by rw[cU _ (by omega)];omega
    have e0:((m:Int)+1==0)=false:=by rw[Fc];omega
    by_cases hl:m+2=L.length
    .have e1:((m:Int)+2==(L.length:Int))=true:=by rw[beq_iff_eq];omega
     have Q:(L.drop (m+1+1)).head?=aq:=by rw[ek (by omega)];rfl
     have Aa:Hid (lG aq L=false):=Hh (by rw[<-I.out,J.out,Q,KM];rfl);clear hl Q;go_wp2;go_ret;rw[Aa.out];exact⟨rfl,x.out⟩
    .have e1:((m:Int)+2==(L.length:Int))=false:=by rw[Fc];omega
     have Ac:m<L.length:=by omega
     have Ad:m+2<L.length:=by omega
     obtain⟨b',An,pa,pc,e',-,hp⟩:=P.out.tk.far Ac;cases e'
     obtain⟨-,p0,pb⟩:=hp _ x.out;have Al:=Hh (fun W (h:cj w.heap.size w W)=>Fw (P.out.below h) Ac);have Ak:=Hh (fun W (h:cj w.heap.size w W)=>IR (P.out.below h) Ad);have Af:=fun W=>ol (t:=pq L[m]) (s:=pg) W;have Ag:=fun W=>ol (t:=xA L[m+2]) (s:=mZ) W
     have Aa:Hid (lG aq L=((!decide (L[m].length=0)&&(!bZ (pq L[m]) pg&&!bZ (xA L[m+2]) mZ))&&lG (rY L (m+2)) (L.drop (m+2)))):=Hh (by
      rw[<-I.out,J.out,Qu,Q0];have Q:(L.drop (m+1+1)).head?=aw L[m+2]:=by rw[List.head?_drop,br Ad]
      have:L[m].isEmpty=decide (L[m].length=0):=by cases L[m]<;>rfl
      rw[Q,rY,br Ac,<-this]
      rfl)
     generalize bZ (pq L[m]) pg=X at *;generalize bZ (xA L[m+2]) mZ=U at *;generalize pq L[m]=t1 at *;generalize xA L[m+2]=t2 at *;generalize L[m]=p at *;obtain⟨pn,Ai⟩:=exq p.length;rw[<-Ai] at p0 Aa;clear Ai hp J I
     by_cases N:pn=0
     .subst N
      go_wp2;go_ret;rw[Aa.out];exact⟨rfl,x.out⟩
     .have e2:((pn:Int)==0)=false:=by rw[Fc];omega
      have Ab:Hid (lG aq L=((!X&&!U)&&lG (rY L (m+2)) (L.drop (m+2)))):=Hh (by rw[Aa.out,decide_eq_false N];rfl);have Ah:=Al.out wr x.out;clear N Aa;go_wp2_with fail;refine (Ah).mono ?_;rintro _ w2 ⟨rfl,F⟩;have x:=Hh (av x.out F);clear F;clear Ah;go_wp2_with fail;refine (Af _).mono ?_;rintro _ w3 ⟨rfl,F⟩;have x:=Hh (av x.out F);clear F;clear Af
      cases X with
      |true=>
       go_wp2;go_ret;rw[Ab.out];exact⟨rfl,x.out⟩
      |false=>
       have Ae:=Ak.out w3 x.out;go_wp2_with fail;refine (Ae).mono ?_;rintro _ w4 ⟨rfl,F⟩;have x:=Hh (av x.out F);clear F;clear Ae;go_wp2_with fail;refine (Ag _).mono ?_;rintro _ w5 ⟨rfl,F⟩;have x:=Hh (av x.out F);clear F;clear Ag
       cases U with
       |true=>
        go_wp2;go_ret;rw[Ab.out];exact⟨rfl,x.out⟩
       |false=>
        go_wp2;go_roundw
        .exact⟨m+2,Nat.le_of_lt Ad,by go_num,Hh (by rw[Ab.out];rfl),x.out⟩
        simp[cR];omega
  .have e2:((n:Int)==0)=false:=by rw[Fc];omega
   have Aa:Hid (lG aq L=lG (rY L (k+1)) (L.drop (k+1))):=Hh (by rw[<-I.out,J.out,decide_eq_false K];rfl);clear K J I;go_wp2;go_roundw
   .exact⟨k+1,H,by go_num,Hh Aa.out.symm,x.out⟩
   simp[cR];omega
 .obtain rfl:k=L.length:=by omega
  have x:=Hh F;have S:=Hh I.out;rw[ei] at S;clear F;go_wp2;go_ret;rw[<-S.out];exact⟨by cases rY L L.length<;>rfl,x.out⟩
def K7(s:E7)(L:List (List ae)):Prop:=∀r∈L,∀t∈r,∃p:Nat,t.pos=(p:Int)/\p+t.text.size<=s.size
def Tn(l:Bs)(d:Int)(r:List ae):Bool:=match r.head? with
 |none=>true
 |some t=>decide (t.pos-(jg l t.pos.toNat:Nat)=2*d)&&jc l (jg l t.pos.toNat) t.pos.toNat
def qo(l:Bs):List (List ae)->Int->Bool
 |[],_=>true
 |r::L,o=>Tn l (eB o r) r&&qo l L (dn o r)
theorem yJ:∀(L:List (List ae)) (o:Int),(lI o L).length=L.length
 |[],_=>rfl
 |r::L,o=>by rw[lI,bc,yJ L,bc]
theorem Qf(o:Int)(r:List ae):o-1<=dn o r/\dn o r<=o+1/\o-1<=eB o r/\eB o r<=o:=by
 unfold dn eB;cases jy r<;>cases lW r<;>simp<;>omega
theorem Np(s:E7)(w:cd)(lv:cq)(L:List (List ae))(h:OV B w lv L)(hP:K7 s L)(hs:s.size<=1000000):cJ bh 18 #[al s,lv] w fun e w'=>e=bk (cG (qo s.data.toList L 0))/\cj w.heap.size w w':=by
 obtain⟨a,c,rfl,As,An,-⟩:=h.tk.len;unfold cV at An;have hn:=h.all;have HG:=Hh h;have HP:=Hh hP;have Ah:=G7 w _ L h;clear h hP;go_in;go_wp2_with fail;refine Ah.mono ?_;clear Ah;rintro _ w1 ⟨dv,rfl,C,R⟩;have Y:=Jh C R;obtain⟨da,dc,rfl,-⟩:=C.row.len;rw[yJ];clear C R;go_wp2;go_loopw [6] (fun i wr=>∃(k:Nat) (o:Int),k<=L.length/\i=ao ar (k:Int)/\-(k:Int)<=o/\o<=k/\Hid ((lI 0 L).drop k=lI o (L.drop k)/\qo s.data.toList (L.drop k) o=qo s.data.toList L 0)/\cj w1.heap.size w1 wr) (fun i _=>L.length-(cR i).toNat)
 .exact⟨0,0,ck _,rfl,by omega,by omega,Hh ⟨rfl,rfl⟩,ba _ _⟩
 obtain⟨k,o,hk,rfl,Aw,Ax,Q,K⟩:=hrel;have H:=Jh K (Y.out.2.trans (K.mono Y.out.2.size))
 by_cases E:k<L.length
 .obtain⟨b,A0,sa,sc,rfl,Ap,hq⟩:=HG.out.tk.far E
  obtain⟨C,q0,Ar⟩:=hq wr H.out.2;have Ab:k<(lI 0 L).length:=by rw[yJ];exact E
  obtain⟨db,Ae,rfl,Al,Aj⟩:=(Y.out.1.row).at Ab
  have Ak:(lI 0 L)[k]=eB o L[k]:=by
   have q:=Q.out.1;rw[cg Ab,cg E,lI] at q;exact (rr q).1
  have dq:=(K.cell (p:=⟨db,Ae+k,aq⟩) Al).trans (Aj k Ab);rw[Ak] at dq;have At:db<wr.heap.size:=cT Al K.size;simp only[jf] at dq
  have HN:Hid ((lI 0 L).drop (k+1)=lI (dn o L[k]) (L.drop (k+1))):=Hh (by
   have q:=Q.out.1;rw[cg Ab,cg E,lI] at q
   exact (rr q).2)
  have U:Hid (qo s.data.toList L 0=(Tn s.data.toList (eB o L[k]) L[k]&&qo s.data.toList (L.drop (k+1)) (dn o L[k]))):=Hh (by rw[<-Q.out.2,cg E,qo]);obtain⟨n1,n2,n3,n4⟩:=Qf o L[k];have Af:=HP.out L[k] (cH E);have Au:=HG.out.len L[k] (cH E);have Z:=C.toks;generalize L[k]=r at *;generalize eB o r=d at *;generalize dn o r=S at *;clear C hq K Ak Aj Q Ab
  cases r with
  |nil=>
   have Aa:Hid (qo s.data.toList (L.drop (k+1)) S=qo s.data.toList L 0):=Hh (by rw[U.out];rfl);clear Z Af U;go_wp2;go_roundw
   .exact⟨k+1,S,E,by go_num,by omega,by omega,Hh ⟨HN.out,Aa.out⟩,H.out.1⟩
   simp[cR];omega
  |cons t r=>
   obtain⟨tb,Ao,rfl,Az,t0,t1,t2⟩:=Z.get (j:=0) (by simp);obtain⟨p,hp,Ay⟩:=Af t (by simp);obtain⟨n,Ag⟩:=exq ((t::r).length);have Av:0<n:=by rw[Ag];simp
   rw[<-Ag] at q0;simp only[eg,iz,eA,hp] at t2
   have Aa:Hid (qo s.data.toList L 0=((decide ((p:Int)-(jg s.data.toList p:Nat)=2*d)&&jc s.data.toList (jg s.data.toList p) p)&&qo s.data.toList (L.drop (k+1)) S)):=Hh (by
    rw[U.out];show ((decide (t.pos-(jg s.data.toList t.pos.toNat:Nat)=2*d)&&jc s.data.toList (jg s.data.toList t.pos.toNat) t.pos.toNat)&&_)=_
    rw[hp];rfl)
   have Am:p<=s.size:=by omega
   have Ad:=fun W=>Ev s p W Am hs;have Aq:=FX s.data.toList p;have Ai:=fun W=>Bo s (jg s.data.toList p) p W Am (by omega) hs;have e0:((n:Int)==0)=false:=by rw[Fc];omega
   generalize jc s.data.toList (jg s.data.toList p) p=bO at *;generalize jg s.data.toList p=g at *;clear Z Af U Ag hp t0 t1;have i1:eC.i64.wrap (2*d)=2*d:=cU _ (by omega);have i2:eC.i64.wrap ((p:Int)-(g:Int))=(p:Int)-g:=cU _ (by omega)
   by_cases M:(p:Int)-g=2*d
   .have Ac:Hid (qo s.data.toList L 0=(bO&&qo s.data.toList (L.drop (k+1)) S)):=Hh (by rw[Aa.out,decide_eq_true M];rfl)
    have e1:(((p:Int)-g) != 2*d)=false:=by simpa using M
    clear M Aa;go_wp2_with fail;refine (Ad _).mono ?_;rintro _ _ ⟨rfl,rfl⟩;clear Ad;go_wp2_with fail;refine (Ai _).mono ?_;rintro _ _ ⟨rfl,rfl⟩;clear Ai
    cases bO with
    |true=>
     go_wp2;go_roundw
     .exact⟨k+1,S,E,by go_num,by omega,by omega,Hh ⟨HN.out,by rw[Ac.out];rfl⟩,H.out.1⟩
     simp[cR];omega
    |false=>
     go_wp2;go_ret;rw[Ac.out];exact⟨rfl,H.out.2⟩
   .have Ac:Hid (qo s.data.toList L 0=false):=Hh (by rw[Aa.out,decide_eq_false M];rfl)
    have e1:(((p:Int)-g) != 2*d)=true:=by simpa using M
    clear M Aa;go_wp2_with fail;refine (Ad _).mono ?_;rintro _ _ ⟨rfl,rfl⟩;clear Ad;go_wp2;go_ret;rw[Ac.out];exact⟨rfl,H.out.2⟩
 .obtain rfl:k=L.length:=by omega
  have HF:Hid (qo s.data.toList L 0=true):=Hh (by rw[<-Q.out.2,ei];rfl);clear K;go_wp2;go_ret;rw[HF.out];exact⟨rfl,H.out.2⟩
def zk(t:ae):Int:=t.pos+(t.text.size:Int)
def Un(l:Bs)(r:List ae)(j:Nat)(a b:ae):Bool:=decide ((j:Int)=rA (gK r)) || (decide (b.pos-zk a=(lF r j:Nat))&&jc l (zk a).toNat b.pos.toNat)
def rz(l:Bs)(r:List ae):List ae->Nat->Bool
 |a::b::q,j=>Un l r j a b&&rz l r (b::q) (j+1)
 |_,_=>true
def vF(l:Bs):List (List ae)->Bool
 |[]=>true
 |r::L=>rz l r r 1&&vF l L
theorem Nn(s:E7)(w:cd)(lv:cq)(L:List (List ae))(h:OV B w lv L)(hP:K7 s L)(hs:s.size<=1000000):cJ bh 19 #[al s,lv] w fun e w'=>e=bk (cG (vF s.data.toList L))/\cj w.heap.size w w':=by
 obtain⟨a,c,rfl,Ay,Au,-⟩:=h.tk.len;unfold cV at Au;have hn:=h.all;have HG:=Hh h;have HP:=Hh hP;clear h hP;go_in;go_wp2;go_loopw [5] (fun i wr=>∃k:Nat,k<=L.length/\i=ao ar (k:Int)/\Hid (vF s.data.toList (L.drop k)=vF s.data.toList L)/\cj w.heap.size w wr) (fun i _=>L.length-(cR i).toNat)
 .exact⟨0,ck _,rfl,Hh rfl,ba _ _⟩
 obtain⟨k,hk,rfl,HA,I⟩:=hrel;have An:=Hh I;obtain⟨w1,rfl⟩:=exq wr
 by_cases C:k<L.length
 .obtain⟨b,A1,sa,sc,rfl,Ax,S⟩:=HG.out.tk.far C
  have HD:Hid (vF s.data.toList L=(rz s.data.toList L[k] L[k] 1&&vF s.data.toList (L.drop (k+1)))):=Hh (by rw[<-HA.out,cg C,vF]);have Aq:=Hh (HP.out L[k] (cH C));have As:=HG.out.len L[k] (cH C);have X:=Hh S;generalize L[k]=r at *;clear S I HA;go_wp2;go_loopw [6] (fun i wr=>∃m:Nat,(m+1<=r.length\/m=0)/\i=ao ar ((m+1:Nat):Int)/\Hid (rz s.data.toList r (r.drop m) (m+1)=rz s.data.toList r r 1)/\cj w.heap.size w wr) (fun i _=>r.length-(cR i).toNat)
  .exact⟨0,.inr rfl,rfl,Hh rfl,An.out⟩
  clear An;obtain⟨m,hm,rfl,T,I⟩:=hrel;have HB:=Hh I;obtain⟨Aa,q0,Ak⟩:=X.out wr I;have km:eC.i64.wrap ((m:Int)+1-1)=(m:Int):=by rw[cU _ (by omega)];omega
  by_cases H:m+1<r.length
  .have Ap:m<r.length:=by omega
   obtain⟨tb,Af,rfl,Al,t0,t1,t2⟩:=Aa.toks.get Ap;obtain⟨A2,At,e',-,u0,u1,u2⟩:=Aa.toks.get H;cases e'
   obtain⟨p,hp,Aw⟩:=Aq.out r[m] (cH Ap);obtain⟨q,S,A0⟩:=Aq.out r[m+1] (cH H)
   have Ab:Hid (rz s.data.toList r (r.drop m) (m+1)=((decide (((m+1:Nat):Int)=rA (gK r)) || (decide ((q:Int)-((p+r[m].text.size:Nat):Int)=(lF r (m+1):Nat))&&jc s.data.toList (p+r[m].text.size) q))&&rz s.data.toList r (r.drop (m+1)) (m+1+1))):=Hh (by
    rw[cg Ap,cg H,rz];unfold Un zk
    rw[hp,S,<-se,eL,eL])
   have Aj:=fun W=>Bo s (p+r[m].text.size) q W (by omega) Aw hs;have Ai:=Hh (fun W (h:cj w.heap.size w W)=>yt W _ r (X.out W h).1.toks As);have Ae:=Hh (fun W (h:cj w.heap.size w W)=>J4 W _ r (X.out W h).1.toks As ((m+1:Nat):Int) (Jt (by omega)));rw[eL] at Ae;rw[hp] at t2;rw[S] at u2;generalize r[m].text=tx at *;obtain⟨f,hf⟩:=exq (p+tx.size);have Ar:(p:Int)+(tx.size:Int)=(f:Int):=by rw[hf];omega
   have k7:eC.i64.wrap ((p:Int)+(tx.size:Int))=(f:Int):=by rw[Ar];exact cU _ (by omega)
   rw[<-hf] at Ab Aj;have Az:f<=s.size:=by omega
   have k8:eC.i64.wrap ((q:Int)-(f:Int))=(q:Int)-f:=cU _ (by omega);generalize jc s.data.toList f q=bO at *;generalize lF r (m+1)=G at *;generalize rA (gK r)=E at *;have Av:(0:Int)<=(m:Int)/\(m:Int)<r.length:=by omega
   have HU:Hid (∀W,cj wr.heap.size wr W->W.cell? ⟨tb,Af+(m+1)*3+2,aq⟩=aw (ao ar (q:Int))/\tb<W.heap.size):=Hh (fun W h=>⟨(h.cell (p:=⟨tb,Af+(m+1)*3+2,aq⟩) Al).trans u2,cT Al h.size⟩);clear Aa I t0 u0 u1 hp S hf Ar;go_wp2_with fail;go_quiet (fail)
   obtain⟨w2,Am⟩:=exq (wr.drewN nq);rw[<-Am];have Ag:Hid (cj w.heap.size w w2):=Hh (by rw[Am];exact ag HB.out nq);obtain⟨u2,Al⟩:=HU.out w2 (by rw[Am];exact ag (ba _ _) nq);obtain⟨-,q0,Ak⟩:=X.out w2 Ag.out;have Ai:=Ai.out w2 Ag.out;clear Am HU HB t1 t2;go_wp2_with fail;refine Ai.mono ?_;rintro _ w3 ⟨rfl,Y⟩;clear Ai u2 Al q0 Ak;have Ad:=Hh (av Ag.out Y);obtain⟨-,q0,Ak⟩:=X.out w3 Ad.out;clear Y Ag
   by_cases M:((m+1:Nat):Int)=E
   .have Ac:Hid (rz s.data.toList r (r.drop m) (m+1)=rz s.data.toList r (r.drop (m+1)) (m+1+1)):=Hh (by rw[Ab.out,decide_eq_true M];rfl)
    have e1:((m:Int)+1 != E)=false:=by rw[<-M];simp
    clear M Ab;go_wp2;go_roundw
    .exact⟨m+1,.inl H,by go_num,Hh (by rw[<-Ac.out,T.out]),Ad.out⟩
    simp[cR];omega
   .have e1:((m:Int)+1 != E)=true:=by rw[bne_iff_ne];intro q;exact M (by rw[<-q];rfl)
    have Ac:Hid (rz s.data.toList r (r.drop m) (m+1)=((decide ((q:Int)-f=(G:Nat))&&bO)&&rz s.data.toList r (r.drop (m+1)) (m+1+1))):=Hh (by rw[Ab.out,decide_eq_false M];rfl);have Ae:=Ae.out w3 Ad.out;clear M Ab;go_wp2_with fail;refine Ae.mono ?_;rintro _ w4 ⟨rfl,Z⟩;clear Ae q0 Ak;have Ao:=Hh (av Ad.out Z);clear Z Ad
    by_cases R:(q:Int)-f=(G:Nat)
    .have e2:(((q:Int)-f) != (G:Nat))=false:=by rw[R];simp
     have Ah:Hid (rz s.data.toList r (r.drop m) (m+1)=(bO&&rz s.data.toList r (r.drop (m+1)) (m+1+1))):=Hh (by rw[Ac.out,decide_eq_true R];rfl);clear R Ac;go_wp2_with fail;refine (Aj _).mono ?_;rintro _ _ ⟨rfl,rfl⟩;clear Aj
     cases bO with
     |true=>
      go_wp2;go_roundw
      .exact⟨m+1,.inl H,by go_num,Hh (by rw[<-T.out,Ah.out];rfl),Ao.out⟩
      simp[cR];omega
     |false=>
      go_wp2;go_ret;rw[HD.out,<-T.out,Ah.out];exact⟨rfl,Ao.out⟩
    .have e2:(((q:Int)-f) != (G:Nat))=true:=by rw[bne_iff_ne];exact R
     have Ah:Hid (rz s.data.toList r (r.drop m) (m+1)=false):=Hh (by rw[Ac.out,decide_eq_false R];rfl);clear R Ac Aj;go_wp2;go_ret;rw[HD.out,<-T.out,Ah.out];exact⟨rfl,Ao.out⟩
  .have Ab:Hid (vF s.data.toList (L.drop (k+1))=vF s.data.toList L):=Hh (by
    have q:rz s.data.toList r (r.drop m) (m+1)=true:=by
     have hl:(r.drop m).length<=1:=by rw[bm];omega
     match r.drop m,hl with
     |[],_=>rfl
     |[_],_=>rfl
    rw[HD.out,<-T.out,q];rfl)
   clear Aa I;go_wp2;go_roundw
   .exact⟨k+1,C,by go_num,Ab,HB.out⟩
   simp[cR];omega
 .obtain rfl:k=L.length:=by omega
  have HF:Hid (vF s.data.toList L=true):=Hh (by rw[<-HA.out,ei];rfl);clear I;go_wp2;go_ret;rw[HF.out];exact⟨rfl,An.out⟩
def zx(b:Bs):Nat:=(scan (nb b) 0).1.length
theorem TB(b:Bs):zx b<=b.length:=by
 have:=Ar (nb b).length (nb b) 0 lz;rw[kr] at this;exact this
def EN(l:Bs)(b:ae):Bs:=(l.take b.pos.toNat).drop (jg l b.pos.toNat)
def Vt(l:Bs)(a b:ae):Bool:=!decide (b.pos=zk a)&&jc l (zk a).toNat b.pos.toNat
def oH(l:Bs):List (List ae)->Int->Bool->Bool
 |[],_,one=>one
 | r::L,col,one=>match gK r with
  |none=>one&&oH l L (-1) true
  | some i=>match r[i-1]?,r[i]? with
   |some a,aw b=>Vt l a b&&((decide (col<0) || decide ((zx (EN l b):Int)=col))&&oH l L (zx (EN l b):Nat) ((if col<0 then false else one) || decide (b.pos-zk a=1)))
   |_,_=>false
theorem TJ(l:Bs):∀(L:List (List ae)) (col:Int) (one:Bool),(∀r q,L=r::q->gK r=aq)->oH l L col one=(one&&oH l L (-1) true)
 |[],_,one,_=>by simp[oH]
 | r::L,col,one,h=>by
  rw[oH,oH,h r L rfl];rfl
theorem U3(l:Bs){L:List (List ae)}(h:gK r=aw i):oH l (r::L) (-1) false=oH l (r::L) (-1) true:=by
 rw[oH,oH,h];rfl
theorem RD(l:Bs){L:List (List ae)}(h:gK r=aw i)(col:Int)(one:Bool)(a:i-1<r.length)(b:i<r.length):oH l (r::L) col one=(Vt l r[i-1] r[i]&&((decide (col<0) || decide ((zx (EN l r[i]):Int)=col))&&oH l L (zx (EN l r[i]):Nat) ((if col<0 then false else one) || decide (r[i].pos-zk r[i-1]=1)))):=by
 rw[oH,h];simp only[br a,br b]
theorem Nl(s:E7)(w:cd)(lv:cq)(L:List (List ae))(h:OV B w lv L)(hP:K7 s L)(hs:s.size<=1000000):cJ bh 20 #[al s,lv] w fun e w'=>e=bk (cG (oH s.data.toList L (-1) true))/\cj w.heap.size w w':=by
 obtain⟨a,c,rfl,A1,A8,-⟩:=h.tk.len;unfold cV at A8;have hn:=h.all;have HG:=Hh h;have HP:=Hh hP;clear h hP;go_in;go_wp2;go_loopw [5] (fun i wr=>∃k:Nat,k<=L.length/\i=ao ar (k:Int)/\Hid (oH s.data.toList (L.drop k) (-1) true=oH s.data.toList L (-1) true)/\cj w.heap.size w wr) (fun i _=>L.length-(cR i).toNat)
 .exact⟨0,ck _,rfl,Hh rfl,ba _ _⟩
 obtain⟨k,hk,rfl,HA,hb⟩:=hrel;have Am:=Hh hb;obtain⟨w1,rfl⟩:=exq wr
 by_cases hkl:k<L.length
 .obtain⟨b,AM,sa,sc,rfl,AF,hq⟩:=HG.out.tk.far hkl
  obtain⟨Aj,q0,Ab⟩:=hq w1 hb;have AB:=HG.out.len L[k] (cH hkl);have Aa:=yt w1 _ _ Aj.toks AB;have Ad:Hid (L.drop k=L[k]::L.drop (k+1)):=Hh (cg hkl);generalize L[k]=r at *;clear Aj hb hq
  cases hei:gK r with
  |none=>
   have HN:Hid (oH s.data.toList (L.drop (k+1)) (-1) true=oH s.data.toList L (-1) true):=Hh (by rw[<-HA.out,Ad.out,oH,hei];rfl);rw[hei] at Aa;clear hei;go_wp2_with fail;refine Aa.mono ?_;rintro _ w2 ⟨rfl,hb2⟩;have An:=Hh (av Am.out hb2);clear Aa hb2 q0 Ab;have As:(-1:Int)<0:=by decide
   simp only[rA];go_wp2;go_roundw
   .exact⟨k+1,hkl,by go_num,HN,An.out⟩
   simp[cR];omega
  |some i0=>
   have HN:Hid (oH s.data.toList (L.drop k) (-1) false=oH s.data.toList L (-1) true):=Hh (by rw[<-HA.out,Ad.out,U3 _ hei])
   have A6:Hid (∀r' q,L.drop k=r'::q->gK r'≠aq):=Hh (fun r' q e=>by
    rw[Ad.out] at e;rw[<-(rr e).1,hei]
    exact fun h=>by cases h)
   rw[hei] at Aa;clear hei Ad;have As:¬((i0:Int)<0):=by omega
   simp only[rA] at Aa;go_wp2_with fail;refine Aa.mono ?_;rintro _ w2 ⟨rfl,hb2⟩;have An:=Hh (av Am.out hb2);clear Aa hb2 q0 Ab Am;go_wp2_with fail;clear As;go_loopw [5,6,7] (fun i cv ov wr=>∃(j:Nat) (col:Int) (one:Bool),k<=j/\j<=L.length/\i=ao ar (j:Int)/\cv=ao ar col/\ov=cG one/\Hid ((col<0->one=false)/\oH s.data.toList (L.drop j) col one=oH s.data.toList L (-1) true)/\cj w.heap.size w wr) (fun i _ _ _=>L.length-(cR i).toNat)
   .exact⟨k,-1,false,cA _,hk,rfl,rfl,rfl,Hh ⟨fun _=>rfl,HN.out⟩,An.out⟩
   clear An HN;obtain⟨j,col,one,AK,hj,rfl,rfl,rfl,HJ,hb⟩:=hrel;have HB:=Hh hb;clear hb
   by_cases U:j<L.length
   .obtain⟨b',AD,ra,rc,e',-,hq⟩:=HG.out.tk.far U
    cases e'
    have HQ:=Hh hq;obtain⟨-,q0,Ab⟩:=hq wr HB.out;have Av:=HG.out.len L[j] (cH U);have Aa:=Hh (fun W (h:cj w.heap.size w W)=>yt W _ _ (HQ.out W h).1.toks Av);have Ad:Hid (L.drop j=L[j]::L.drop (j+1)):=Hh (cg U);have At:=Hh (HP.out L[j] (cH U));generalize L[j]=t at *;have Ae:=Aa.out wr HB.out;clear hq
    cases hei:gK t with
    |none=>
     rw[hei] at Ae
     have AA:k<j:=by
      rcases Nat.lt_or_ge k j with h|h
      .exact h
      .exact absurd hei (A6.out t _ (by rw[show k=j by omega];exact Ad.out))
     have R:Hid (oH s.data.toList L (-1) true=(one&&oH s.data.toList (L.drop j) (-1) true)):=Hh (by
      rw[<-HJ.out.2]
      exact TJ _ _ _ _ (fun r' q e=>by rw[Ad.out] at e;rw[<-(rr e).1];exact hei))
     have As:¬((-1:Int) ≥ 0):=by decide
     simp only[rA] at Ae;clear hei;go_wp2_with fail;refine Ae.mono ?_;rintro _ w3 ⟨rfl,hb3⟩;have Af:=Hh (av HB.out hb3);clear Ae hb3 q0 Ab HB
     cases one with
     |true=>
      go_wp2;go_roundw
      .exact⟨j,hj,rfl,Hh (by rw[R.out];rfl),Af.out⟩
      simp[cR];omega
     |false=>
      go_wp2;go_ret;rw[R.out];exact⟨rfl,Af.out⟩
    |some i=>
     rw[hei] at Ae;obtain⟨AJ,Ax⟩:=iq hei;obtain⟨m,rfl⟩:∃m,i=m+1:=⟨i-1,by omega⟩;have Aw:m<t.length:=by omega
     have As:((m:Int)+1) ≥ 0:=by omega
     have km:eC.i64.wrap ((m:Int)+1-1)=(m:Int):=by rw[cU _ (by omega)];omega
     have A9:(0:Int)<=(m:Int)/\(m:Int)<t.length:=by omega
     have A3:(0:Int)<=(m:Int)+1/\(m:Int)+1<t.length:=by omega
     have Ai:=Hh (fun W (h:cj w.heap.size w W)=>(Aa.out W h).mono fun e w' q=>(show e=bk (ao ar ((m+1:Nat):Int))/\cj W.heap.size W w' by rw[hei] at q;exact q));obtain⟨p,hp,AC⟩:=At.out t[m] (cH Aw);obtain⟨q,hq,AL⟩:=At.out t[m+1] (cH Ax);have AG:=FX s.data.toList q;have A4:q<=s.size:=by omega
     have A5:EN s.data.toList t[m+1]=(s.extract (jg s.data.toList q) q).data.toList:=by
      unfold EN;rw[hq,eL,Ck]
     have HD:Hid (oH s.data.toList L (-1) true=((!decide ((q:Int)=((p+t[m].text.size:Nat):Int))&&jc s.data.toList (p+t[m].text.size) q)&&((decide (col<0) || decide ((zx (s.extract (jg s.data.toList q) q).data.toList:Int)=col))&&oH s.data.toList (L.drop (j+1)) (zx (s.extract (jg s.data.toList q) q).data.toList:Nat) ((if col<0 then false else one) || decide ((q:Int)-((p+t[m].text.size:Nat):Int)=1))))):=Hh (by
      rw[<-HJ.out.2,Ad.out,RD _ hei _ _ Aw Ax];unfold Vt zk;simp only[Nat.add_sub_cancel]
      rw[A5,hp,hq,<-se,eL,eL])
     have A7:(s.extract (jg s.data.toList q) q).size<=1048576:=by rw[gx];omega
     have Ar:∀W,cJ bh 48 #[al (s.extract (jg s.data.toList q) q)] W fun e w'=>e=bk (ao ar (zx (s.extract (jg s.data.toList q) q).data.toList:Nat))/\cj W.heap.size W w':=fun W=>J5 W (s.extract (jg s.data.toList q) q) A7;have Az:=fun W=>Ev s q W A4 hs;have Au:=TB (s.extract (jg s.data.toList q) q).data.toList;rw[aM] at Au;have Ac:=fun W=>Bo s (p+t[m].text.size) q W A4 AC hs
     have HT:Hid (∀W,cj w.heap.size w W->∃tb toff,ra=aw ⟨tb,toff,aq⟩/\tb<W.heap.size/\W.cell? ⟨tb,toff+m*3+1,aq⟩=aw (al t[m].text)/\W.cell? ⟨tb,toff+m*3+2,aq⟩=aw (ao ar (p:Int))/\W.cell? ⟨tb,toff+(m+1)*3+2,aq⟩=aw (ao ar (q:Int))):=Hh (fun W h=>by
      have hT:=(HQ.out W h).1.toks;obtain⟨tb,toff,e,Ak,-,t1,t2⟩:=hT.get Aw;obtain⟨AE,Al,e',-,-,-,u2⟩:=hT.get Ax;rw[e] at e';cases e'
      exact⟨tb,toff,e,Ak,t1,by rw[t2,hp],by rw[u2,hq]⟩)
     generalize t[m].text=tx at *;generalize zx (s.extract (jg s.data.toList q) q).data.toList=Z at *;generalize jg s.data.toList q=g at *;have Ar:=Hh Ar;obtain⟨f,hf⟩:=exq (p+tx.size);have A2:(p:Int)+(tx.size:Int)=(f:Int):=by rw[hf];omega
     have k7:eC.i64.wrap ((p:Int)+(tx.size:Int))=(f:Int):=by rw[A2];exact cU _ (by omega)
     rw[<-hf] at HD Ac;have AH:f<=s.size:=by omega
     have k8:eC.i64.wrap ((q:Int)-(f:Int))=(q:Int)-f:=cU _ (by omega);have AI:(0:Int)<=(g:Int)/\(g:Int)<=(q:Int)/\(q:Int)<=s.size:=by omega
     generalize jc s.data.toList f q=bO at *;simp only[rA] at Ae;clear hei hf A2 hp hq A5 Aa At;go_wp2_with fail;refine Ae.mono ?_;rintro _ w3 ⟨rfl,hb3⟩;have Af:=Hh (av HB.out hb3);clear Ae hb3 q0 Ab HB;obtain⟨-,q0,Ab⟩:=HQ.out w3 Af.out;have A0:=Ai.out w3 Af.out;go_wp2_with fail;refine A0.mono ?_;rintro _ w4 ⟨rfl,hb4⟩;have Ao:=Hh (av Af.out hb4);clear A0 hb4 q0 Ab Af Ai;obtain⟨-,q0,Ab⟩:=HQ.out w4 Ao.out;obtain⟨tb,toff,rfl,Ak,t1,t2,u2⟩:=HT.out w4 Ao.out;go_wp2_with fail;go_quiet (fail)
     obtain⟨w5,Ay⟩:=exq (w4.drewN nq);rw[<-Ay];have Ap:Hid (cj w.heap.size w w5):=Hh (by rw[Ay];exact ag Ao.out nq);clear t1 t2 u2 q0 Ab Ak Ao Ay;obtain⟨-,q0,Ab⟩:=HQ.out w5 Ap.out;obtain⟨AE,Al,e',Ak,-,-,u2⟩:=HT.out w5 Ap.out;cases e'
     go_wp2_with fail;clear q0 Ab Ak HT HQ;refine (Az _).mono ?_;rintro _ _ ⟨rfl,rfl⟩;clear Az;go_wp2_with fail;refine (Ar.out _).mono ?_;rintro _ w6 ⟨rfl,hb6⟩;have Ah:=Hh (av Ap.out hb6);clear hb6 Ar Ap
     by_cases Y:(q:Int)=(f:Int)
     .have R:Hid (oH s.data.toList L (-1) true=false):=Hh (by rw[HD.out,decide_eq_true Y];rfl)
      have e1:((q:Int)==(f:Int))=true:=by rw[beq_iff_eq];exact Y
      clear Y HD;go_wp2;go_ret;rw[R.out];exact⟨rfl,Ah.out⟩
     .have Ag:Hid (oH s.data.toList L (-1) true=(bO&&((decide (col<0) || decide ((Z:Int)=col))&&oH s.data.toList (L.drop (j+1)) (Z:Nat) ((if col<0 then false else one) || decide ((q:Int)-(f:Int)=1))))):=Hh (by rw[HD.out,decide_eq_false Y];rfl)
      have e1:((q:Int)==(f:Int))=false:=by rw[Fc];exact Y
      have eO:((q:Int)-(f:Int)==1)=decide ((q:Int)-(f:Int)=1):=by
       by_cases h:(q:Int)-(f:Int)=1
       .rw[decide_eq_true h,h];rfl
       .rw[decide_eq_false h,Fc];exact h
      generalize decide ((q:Int)-(f:Int)=1)=b1 at *;clear Y HD
      cases bO with
      |false=>
       go_wp2_with fail;refine (Ac _).mono ?_;rintro _ _ ⟨rfl,rfl⟩;clear Ac;go_wp2;go_ret;rw[Ag.out];exact⟨rfl,Ah.out⟩
      |true=>
       have HO:Hid (col<0->one=false):=Hh HJ.out.1
       by_cases hc0:col<0
       .have R:Hid (oH s.data.toList (L.drop (j+1)) (Z:Nat) b1=oH s.data.toList L (-1) true):=Hh (by rw[Ag.out,decide_eq_true hc0,E4 hc0];rfl)
        obtain rfl:one=false:=HO.out hc0;have A1:¬(col ≥ 0):=by omega
        clear Ag;go_wp2_with fail;refine (Ac _).mono ?_;rintro _ _ ⟨rfl,rfl⟩;clear Ac;go_wp2;go_roundw
        .exact⟨j+1,(Z:Int),b1,by omega,U,by go_num,rfl,by first|rfl|rw[eO],Hh ⟨fun h=>absurd h (by omega),R.out⟩,Ah.out⟩
        simp[cR];omega
       .have Aq:Hid (oH s.data.toList L (-1) true=(decide ((Z:Int)=col)&&oH s.data.toList (L.drop (j+1)) (Z:Nat) (one || b1))):=Hh (by rw[Ag.out,decide_eq_false hc0,E6 hc0];rfl)
        have A1:col ≥ 0:=by omega
        by_cases S:(Z:Int)=col
        .have R:Hid (oH s.data.toList (L.drop (j+1)) (Z:Nat) (one || b1)=oH s.data.toList L (-1) true):=Hh (by rw[Aq.out,decide_eq_true S];rfl)
         have e2:((Z:Int) != col)=false:=by rw[S];simp
         clear Ag Aq S;cases one
         all_goals
          go_wp2_with fail;refine (Ac _).mono ?_;rintro _ _ ⟨rfl,rfl⟩;clear Ac;go_wp2;go_roundw
          .exact⟨j+1,(Z:Int),_,by omega,U,by go_num,rfl,by first|rfl|rw[eO];rfl,Hh ⟨fun h=>absurd h (by omega),R.out⟩,Ah.out⟩
          simp[cR];omega
        .have R:Hid (oH s.data.toList L (-1) true=false):=Hh (by rw[Aq.out,decide_eq_false S];rfl)
         have e2:((Z:Int) != col)=true:=by rw[bne_iff_ne];exact S
         clear Ag Aq S;go_wp2_with fail;refine (Ac _).mono ?_;rintro _ _ ⟨rfl,rfl⟩;clear Ac;go_wp2;go_ret;rw[R.out];exact⟨rfl,Ah.out⟩
   .obtain rfl:j=L.length:=by omega
    have R:Hid (oH s.data.toList L (-1) true=one):=Hh (by rw[<-HJ.out.2,ei];rfl)
    cases one with
    |true=>
     go_wp2;go_roundw
     .exact⟨L.length,cA _,rfl,Hh (by rw[R.out,ei];rfl),HB.out⟩
     simp[cR];omega
    |false=>
     go_wp2;go_ret;rw[R.out];exact⟨rfl,HB.out⟩
 .obtain rfl:k=L.length:=by omega
  have HF:Hid (oH s.data.toList L (-1) true=true):=Hh (by rw[<-HA.out,ei];rfl);clear hb;go_wp2;go_ret;rw[HF.out];exact⟨rfl,Am.out⟩
def Bt:List (List ae)->Bool
 |[]=>true
 |r::L=>(!fe r || !il ((bq L).headD []))&&Bt L
theorem TZ{r:List ae}(h:0<r.length):fe r=(bZ (pq r) pg&&bZ (r[r.length-1]'(by omega)) pg):=by
 have j:r.getLast?=aw (r[r.length-1]'(by omega)):=by rw[gk,br (by omega)]
 unfold fe;rw[j];simp only
 cases hb:bZ (r[r.length-1]'(by omega)) pg with
 |false=>rw[sT]
 |true=>
  rw[ot]
  obtain⟨q,t,rfl⟩:∃q t,r=q++[t]:=⟨r.dropLast,r[r.length-1]'(by omega),by
   have Aa:r≠[]:=by intro e;subst e;simp at h
   have e:=List.dropLast_concat_getLast Aa;rw[List.getLast_eq_getElem] at e
   exact e.symm⟩
  have u:(q++[t])[(q++[t]).length-1]'(by omega)=t:=by simp
  rw[u] at hb
  have i:t.kind=4:=by
   unfold bZ at hb;simp only[cP,decide_eq_true_eq] at hb;exact hb.1
  have f:dD t=false:=by unfold dD;rw[i];rfl
  unfold pq dX;rw[List.filter_append];have:[t].filter (fun t=>!dD t)=[t]:=by simp[f]
  rw[this];simp[hb]
theorem QG(h:bZ (pq r) pg=false):fe r=false:=by
 cases r with
 |nil=>rfl
 |cons t r=>rw[TZ (by simp),h];rfl
theorem QH(h:bZ (pq r) pg=true):0<r.length:=by
 cases r with
 |nil=>revert h;decide
 |cons t r=>simp
theorem Ra{L:List (List ae)}(h:k<L.length)(b:L[k].length=0):bq (L.drop k)=bq (L.drop (k+1)):=by
 rw[cg h,cC b,bq]
theorem Rb{L:List (List ae)}(h:k<L.length)(a:0<L[k].length):il ((bq (L.drop k)).headD [])=bZ (L[k][0]'a) mZ:=by
 rw[cg h];generalize L[k]=r at *
 cases r with
 |nil=>simp at a
 |cons t q=>rfl
theorem Nk(w:cd)(lv:cq)(L:List (List ae))(h:OV B w lv L):cJ bh 21 #[lv] w fun e w'=>e=bk (cG (Bt L))/\cj w.heap.size w w':=by
 obtain⟨a,c,rfl,At,Am,-⟩:=h.tk.len;unfold cV at Am;have hn:=h.all;have HG:=Hh h;clear h;go_in;go_wp2;go_loopw [3] (fun i wr=>∃k:Nat,k<=L.length/\i=ao ar (k:Int)/\Hid (Bt (L.drop k)=Bt L)/\cj w.heap.size w wr) (fun i _=>L.length-(cR i).toNat)
 .exact⟨0,ck _,rfl,Hh rfl,ba _ _⟩
 obtain⟨k,hk,rfl,HA,S⟩:=hrel;have J:=Hh S;obtain⟨K,rfl⟩:=exq wr
 by_cases C:k<L.length
 .obtain⟨b,Ay,sa,sc,rfl,Ar,T⟩:=HG.out.tk.far C
  have HD:Hid (Bt L=((!fe L[k] || !il ((bq (L.drop (k+1))).headD []))&&Bt (L.drop (k+1)))):=Hh (by rw[<-HA.out,cg C,Bt]);have Ae:=fun x:bG K=>bG.call x (Fw (HG.out.below (J.out.trans (x.below.mono J.out.size))) C);have Ab:=fun x:bG K=>bG.call x (ol (t:=pq L[k]) (s:=pg) x.w);have X:=Hh T;have H0:=Hh (QG (r:=L[k]));have H1:=Hh (QH (r:=L[k]));have H2:=Hh (@TZ L[k]);have Au:=HG.out.len L[k] (cH C);generalize L[k]=r at *;obtain⟨bO,Al⟩:=exq (bZ (pq r) pg);rw[<-Al] at H0 H1 H2 Ab;generalize pq r=t1 at *;clear T S HA Al
  cases bO with
  |false=>
   have HN:Hid (Bt (L.drop (k+1))=Bt L):=Hh (by rw[HD.out,H0.out rfl];rfl);clear HD H0 H1 H2;go_wp2_with fail;refine eD K (by kernel_rfl) (by kernel_rfl) (ba _ _) ?_;repeat (go_big_quiet_step ((first|(with_reducible exact Ae _)|(with_reducible exact Ab _))))
   refine wpQuiet_nil ?_;rintro _ ⟨x,rfl⟩;have Aa:=Hh (J.out.trans (x.below.mono J.out.size));clear Ae Ab;go_wp2;go_roundw
   .exact⟨k+1,C,by go_num,HN,Aa.out⟩
   simp[cR];omega
  |true=>
   have Ao:=H1.out rfl;have H3:=Hh (H2.out Ao);clear H0 H1 H2;have Af:r.length-1<r.length:=by omega
   obtain⟨tb,Aj,rfl,Ap,hu⟩:=gD (X.out K J.out).1.toks Af;have Ai:=fun x:bG K=>bG.call x (ol (t:=r[r.length-1]'Af) (s:=pg) x.w);generalize r[r.length-1]'Af=t2 at *;generalize bZ t2 pg=b2 at *;obtain⟨tk,tt,tp⟩:=t2;simp only[fo] at Ai hu;have kl:eC.i64.wrap ((r.length:Int)-1)=((r.length-1:Nat):Int):=by rw[cU _ (by omega)];omega
   generalize hm:r.length-1=m at *;have An:(0:Int)<=(m:Int)/\(m:Int)<r.length:=by omega
   have c0:=fun x:bG K=>(X.out x.w (J.out.trans (x.below.mono J.out.size))).2.1;have u0:=fun x:bG K=>(hu x.w x.below).1;have u1:=fun x:bG K=>(hu x.w x.below).2.1;have u2:=fun x:bG K=>(hu x.w x.below).2.2;clear hu;go_wp2_with fail;refine eD K (by kernel_rfl) (by kernel_rfl) (ba _ _) ?_;repeat (go_big_quiet_step ((first|(with_reducible exact Ae _)|(with_reducible exact Ab _)|(with_reducible exact Ai _))))
   refine wpQuiet_nil ?_;rintro _ ⟨x,rfl⟩;have Aa:=Hh (J.out.trans (x.below.mono J.out.size));have Ad:Hid (Bt L=((!b2 || !il ((bq (L.drop (k+1))).headD []))&&Bt (L.drop (k+1)))):=Hh (by rw[HD.out,H3.out];rfl);clear Ae Ab Ai c0 u0 u1 u2 HD H3 X hm Af kl An J;generalize x.w=w2 at *
   cases b2 with
   |false=>
    go_wp2;go_roundw
    .exact⟨k+1,C,by go_num,Hh (by rw[Ad.out];rfl),Aa.out⟩
    simp[cR];omega
   |true=>
    go_wp2;go_loopw [4] (fun i wr=>∃n:Nat,k+1<=n/\n<=L.length/\i=ao ar (n:Int)/\Hid (bq (L.drop n)=bq (L.drop (k+1)))/\cj w.heap.size w wr) (fun i _=>L.length-(cR i).toNat)
    .exact⟨k+1,cA _,C,by go_num,Hh rfl,Aa.out⟩
    clear Aa;obtain⟨n,Av,Aw,rfl,U,S⟩:=hrel;have J:=Hh S
    by_cases M:n<L.length
    .obtain⟨b',Aq,va,vc,e',-,T⟩:=HG.out.tk.far M
     cases e'
     have Ag:=Hh (fun h=>Ra M h);have Ah:=Hh (fun h=>Rb M h);have X:=Hh T;obtain⟨-,q0,As⟩:=T wr S;generalize L[n]=q at *;clear T S
     by_cases P:q.length=0
     .have R:Hid (bq (L.drop (n+1))=bq (L.drop (k+1))):=Hh (by rw[<-U.out,Ag.out P])
      rw[P] at q0;clear P Ah Ag U;go_wp2;go_roundw
      .exact⟨n+1,by omega,M,by go_num,R,J.out⟩
      simp[cR];omega
     .have Ac:0<q.length:=by omega
      obtain⟨tb,Aj,rfl,Ap,t0,t1,t2⟩:=(X.out wr J.out).1.toks.get Ac;have R:Hid (Bt L=(!bZ (q[0]'Ac) mZ&&Bt (L.drop (k+1)))):=Hh (by rw[Ad.out,<-U.out,Ah.out Ac];rfl);have e0:((q.length:Int)==0)=false:=by rw[Fc];omega
      have hI:=fun W=>ol (t:=q[0]'Ac) (s:=mZ) W;generalize q[0]'Ac=t at *;generalize bZ t mZ=b3 at *;obtain⟨tk,tt,tp⟩:=t;simp only[fo] at hI t0 t1 t2;simp only[iz,eA] at t0 t1 t2;have Ax:(0:Int)<(q.length:Int):=by omega
      clear Ah Ag U P Ad;go_wp2_with fail;refine (hI _).mono ?_;rintro _ w3 ⟨rfl,Y⟩;have Ak:=Hh (av J.out Y);clear Y hI
      cases b3 with
      |true=>
       go_wp2;go_ret;rw[R.out];exact⟨rfl,Ak.out⟩
      |false=>
       go_wp2;go_roundw
       .exact⟨k+1,C,by go_num,Hh (by rw[R.out];rfl),Ak.out⟩
       simp[cR];omega
    .obtain rfl:n=L.length:=by omega
     have R:Hid (Bt (L.drop (k+1))=Bt L):=Hh (by rw[Ad.out,<-U.out,ei];rfl);clear S;go_wp2;go_roundw
     .exact⟨k+1,C,by go_num,R,J.out⟩
     simp[cR];omega
 .obtain rfl:k=L.length:=by omega
  have R:Hid (Bt L=true):=Hh (by rw[<-HA.out,ei];rfl);clear S;go_wp2;go_ret;rw[R.out];exact⟨rfl,J.out⟩
def Gd(n:Nat)(f:Nat->Bool):List Int:=(List.range n).map fun i=>if f i then 1 else 0
theorem qN(n:Nat)(f:Nat->Bool):(Gd n f).length=n:=by unfold Gd;simp
theorem Fh(f:Nat->Bool)(h:i<(Gd n f).length):(Gd n f)[i]=if f i then 1 else 0:=by
 have e:(Gd n f)[i]?=aw (if f i then 1 else 0):=by
  rw[qN] at h;unfold Gd;simp[h]
 rw[br h] at e;exact dt e
theorem SV(n:Nat)(f:Nat->Bool)(q:Nat):(Gd n f).set q 1=Gd n (fun i=>f i || decide (i=q)):=by
 apply List.ext_getElem
 .rw[List.length_set,qN,qN]
 .intro i a b
  rw[List.getElem_set,Fh]
  by_cases h:q=i
  .subst h
   rw[E4 rfl,Fh,decide_eq_true rfl,Bool.or_true];rfl
  .have:¬i=q:=fun e=>h e.symm
   rw[E6 h,Fh];simp[this]
theorem Qs(n:Nat):xf #[jf 0] n=((Gd n fun _=>false).map jf).toArray:=by
 unfold xf Gd;apply Array.ext'
 simp
 intro i hi;simp[Nat.mod_one]
def Jp(i:Nat)(t:ae):Bool:=decide (t.pos<=(i:Int))&&decide ((i:Int)<t.pos+(t.text.size:Int))
def L8(L:List (List ae))(i:Nat):Bool:=L.any fun r=>r.any (Jp i)
theorem QR(L:List (List ae))(h:k<L.length)(i:Nat):L8 (L.take (k+1)) i=(L8 (L.take k) i || L[k].any (Jp i)):=by
 unfold L8;rw[e9 h,List.any_append];simp
theorem Rz(i:Nat)(r:List ae)(h:j<r.length):(r.take (j+1)).any (Jp i)=((r.take j).any (Jp i) || Jp i r[j]):=by
 rw[e9 h,List.any_append];simp
def Df:Bs->Bool
 |[]=>true
 |d::_=>decide (d=10)
def uP(L:List (List ae)):Bs->Nat->Bool
 |[],_=>true
 |c::q,i=>!(aN c&&Df q)&&((L8 L i || (decide (c=32) || decide (c=10)))&&uP L q (i+1))
def zb(s:E7)(k:Nat):Bool:=if h:k<s.size then decide ((s[k]'h).toNat=10) else true
theorem EH(c:UInt8)(n:Nat)(h:n<256):decide (c=UInt8.ofNat n)=decide (c.toNat=n):=by
 refine decide_eq_decide.2 ⟨fun e=>?_,fun e=>?_⟩
 .rw[e];simp;omega
 .exact nf.1 (by rw[e];simp;omega)
theorem Ut(L:List (List ae))(s:E7)(h:k<s.size):uP L (s.data.toList.drop k) k=(!(aN (s[k]'h)&&zb s (k+1))&&((L8 L k || (decide ((s[k]'h).toNat=32) || decide ((s[k]'h).toNat=10)))&&uP L (s.data.toList.drop (k+1)) (k+1))):=by
 have j:k<s.data.toList.length:=by rw[aM];exact h
 have i:s.data.toList[k]=s[k]'h:=rfl;rw[cg j,uP,i]
 have e1:Df (s.data.toList.drop (k+1))=zb s (k+1):=by
  unfold zb
  by_cases c:k+1<s.size
  .rw[dif_pos c,cg (by rw[aM];exact c)]
   exact EH _ 10 (by decide)
  .rw[dif_neg c,fg (by rw[aM];omega)]
   rfl
 rw[e1,show decide (s[k]'h=32)=decide ((s[k]'h).toNat=32) from EH _ 32 (by decide),show decide (s[k]'h=10)=decide ((s[k]'h).toNat=10) from EH _ 10 (by decide)]
theorem Nr(s:E7)(w:cd)(lv:cq)(L:List (List ae))(h:OV B w lv L)(hP:K7 s L)(hs:s.size<=1000000):cJ bh 16 #[al s,lv] w fun e w'=>e=bk (cG (uP L s.data.toList 0))/\cj w.heap.size w w':=by
 obtain⟨a,c,rfl,A5,Au,-⟩:=h.tk.len;unfold cV at Au;have hn:=h.all;have HG:=Hh h;have HP:=Hh hP;clear h hP;go_in;go_wp2_with (with_reducible first|refine l8 ?_)
 refine Stop.out ?_;refine uM rfl _ _ _ rfl 3 8 1 (jf 0) sB Tryz.infoIntZ _ _ s.size rfl rfl (by omega) (by unfold cV;omega) ?_;have Ad:=aI.lit (f:=jf) (E:=3) (base:=w.heap.size) (w:=w) (Gd s.size fun _=>false) lz (by rw[qN];unfold cV;omega);rw[<-Qs,qN] at Ad;have U:=(ba _ w).alloc lz (aE (xf #[jf 0] s.size) 3);have H0:=Jh Ad U;rw[Nat.mul_one];change gE _ _ _ _ _ (w.alloc (aE (xf #[jf 0] s.size) 3));generalize w.alloc (aE (xf #[jf 0] s.size) 3)=w1 at *;clear Ad U;obtain⟨G,Ag⟩:=exq w.heap.size;have Ah:=Hh Ag;rw[<-Ag];rw[<-Ag] at H0;clear Ag;go_wp2;go_loopw [6] (fun i wr=>∃k:Nat,k<=L.length/\i=ao ar (k:Int)/\Hid (aI jf 3 G wr (an (aw ⟨G,0,aq⟩) s.size s.size) (Gd s.size (L8 (L.take k))))/\cj G w wr) (fun i _=>L.length-(cR i).toNat)
 .exact⟨0,ck _,rfl,Hh H0.out.1,H0.out.2⟩
 clear H0;obtain⟨k,hk,rfl,K,U⟩:=hrel;have HB:=Hh U;obtain⟨w2,rfl⟩:=exq wr
 by_cases F:k<L.length
 .obtain⟨b,Az,sa,sc,rfl,At,hq⟩:=HG.out.tk.far F
  have HQ:Hid (∀W,cj G w W->aS B W (an sa L[k].length sc) L[k]/\W.cell? ⟨b,Az+k,aq⟩=aw (an sa L[k].length sc)/\b<W.heap.size/\b<G):=Hh (fun W hW=>by
   have hG:=Ah.out;subst hG;obtain⟨q0,q1,q2⟩:=hq W hW
   exact⟨q0,q1,q2,At⟩)
  have Ap:=Hh (HP.out L[k] (cH F));have A6:=HG.out.len L[k] (cH F);have HS:=Hh (fun i=>QR L F i);generalize L[k]=r at *;obtain⟨bs,Al⟩:=exq (L8 (L.take k));rw[<-Al] at K HS;clear hq U Al;go_wp2;go_loopw [7] (fun i wr=>∃j:Nat,j<=r.length/\i=ao ar (j:Int)/\Hid (aI jf 3 G wr (an (aw ⟨G,0,aq⟩) s.size s.size) (Gd s.size (fun i=>bs i || (r.take j).any (Jp i))))/\cj G w wr) (fun i _=>r.length-(cR i).toNat)
  .exact⟨0,ck _,rfl,Hh (by simpa using K.out),HB.out⟩
  clear HB K;obtain⟨j,hj,rfl,K,U⟩:=hrel;have HB:=Hh U;obtain⟨w3,rfl⟩:=exq wr;obtain⟨-,q0,Am,-⟩:=HQ.out w3 U
  by_cases hjl:j<r.length
  .obtain⟨p,hp,A7⟩:=Ap.out r[j] (cH hjl)
   have HT:Hid (∀W,cj G w W->∃tb toff,sa=aw ⟨tb,toff,aq⟩/\tb<W.heap.size/\W.cell? ⟨tb,toff+j*3+1,aq⟩=aw (al r[j].text)/\W.cell? ⟨tb,toff+j*3+2,aq⟩=aw (ao ar (p:Int))):=Hh (fun W h=>by
    obtain⟨tb,toff,e,An,-,t1,t2⟩:=(HQ.out W h).1.toks.get hjl
    exact⟨tb,toff,e,An,t1,by rw[t2,hp]⟩)
   have HE:Hid (∀i,(r.take (j+1)).any (Jp i)=((r.take j).any (Jp i) || (decide (p<=i)&&decide (i<p+r[j].text.size)))):=Hh (fun i=>by
    rw[Rz i r hjl];unfold Jp;rw[hp]
    congr 2
    .exact decide_eq_decide.2 (by omega)
    .exact decide_eq_decide.2 (by omega))
   generalize r[j].text=tx at *;obtain⟨cs,Ai⟩:∃cs:Nat->Bool,cs=fun i=>bs i || (r.take j).any (Jp i):=⟨_,rfl⟩
   have HC:Hid (∀i,(bs i || (r.take (j+1)).any (Jp i))=(cs i || (decide (p<=i)&&decide (i<p+tx.size)))):=Hh (fun i=>by rw[HE.out,Ai,Bool.or_assoc]);rw[<-Ai] at K;clear Ai HE hp U;go_wp2_with fail;clear q0 Am;go_loopw [8] (fun i wr=>∃x:Nat,x<=tx.size/\i=ao ar (x:Int)/\Hid (aI jf 3 G wr (an (aw ⟨G,0,aq⟩) s.size s.size) (Gd s.size (fun i=>cs i || (decide (p<=i)&&decide (i<p+x)))))/\cj G w wr) (fun i _=>tx.size-(cR i).toNat)
   .exact⟨0,ck _,rfl,Hh (by
    have e:(fun i=>cs i || (decide (p<=i)&&decide (i<p+0)))=cs:=by
     funext i
     by_cases h:p<=i
     .rw[decide_eq_false (show ¬i<p+0 by omega),sT,my]
     .rw[decide_eq_false h,Bool.false_and,my]
    rw[e]
    exact K.out),HB.out⟩
   clear HB K;obtain⟨x,hx,rfl,K,U⟩:=hrel;have HB:=Hh U;obtain⟨-,q0,Am,A4⟩:=HQ.out wr U;obtain⟨tb,toff,rfl,An,t1,t2⟩:=HT.out wr U;clear U
   by_cases hxl:x<tx.size
   .have kx:eC.i64.wrap ((p:Int)+(x:Int))=((p+x:Nat):Int):=by rw[cU _ (by omega)];omega
    obtain⟨q,hq⟩:=exq (p+x);rw[<-hq] at kx;have Ay:q<s.size:=by omega
    have A8:(0:Int)<=(q:Int)/\(q:Int)<s.size:=by omega
    have Aa:=K.out.cellAt q (by rw[qN];exact Ay);generalize (Gd s.size (fun i=>cs i || (decide (p<=i)&&decide (i<p+x))))[q]'_=z at *;simp only[jf] at Aa;have Ax:=K.out.frozenAt q;have As:G<wr.heap.size:=lj wr _ Aa
    have O:Hid (aI jf 3 G (wr.setCell ⟨G,q,aq⟩ (ao ar 1)) (an (aw ⟨G,0,aq⟩) s.size s.size) (Gd s.size (fun i=>cs i || (decide (p<=i)&&decide (i<p+(x+1)))))):=Hh (by
     have e:=K.out.stored q 1;rw[SV] at e
     have e2:(fun i=>(cs i || (decide (p<=i)&&decide (i<p+x))) || decide (i=q))=fun i=>cs i || (decide (p<=i)&&decide (i<p+(x+1))):=by
      funext i
      rw[Bool.or_assoc]
      congr 1
      by_cases h1:p<=i
      .by_cases h2:i<p+x
       .simp[h1,h2];omega
       .by_cases h3:i=q
        .simp[h1,h3];omega
        .simp[h1,h2,h3];omega
      .simp[h1];omega
     rw[e2] at e
     exact e)
    have Ao:Hid (cj G w (wr.setCell ⟨G,q,aq⟩ (ao ar 1))):=Hh (HB.out.setCell (p:=⟨G,q,aq⟩) lz _);clear K HB hq;go_wp2;go_roundw
    .exact⟨x+1,hxl,by go_num,O,Ao.out⟩
    simp[cR];omega
   .obtain rfl:x=tx.size:=by omega
    have O:Hid (aI jf 3 G wr (an (aw ⟨G,0,aq⟩) s.size s.size) (Gd s.size (fun i=>bs i || (r.take (j+1)).any (Jp i)))):=Hh (by
     rw[show (fun i=>bs i || (r.take (j+1)).any (Jp i))=fun i=>cs i || (decide (p<=i)&&decide (i<p+tx.size)) from funext HC.out]
     exact K.out)
    clear K HC;go_wp2;go_roundw
    .exact⟨j+1,hjl,by go_num,O,HB.out⟩
    simp[cR];omega
  .obtain rfl:j=r.length:=by omega
   have O:Hid (aI jf 3 G w3 (an (aw ⟨G,0,aq⟩) s.size s.size) (Gd s.size (L8 (L.take (k+1))))):=Hh (by
    rw[show L8 (L.take (k+1))=fun i=>bs i || (r.take r.length).any (Jp i) from funext fun i=>by rw[HS.out,eR]]
    exact K.out)
   clear K U;go_wp2;go_roundw
   .exact⟨k+1,F,by go_num,O,HB.out⟩
   simp[cR];omega
 .obtain rfl:k=L.length:=by omega
  rw[eR] at K;have Ak:Hid (∀W,cj G w W->cj w.heap.size w W):=Hh (fun W h=>by rw[<-Ah.out];exact h);clear U Ah HP HG;have HR:Hid (∀k (h:k<s.size),uP L (s.data.toList.drop k) k=(!(aN (s[k]'h)&&zb s (k+1))&&((L8 L k || (decide ((s[k]'h).toNat=32) || decide ((s[k]'h).toNat=10)))&&uP L (s.data.toList.drop (k+1)) (k+1)))):=Hh (fun k h=>Ut L s h);have Aq:Hid (uP L (s.data.toList.drop s.size) s.size=true):=Hh (by rw[fg (by rw[aM];exact cA _)];rfl);have A0:Hid (uP L (s.data.toList.drop 0) 0=uP L s.data.toList 0):=Hh rfl;generalize L8 L=ms at *;generalize hRR:uP L=RR at *;have Af:=Hh hRR;clear hRR;go_wp2;go_loopw [9] (fun i wr=>∃k:Nat,k<=s.size/\i=ao ar (k:Int)/\Hid (RR (s.data.toList.drop k) k=RR s.data.toList 0)/\wr=w2) (fun i _=>s.size-(cR i).toNat)
  .exact⟨0,ck _,rfl,Hh rfl,by first|rfl|trivial⟩
  obtain⟨k,hk,rfl,HJ,rfl⟩:=hrel
  by_cases F:k<s.size
  .have HD:=Hh (HR.out k F)
   have Ab:=fun W=>yQ (s[k]'F) W;have A2:(0:Int)<=(k:Int)/\(k:Int)<s.size:=by omega
   have kl:eC.i64.wrap ((s.size:Int)-1)=(s.size:Int)-1:=cU _ (by omega);have Aa:=K.out.cellAt k (by rw[qN];exact F);rw[Fh] at Aa;simp only[jf] at Aa;have As:G<wr.heap.size:=lj wr _ Aa;have Ae:=Hh (Ak.out wr HB.out);obtain⟨ch,Av⟩:∃ch:Nat,(s[k]'F).toNat=ch:=⟨_,rfl⟩;rw[Av] at HD Ab;generalize aN (s[k]'F)=bl at *;have HM:Hid (ms k=true\/ms k=false):=Hh (by cases ms k<;>simp)
   cases bl with
   |false=>
    have Ac:Hid (RR s.data.toList 0=((ms k || (decide (ch=32) || decide (ch=10)))&&RR (s.data.toList.drop (k+1)) (k+1))):=Hh (by rw[<-HJ.out,HD.out];rfl);clear HD HJ;rcases HM.out with Y|Y
    .rw[Y] at Aa
     have O:=Hh Y;clear Y HM
     (try simp only[if_true] at Aa)
     go_wp2_with fail;refine (Ab _).mono ?_;rintro _ _ ⟨rfl,rfl⟩;clear Ab;go_wp2;go_roundw
     .exact⟨k+1,F,by go_num,Hh (by rw[Ac.out,O.out];rfl),by first|rfl|trivial⟩
     simp[cR];omega
    .rw[Y] at Aa
     have O:=Hh Y;clear Y HM
     (try simp only[fm,if_false] at Aa)
     by_cases H:ch=32
     .subst H
      go_wp2_with fail;refine (Ab _).mono ?_;rintro _ _ ⟨rfl,rfl⟩;clear Ab;go_wp2;go_roundw
      .exact⟨k+1,F,by go_num,Hh (by rw[Ac.out,O.out];rfl),by first|rfl|trivial⟩
      simp[cR];omega
     .have Ar:((ch:Int) != 32)=true:=by rw[bne_iff_ne];omega
      by_cases h1:ch=10
      .subst h1
       clear H;go_wp2_with fail;refine (Ab _).mono ?_;rintro _ _ ⟨rfl,rfl⟩;clear Ab;go_wp2;go_roundw
       .exact⟨k+1,F,by go_num,Hh (by rw[Ac.out,O.out];rfl),by first|rfl|trivial⟩
       simp[cR];omega
      .have e2:((ch:Int) != 10)=true:=by rw[bne_iff_ne];omega
       have HX:Hid (RR s.data.toList 0=false):=Hh (by rw[Ac.out,O.out,decide_eq_false H,decide_eq_false h1];rfl);clear H h1 Ac;go_wp2_with fail;refine (Ab _).mono ?_;rintro _ _ ⟨rfl,rfl⟩;clear Ab;go_wp2;go_ret;rw[Af.out,HX.out];exact⟨rfl,Ae.out⟩
   |true=>
    by_cases hkk:k+1=s.size
    .have HX:Hid (RR s.data.toList 0=false):=Hh (by
      have:zb s (k+1)=true:=by unfold zb;rw[dif_neg (by omega)]
      rw[<-HJ.out,HD.out,this];rfl)
     have e1:((k:Int)==(s.size:Int)-1)=true:=by rw[beq_iff_eq];omega
     clear HD HJ hkk;go_wp2_with fail;refine (Ab _).mono ?_;rintro _ _ ⟨rfl,rfl⟩;clear Ab;go_wp2;go_ret;rw[Af.out,HX.out];exact⟨rfl,Ae.out⟩
    .have Aj:k+1<s.size:=by omega
     have e1:((k:Int)==(s.size:Int)-1)=false:=by rw[Fc];omega
     have kp:eC.i64.wrap ((k:Int)+1)=((k+1:Nat):Int):=by rw[cU _ (by omega)];omega
     have A3:(0:Int)<=((k+1:Nat):Int)/\((k+1:Nat):Int)<s.size:=by omega
     have HE:Hid (zb s (k+1)=decide ((s[k+1]'Aj).toNat=10)):=Hh (by unfold zb;rw[dif_pos Aj]);obtain⟨dh,Aw⟩:∃dh:Nat,(s[k+1]'Aj).toNat=dh:=⟨_,rfl⟩;rw[Aw] at HE
     by_cases h10:dh=10
     .subst h10
      have HX:Hid (RR s.data.toList 0=false):=Hh (by rw[<-HJ.out,HD.out,HE.out];rfl);clear HD HJ hkk;go_wp2_with fail;refine (Ab _).mono ?_;rintro _ _ ⟨rfl,rfl⟩;clear Ab;go_wp2;go_ret;rw[Af.out,HX.out];exact⟨rfl,Ae.out⟩
     .have A1:((dh:Int)==10)=false:=by rw[Fc];omega
      have Ac:Hid (RR s.data.toList 0=((ms k || (decide (ch=32) || decide (ch=10)))&&RR (s.data.toList.drop (k+1)) (k+1))):=Hh (by rw[<-HJ.out,HD.out,HE.out,decide_eq_false h10];rfl);clear HD HJ hkk h10 HE;rcases HM.out with Y|Y
      .rw[Y] at Aa
       have O:=Hh Y;clear Y HM
       (try simp only[if_true] at Aa)
       go_wp2_with fail;refine (Ab _).mono ?_;rintro _ _ ⟨rfl,rfl⟩;clear Ab;go_wp2;go_roundw
       .exact⟨k+1,F,by go_num,Hh (by rw[Ac.out,O.out];rfl),by first|rfl|trivial⟩
       simp[cR];omega
      .rw[Y] at Aa
       have O:=Hh Y;clear Y HM
       (try simp only[fm,if_false] at Aa)
       by_cases H:ch=32
       .subst H
        go_wp2_with fail;refine (Ab _).mono ?_;rintro _ _ ⟨rfl,rfl⟩;clear Ab;go_wp2;go_roundw
        .exact⟨k+1,F,by go_num,Hh (by rw[Ac.out,O.out];rfl),by first|rfl|trivial⟩
        simp[cR];omega
       .have Ar:((ch:Int) != 32)=true:=by rw[bne_iff_ne];omega
        by_cases h1:ch=10
        .subst h1
         clear H;go_wp2_with fail;refine (Ab _).mono ?_;rintro _ _ ⟨rfl,rfl⟩;clear Ab;go_wp2;go_roundw
         .exact⟨k+1,F,by go_num,Hh (by rw[Ac.out,O.out];rfl),by first|rfl|trivial⟩
         simp[cR];omega
        .have e2:((ch:Int) != 10)=true:=by rw[bne_iff_ne];omega
         have HX:Hid (RR s.data.toList 0=false):=Hh (by rw[Ac.out,O.out,decide_eq_false H,decide_eq_false h1];rfl);clear H h1 Ac;go_wp2_with fail;refine (Ab _).mono ?_;rintro _ _ ⟨rfl,rfl⟩;clear Ab;go_wp2;go_ret;rw[Af.out,HX.out];exact⟨rfl,Ae.out⟩
  .obtain rfl:k=s.size:=by omega
   have HX:Hid (RR s.data.toList 0=true):=Hh (by rw[<-HJ.out];exact Aq.out);have Ae:=Hh (Ak.out _ HB.out);go_wp2;go_ret;rw[Af.out,HX.out];exact⟨rfl,Ae.out⟩
structure gT where
 toks:List ae
 stop:Int
 last:Bool
variable{R:List gT}
def fD(size:Int):List ae->List ae->List gT
 |[],cur=>[⟨cur,size,true⟩]
 |t::r,cur=>if t.kind=6\/t.kind=7 then fD size r cur else if t.kind=5 then ⟨cur,t.pos,false⟩::fD size r [] else fD size r (cur++[t])
def vI(size:Int):List gT->List bX->List bX×Int×Int
 |[],st=>if 1<st.length then ([],size,2) else ((st.head?.getD bR).items,-1,0)
 |r::l,st=>if (bP st r.toks r.stop r.last).2.2≠0 then ([],(bP st r.toks r.stop r.last).2) else vI size l (bP st r.toks r.stop r.last).1
theorem tT(size:Int):∀(toks:List ae) (st:List bX) (row:List ae),cz size toks st row=vI size (fD size toks row) st
 | [],st,row=>by
  simp only[cz,fD,vI]
 | t::r,st,row=>by
  rw[cz,fD]
  by_cases h6:t.kind=6\/t.kind=7
  .rw[E4 h6,E4 h6];exact tT size r st row
  .rw[E6 h6,E6 h6]
   by_cases h5:t.kind=5
   .rw[E4 h5,E4 h5,vI]
    simp only[tT size r]
   .rw[E6 h5,E6 h5];exact tT size r st (row++[t])
structure Lb where
 l:List bX
 n:Nat
 at_:Int
 e:Int
def bY(size:Int):Nat->List gT->Nat->List bX->Nat->Lb
 |0,_,_,_,_=>⟨[],0,0,-1⟩
 |_+1,[],d,out,n=>if 0<d then ⟨[],0,size,2⟩ else ⟨out,n,0,0⟩
 | f+1,r::l,d,out,n=>match bn (d+1) r.toks r.stop r.last with
  |.wrong a e=>⟨[],0,a,e⟩
  |.empty=>bY size f l d out (n+1)
  |.attr x=>bY size f l d (out++[x]) (n+1)
  |.bare x=>bY size f l d (out++[x]) (n+1)
  |.fin=>⟨out,n+1,0,0⟩
  |.begins x=>
   let g:=bY size f l (d+1) [] 0
   if g.e≠0 then ⟨[],0,g.at_,g.e⟩ else bY size f (l.drop g.n) d (out++[.mk x.block x.name x.value x.labels g.l]) (n+(g.n+1))
def bX.addAll:bX->List bX->bX
 |.mk b n v l i,o=>.mk b n v l (i++o)
theorem Cz(t:bX):t.addAll []=t:=by cases t;simp[bX.addAll]
theorem wh(t x:bX)(o:List bX):(t.addAll o).add x=t.addAll (o++[x]):=by cases t;simp[bX.addAll,bX.add]
theorem OU(x:bX)(l:List bX)(h:x.items=[]):x.addAll l=.mk x.block x.name x.value x.labels l:=by cases x;simp only[bX.items] at h;subst h;rfl
theorem FW{row:List ae}{stop:Int}{last:Bool}{x:bX}(h:bn n row stop last=.begins x):x.items=[]:=by
 unfold bn at h
 cases row with
 |nil=>cases h
 |cons t r=>
  simp only at h;split at h
  .split at h
   .unfold fF at h;simp only[fs] at h;cases h
   .split at h
    .unfold fF at h;split at h;(· cases h);split at h<;>cases h
    .cases h
  .split at h
   .unfold fF at h;simp only[fs] at h;cases h
   .split at h
    .unfold lK fF at h
     repeat' split at h
     all_goals cases h
    .unfold gQ fF at h
     simp only at h;repeat' split at h
     all_goals first|(cases h;done)|(cases h;rfl)
theorem wG{r:gT}{l:List gT}{k:pO}(h:bn st.length r.toks r.stop r.last=k)(a:(eF st k).2.2=0):vI size (r::l) st=vI size l (eF st k).1:=by
 rw[vI,j3,h,E6 (fun q=>q a)]
theorem PD{r:gT}{l:List gT}{a e:Int}(h:bn st.length r.toks r.stop r.last=.wrong a e)(b:e≠0):vI size (r::l) st=([],a,e):=by
 rw[vI,j3,h,E4 (by exact b)];rfl
theorem oV(size:Int)(f:Nat)(r:gT)(l:List gT)(d:Nat)(out:List bX)(n:Nat):bY size (f+1) (r::l) d out n=(match bn (d+1) r.toks r.stop r.last with
  |.wrong a e=>⟨[],0,a,e⟩
  |.empty=>bY size f l d out (n+1)
  |.attr x=>bY size f l d (out++[x]) (n+1)
  |.bare x=>bY size f l d (out++[x]) (n+1)
  |.fin=>⟨out,n+1,0,0⟩
  |.begins x=>if (bY size f l (d+1) [] 0).e≠0 then ⟨[],0,(bY size f l (d+1) [] 0).at_,(bY size f l (d+1) [] 0).e⟩ else bY size f (l.drop (bY size f l (d+1) [] 0).n) d (out++[.mk x.block x.name x.value x.labels (bY size f l (d+1) [] 0).l]) (n+((bY size f l (d+1) [] 0).n+1))):=by rw[bY]
theorem kz(size:Int):∀(f:Nat) (l:List gT) (d:Nat) (out:List bX) (n:Nat) (st:List bX) (top:bX),l.length<f->st.length=d->
  ((bY size f l d out n).e≠0->vI size l (st++[top.addAll out])=([],(bY size f l d out n).at_,(bY size f l d out n).e))/\
  ((bY size f l d out n).e=0->n<=(bY size f l d out n).n/\(bY size f l d out n).n<=n+l.length/\
   (0<d->vI size l (st++[top.addAll out])=vI size (l.drop ((bY size f l d out n).n-n)) (jK st (top.addAll (bY size f l d out n).l)))/\
   (d=0->vI size l (st++[top.addAll out])=((top.addAll (bY size f l d out n).l).items,-1,0)))
 |0,l,d,out,n,st,top,hf,_=>by omega
 | f+1,[],d,out,n,st,top,hf,hs=>by
  rw[bY]
  by_cases hd:0<d
  .rw[E4 hd]
   refine⟨fun _=>?_,fun h=>by cases h⟩;rw[vI,E4 (by simp;omega)]
  .obtain rfl:d=0:=by omega
   obtain rfl:=cC hs;rw[E6 hd];refine⟨fun h=>absurd rfl h,fun _=>⟨cA _,by simp,fun h=>absurd h hd,fun _=>?_⟩⟩;simp[vI]
 | f+1,r::l,d,out,n,st,top,hf,hs=>by
  simp only[bc] at hf;have b:(st++[top.addAll out]).length=d+1:=by simp[hs]
  rw[oV]
  cases hk:bn (d+1) r.toks r.stop r.last with
  |wrong a e=>
   have j:e≠0:=by
    rcases zI (d+1) r.toks r.stop r.last with ⟨R,S,i,c⟩|h
    .rw[hk] at c;cases c;exact i
    .rw[hk] at h
     revert h
     generalize r.toks=p;intro h;cases h
   rw[PD (by rw[b];exact hk) j];exact⟨fun _=>rfl,fun h=>absurd h j⟩
  |empty=>
   rw[wG (k:=pO.empty) (by rw[b];exact hk) rfl];simp only[eF];obtain⟨i,c⟩:=kz size f l d out (n+1) st top (by omega) hs;refine⟨i,fun h=>?_⟩;obtain⟨A,C,v,B⟩:=c h;refine⟨by omega,by simp only[bc];omega,fun hd=>?_,B⟩;rw[v hd];obtain⟨m,u⟩:∃m,(bY size f l d out (n+1)).n=n+1+m:=⟨_,(pd A).symm⟩;rw[u,show n+1+m-(n+1)=m by omega,show n+1+m-n=m+1 by omega,ec]
  |attr x=>
   rw[wG (k:=(pO.attr x)) (by rw[b];exact hk) rfl];simp only[eF];rw[kN,wh];obtain⟨i,c⟩:=kz size f l d (out++[x]) (n+1) st top (by omega) hs;refine⟨i,fun h=>?_⟩;obtain⟨A,C,v,B⟩:=c h;refine⟨by omega,by simp only[bc];omega,fun hd=>?_,B⟩;rw[v hd];obtain⟨m,u⟩:∃m,(bY size f l d (out++[x]) (n+1)).n=n+1+m:=⟨_,(pd A).symm⟩;rw[u,show n+1+m-(n+1)=m by omega,show n+1+m-n=m+1 by omega,ec]
  |bare x=>
   rw[wG (k:=(pO.bare x)) (by rw[b];exact hk) rfl];simp only[eF];rw[kN,wh];obtain⟨i,c⟩:=kz size f l d (out++[x]) (n+1) st top (by omega) hs;refine⟨i,fun h=>?_⟩;obtain⟨A,C,v,B⟩:=c h;refine⟨by omega,by simp only[bc];omega,fun hd=>?_,B⟩;rw[v hd];obtain⟨m,u⟩:∃m,(bY size f l d (out++[x]) (n+1)).n=n+1+m:=⟨_,(pd A).symm⟩;rw[u,show n+1+m-(n+1)=m by omega,show n+1+m-n=m+1 by omega,ec]
  |fin=>
   have hd:d≠0:=by have:=tX hk;omega
   rw[wG (k:=pO.fin) (by rw[b];exact hk) rfl];simp only[eF];refine⟨fun h=>absurd rfl h,fun _=>⟨by omega,by simp only[bc];omega,fun _=>?_,fun h=>absurd h hd⟩⟩;rw[show n+1-n=0+1 by omega,ec,dd];simp
  |begins x=>
   rw[wG (k:=(pO.begins x)) (by rw[b];exact hk) rfl];simp only[eF];have J:=FW hk;obtain⟨i,c⟩:=kz size f l (d+1) [] 0 (st++[top.addAll out]) x (by omega) b;rw[Cz] at i c;generalize hg:bY size f l (d+1) [] 0=g at *
   by_cases j:g.e=0
   .rw[E6 (fun q=>q j)]
    obtain⟨A,C,v,-⟩:=c j;rw[v (by omega),kN,Nat.sub_zero,OU x g.l J,wh];obtain⟨E,H⟩:=kz size f (l.drop g.n) d (out++[.mk x.block x.name x.value x.labels g.l]) (n+(g.n+1)) st top (by rw[bm];omega) hs;refine⟨E,fun h=>?_⟩;obtain⟨L,M,P,Q⟩:=H h;rw[bm] at M;refine⟨by omega,by simp only[bc];omega,fun hd=>?_,Q⟩;rw[P hd];obtain⟨m,u⟩:∃m,(bY size f (l.drop g.n) d (out++[.mk x.block x.name x.value x.labels g.l]) (n+(g.n+1))).n=n+(g.n+1)+m:=⟨_,(pd L).symm⟩;rw[u,show n+(g.n+1)+m-(n+(g.n+1))=m by omega,show n+(g.n+1)+m-n=g.n+m+1 by omega,ec,c4]
   .rw[E4 j]
    exact⟨fun _=>i j,fun h=>absurd h j⟩
theorem Fq(size:Int)(toks:List ae):cz size toks [bR] [] =
  (if (bY size ((fD size toks []).length+1) (fD size toks []) 0 [] 0).e≠0 then ([],(bY size ((fD size toks []).length+1) (fD size toks []) 0 [] 0).at_,(bY size ((fD size toks []).length+1) (fD size toks []) 0 [] 0).e)
   else ((bY size ((fD size toks []).length+1) (fD size toks []) 0 [] 0).l,-1,0)):=by
 rw[tT];obtain⟨c,i⟩:=kz size ((fD size toks []).length+1) (fD size toks []) 0 [] 0 [] bR (by omega) rfl;rw[Cz,List.nil_append] at c i;generalize bY size ((fD size toks []).length+1) (fD size toks []) 0 [] 0=g at *
 by_cases b:g.e=0
 .rw[E6 (fun q=>q b),(i b).2.2.2 rfl]
  rfl
 .rw[E4 b,c b]
open Go.RowKit Go.Tab
def Fp(d:kE×gT):List cq:=[dS d.1,ao ar d.2.stop,cG d.2.last]
theorem Tryz.infoLn:(Tryz.prog.info? 114).map (fun i=>(i.zero,i.size,i.bytes))=aw (aw (ew #[an aq 0 0,ao ar 0,cG false]),3,40):=by kernel_rfl
def Jm(B:Nat)(w:cd)(v:cq)(R:List gT):Prop:=
 ∃D:List (kE×gT),D.map (·.2)=R/\w.ownsRow B 114 3 v D.length (D.flatMap Fp)/\∀d∈D,aS B w (dS d.1) d.2.toks
theorem Jm.below(h:Jm B w v R)(g:cj w.heap.size w w'):Jm B w' v R:=by
 obtain⟨D,c,a,f⟩:=h;exact⟨D,c,cZ a (fun k e=>g.block k (cy a k e).2),fun d hd=>(f d hd).below g lz⟩
theorem Jm.len(h:Jm B w v R):∃a cap,v=an a R.length cap/\R.length<=cap/\cap<=cV:=by
 obtain⟨D,rfl,Aa,-⟩:=h;obtain⟨k,i⟩:=Aa;rcases i with ⟨rfl,c⟩|⟨g,cap,f,rfl,o,q,c,j,-⟩
 .rw[cW,c];exact⟨aq,0,rfl,cA _,ck _⟩
 .rw[cW];exact⟨_,cap,rfl,c,j⟩
theorem IQ:∀(D:List (kE×gT)) (j:Nat) (h:j<D.length),(D.flatMap Fp)[j*3]?=aw (dS D[j].1)/\(D.flatMap Fp)[j*3+1]?=aw (ao ar D[j].2.stop)/\(D.flatMap Fp)[j*3+2]?=aw (cG D[j].2.last)
 |p::l,0,_=>by simp[Fp]
 | p::l,j+1,h=>by
  have ih:=IQ l j (by simpa using h);have e1:(j+1)*3=j*3+3:=by omega
  rw[e1]
  simpa [Fp] using ih
theorem Jm.get(h:Jm B w (an a n c) R)(u:j<R.length) :
  ∃b,∃s:kE,a=aw ⟨b,0,aq⟩/\b<w.heap.size/\aS B w (dS s) R[j].toks/\w.cell? ⟨b,j*3,aq⟩=aw (dS s)/\w.cell? ⟨b,j*3+1,aq⟩=aw (ao ar R[j].stop)/\w.cell? ⟨b,j*3+2,aq⟩=aw (cG R[j].last):=by
 obtain⟨D,rfl,Aa,z⟩:=h;rw[cW] at u;have Ab:=cy Aa;obtain⟨C,f⟩:=Aa;rcases f with ⟨f,v⟩|⟨g,cap,i,f,H,A,v,F,G,x⟩
 .omega
 .cases f
  obtain⟨k,o,q⟩:=IQ D j u;rw[<-x,List.getElem?_take,E4 (by omega)] at k o q;rw[ju];refine⟨g,D[j].1,rfl,(Ab g rfl).2,z D[j] (cH u),?_,?_,?_⟩
  all_goals rw[cell_of_row w g _ i 114 (0,0) A]
  .simpa using k
  .simpa using o
  .simpa using q
theorem E5{base sz:Nat}{E:TypeId}{xs:List cq}(h:w.ownsRow base E sz v n xs):∃a c,v=an a n c:=by
 rcases h.2 with ⟨rfl,rfl⟩|⟨g,cap,b,rfl,-⟩
 .exact⟨aq,0,rfl⟩
 .exact⟨_,_,rfl⟩
structure La(B:Nat)(w:cd)(lv:cq)(D:List (kE×gT))(nv:kE)(cur:List ae):Prop where
 own:w.ownsRow B 114 3 lv D.length (D.flatMap Fp)
 tk:aS B w (dS nv) cur
 fin:∀d∈D,aS B w (dS d.1) d.2.toks/\∀k,(dS d.1).ownBlock=aw k->(dS nv).ownBlock≠aw k
section
variable {B:Nat} {w w':cd} {lv v':cq} {D:List (kE×gT)} {nv:kE} {cur:List ae}
theorem La.below(h:La B w lv D nv cur)(hb:cj w.heap.size w w'):La B w' lv D nv cur:=
 ⟨cZ h.own (fun k e=>hb.block k (cy h.own k e).2),h.tk.below hb lz,fun d hd=>⟨(h.fin d hd).1.below hb lz,(h.fin d hd).2⟩⟩
theorem La.push(h:La B w lv D nv cur){st:Int}{la:Bool}(f:w.grownBy w' lv.ownBlock)(c:w'.ownsRow B 114 3 v' (D.length+1) (D.flatMap Fp++Fp (nv,⟨cur,st,la⟩))) :
  La B w' v' (D++[(nv,⟨cur,st,la⟩)]) (aq,0,0) []:=by
 have b:∀v l,aS B w v l->aS B w' v l:=fun v l hv=>hv.moved fun k e=>f.block k (cy hv k e).2 (fun q=>nz hv h.own (by decide) k e q.symm);refine⟨?_,aS.nil,fun d hd=>?_⟩
 .have e:(D++[(nv,(⟨cur,st,la⟩:gT))]).flatMap Fp=D.flatMap Fp++Fp (nv,⟨cur,st,la⟩):=by simp
  rw[e,cm,eh];exact c
 .rcases cX.1 hd with hd|hd
  .exact⟨b _ _ (h.fin d hd).1,fun k _ e=>by cases e⟩
  .rw[de.1 hd]
   exact⟨b _ _ h.tk,fun k _ e=>by cases e⟩
theorem La.tok{t:ae}{gb cap:Nat}(h:La B w lv D nv cur)(l:w.grownBy w' (dS nv).ownBlock)(j:aS B w' (an (aw ⟨gb,0,aq⟩) (cur.length+1) cap) (cur++[t]))(c:(dS nv).ownBlock=aw gb\/w.heap.size<=gb) :
  La B w' lv D (aw ⟨gb,0,aq⟩,cur.length+1,cap) (cur++[t]):=by
 refine⟨cZ h.own (fun k e=>l.block k (cy h.own k e).2 (fun q=>nz h.tk h.own (by decide) k q.symm e)),j,fun d hd=>?_⟩;obtain⟨f,i⟩:=h.fin d hd;refine⟨f.moved fun k e=>l.block k (cy f k e).2 (fun q=>i k e q.symm),fun k e q=>?_⟩;have q:gb=k:=by simpa [dS,ev] using q
 subst q;rcases c with c|c
 .exact i _ e c
 .have:=(cy f _ e).2;omega
theorem La.done(h:La B w lv D nv cur):Jm B w lv (D.map (·.2)):=⟨D,rfl,h.own,fun d hd=>(h.fin d hd).1⟩
end
theorem pV{a:Act}(C:p.guard=aq)(s x:Operand)(F:p.op=.call { callee:=.builtin .append,args:=#[s,x],argTypes:=#[84,84] })(B:Nat)(lv:cq)(D:List (kE×gT))(d:kE×gT)(I:a.eval s=lv)(A:w.ownsRow B 114 3 lv D.length (D.flatMap Fp))(g:Nat)(J:a.eval x=an (aw ⟨g,0,aq⟩) 1 1)(H:aa w g #[dS d.1,ao ar d.2.stop,cG d.2.last] 114)(L:D.length<=1000000)(q:B<=w.heap.size)(G:∀g2 c2 w',w'.ownsRow B 114 3 (an (aw ⟨g2,0,aq⟩) (D.length+1) c2) (D.length+1) (D.flatMap Fp++Fp d)->w.grownBy w' lv.ownBlock->
   gE bh ops Q rest (a.put p.dst (an (aw ⟨g2,0,aq⟩) (D.length+1) c2)) w'):gE bh ops Q (p::rest) a w:=by
 obtain⟨i,Aa,Ab,Ac,Ad⟩:=info_parts Tryz.infoLn;refine n8 w C s x 84 F B 114 i _ 3 40 Tryz.underlying84 Aa Ab Ac Ad rfl (by decide) lv D.length (D.flatMap Fp) I A ⟨g,0,aq⟩ 1 1 (Fp d) J rfl ?_ ?_ (by omega) (by unfold cV;omega) (by omega) q _ rfl (fun g2 c2 w' h1 h2 _ _=>G g2 c2 w' h1 h2)
 .intro j u f
  rw[iS,df];exact H.cell _ _ (by simpa [Fp] using f)
 .intro u f
  simp only[Fp,cL,fW,or_false] at f;rcases f with rfl|rfl|rfl<;>rfl
theorem JW(w:cd)(tv:cq)(toks:List ae)(size:Int)(h:aP w tv toks)(hk7:∀t∈toks,t.kind<5\/t.kind=5\/t.kind=6\/t.kind=7)(hn:toks.length<=1000000) :
  cJ bh 38 #[tv,ao ar size] w fun e w'=>∃v,e=bk v/\Jm w.heap.size w' v (fD size toks [])/\cj w.heap.size w w':=by
 obtain⟨a,cp,rfl,An,Aj,-⟩:=h.len;unfold cV at Aj;have HT:=Hh h;obtain⟨R,hR⟩:=exq (fD size toks []);rw[<-hR];have HR:=Hh hR;clear h hR;go_in;go_wp2;go_loopw [5,6,7] (fun lv nv i wr=>∃(k:Nat) (D:List (kE×gT)) (s:kE) (cur:List ae),k<=toks.length/\i=ao ar (k:Int)/\nv=dS s/\Hid (La w.heap.size wr lv D s cur/\R=D.map (·.2)++fD size (toks.drop k) cur/\D.length<=k/\cur.length<=k/\cj w.heap.size w wr)) (fun _ _ i _=>toks.length-(cR i).toNat)
 .exact⟨0,[],(aq,0,0),[],ck _,rfl,rfl,Hh ⟨⟨ir _ _ _ _,aS.nil,fun d hd=>by cases hd⟩,by rw[HR.out];rfl,cA _,cA _,ba _ _⟩⟩
 obtain⟨k,D,s,cur,hk,rfl,rfl,B⟩:=hrel;obtain⟨J,nn,K⟩:=s;obtain⟨a',c',e'⟩:=B.out.1.tk.len;simp only[dS,fS] at e';obtain⟨rfl,rfl,rfl⟩:=e';obtain⟨la,lc,rfl⟩:=E5 B.out.1.own;simp only[dS];have Ap:=B.out.2.2.2.2.size
 by_cases F:k<toks.length
 .obtain⟨b,Ai,rfl,Ao,Z,c1,c2⟩:=(HT.out.below B.out.2.2.2.2 lz).get F
  have Ah:b<w.heap.size:=by
   obtain⟨b2,Ak,e2,h2,-⟩:=HT.out.get F;cases e2;exact h2
  have Ae:=B.out.2.1;rw[cg F] at Ae;have Af:=hk7 _ (cH F);generalize toks[k]=t at *;obtain⟨H,Q,G⟩:=t;simp only at Z c1 c2 Af;rw[fD] at Ae;have Ac:=Hh Ae;clear Ae
  by_cases X:H=5
  .subst X
   have Ad:Hid (R=D.map (·.2)++⟨cur,G,false⟩::fD size (toks.drop (k+1)) []):=Hh (by rw[Ac.out,E6 (by simp),E4 rfl]);clear Ac Af;go_wp2_with (with_reducible first|refine aL ?_)
   refine Stop.out ?_;have I:=(ba _ wr).alloc lz (aE #[an J cur.length K,ao ar G,cG false] 114);refine pV rfl _ _ rfl w.heap.size (an la D.length lc) D ((J,cur.length,K),⟨cur,G,false⟩) rfl (by exact (B.out.1.below I).own) wr.heap.size rfl (aa.new wr _ _) (by have:=B.out.2.2.1;omega) (by simp;omega) ?_;intro g3 U M u C;have Ab:=(B.out.1.below I).push C u;have Aa:=(B.out.2.2.2.2.alloc B.out.2.2.2.2.size (aE #[an J cur.length K,ao ar G,cG false] 114)).grown C (by simp;omega) (fun k e=>(cy B.out.1.own k e).1);have Al:=(Aa.cell (p:=⟨b,Ai+k*3,aq⟩) Ah).trans ((B.out.2.2.2.2.cell (p:=⟨b,Ai+k*3,aq⟩) Ah).symm.trans Z);have O:Hid (La w.heap.size M (an (aw ⟨g3,0,aq⟩) (D.length+1) U) (D++[((J,cur.length,K),⟨cur,G,false⟩)]) (aq,0,0) []/\R=(D++[((J,cur.length,K),(⟨cur,G,false⟩:gT))]).map (·.2)++fD size (toks.drop (k+1)) []/\(D++[((J,cur.length,K),(⟨cur,G,false⟩:gT))]).length<=k+1/\([]:List ae).length<=k+1/\cj w.heap.size w M):=Hh ⟨Ab,by rw[Ad.out];simp,by simp;have:=B.out.2.2.1;omega,ck _,Aa⟩;have Am:=Aa.size;clear Ab Aa u C I Z c1 c2;have Ag:b<M.heap.size:=by omega
   go_wp2;go_roundw
   .exact⟨k+1,_,_,_,F,by go_num,rfl,O⟩
   simp[cR];omega
  .have e5:(H==5)=false:=by simpa using X
   by_cases h6:H=6\/H=7
   .have e6:decide (H<5)=false:=by rw[decide_eq_false_iff_not];omega
    have O:Hid (La w.heap.size wr (an la D.length lc) D (J,cur.length,K) cur/\R=D.map (·.2)++fD size (toks.drop (k+1)) cur/\D.length<=k+1/\cur.length<=k+1/\cj w.heap.size w wr):=Hh ⟨B.out.1,by rw[Ac.out,E4 h6],by have:=B.out.2.2.1;omega,by have:=B.out.2.2.2.1;omega,B.out.2.2.2.2⟩;clear X h6 Af B Ac;go_wp2;go_roundw
    .exact⟨k+1,_,_,_,F,by go_num,rfl,O⟩
    simp[cR];omega
   .have e6:decide (H<5)=true:=by rw[decide_eq_true_iff];omega
    have Ad:Hid (R=D.map (·.2)++fD size (toks.drop (k+1)) (cur++[⟨H,Q,G⟩])):=Hh (by rw[Ac.out,E6 h6,E6 X]);clear X h6 Af Ac;go_wp2_with (with_reducible first|refine aL ?_)
    refine Stop.out ?_;have I:=(ba _ wr).alloc lz (aE #[ao ar H,al Q,ao ar G] 62);refine iE rfl _ _ rfl w.heap.size cur ⟨H,Q,G⟩ (by exact (B.out.1.below I).tk) wr.heap.size rfl (aa.new wr _ _) (by have:=B.out.2.2.2.1;omega) (by simp;omega) _ rfl ?_;intro g3 U M u C Y Ag;have Ab:=(B.out.1.below I).tok C u (Y.imp id (fun q=>ox q.symm));have Aa:=(B.out.2.2.2.2.alloc B.out.2.2.2.2.size (aE #[ao ar H,al Q,ao ar G] 62)).grown C (by simp;omega) (fun k e=>(cy B.out.1.tk k e).1);have O:Hid (La w.heap.size M (an la D.length lc) D (aw ⟨g3,0,aq⟩,cur.length+1,U) (cur++[⟨H,Q,G⟩])/\R=D.map (·.2)++fD size (toks.drop (k+1)) (cur++[⟨H,Q,G⟩])/\D.length<=k+1/\(cur++[(⟨H,Q,G⟩:ae)]).length<=k+1/\cj w.heap.size w M):=Hh ⟨Ab,Ad.out,by have:=B.out.2.2.1;omega,by simp;have:=B.out.2.2.2.1;omega,Aa⟩;clear Ab Aa u C I Z c1 c2;go_wp2;go_roundw
    .exact⟨k+1,_,_,_,F,by go_num,rfl,O⟩
    simp[cR];omega
 .obtain rfl:k=toks.length:=by omega
  have Ad:Hid (R=D.map (·.2)++[⟨cur,size,true⟩]):=Hh (by rw[B.out.2.1,ei];rfl);go_wp2_with (with_reducible first|refine aL ?_)
  refine Stop.out ?_;have I:=(ba _ wr).alloc lz (aE #[an J cur.length K,ao ar size,cG true] 114);refine pV rfl _ _ rfl w.heap.size (an la D.length lc) D ((J,cur.length,K),⟨cur,size,true⟩) rfl (by exact (B.out.1.below I).own) wr.heap.size rfl (aa.new wr _ _) (by have:=B.out.2.2.1;omega) (by simp;omega) ?_;intro g3 U M u C;have Ab:=(B.out.1.below I).push C u;have Aa:=(B.out.2.2.2.2.alloc B.out.2.2.2.2.size (aE #[an J cur.length K,ao ar size,cG true] 114)).grown C (by simp;omega) (fun k e=>(cy B.out.1.own k e).1);have O:Hid (Jm w.heap.size M (an (aw ⟨g3,0,aq⟩) (D.length+1) U) R/\cj w.heap.size w M):=Hh ⟨by rw[Ad.out];have q:=Ab.done;rw[eJ] at q;exact q,Aa⟩;clear Ab Aa u C I;go_wp2;go_ret;exact⟨_,rfl,O.out⟩
abbrev bg(o t:E7)(kv:cq)(a e:Int):Array cq:=#[al o,al t,kv,ao ar a,ao ar e]
abbrev pQ:Array cq:=#[al ⟨#[]⟩,al ⟨#[]⟩,an aq 0 0,ao ar 0,ao ar 0]
structure Ls(w:cd)(lv:cq)(l:List ae):Prop where
 toks:aP w lv l
 few:l.length<=1000
 short:∀t∈l,t.text.size<=1048576
 quo:∀t∈l,t.kind=3->lm t.text≠aq
theorem Ls.below(h:Ls w lv l)(hb:cj w.heap.size w w'):Ls w' lv l:=⟨h.toks.below hb lz,h.few,h.short,h.quo⟩
theorem Ls.sl(h:Ls w lv l):∃a c,lv=an a l.length c/\l.length<=c/\c<=cV:=by
 obtain⟨a,c,rfl,b,f,-⟩:=h.toks.len;exact⟨a,c,rfl,b,f⟩
def GP(k:Nat)(r:gq)(w:cd)(e:Ending)(w':cd):Prop:=
 cj w.heap.size w w'/\∃o t a n c,e=bk (ew (bg o t (an a n c) ((k+r.2.1:Nat):Int) r.2.2))/\(r.2.2=0->af (fun b=>w.heap.size<=b) w' r.1 (fq o t (an a n c)))
def CC(m:Nat):Prop:=∀(w:cd) (lv:cq) (l:List ae) (k d:Nat),Ls w lv l->k<=l.length->d<=64->(ah m .choice (l.drop k) d).2.2≠-1->
 cJ bh 134 #[lv,ao ar (k:Nat),ao ar (d:Nat)] w (GP k (ah m .choice (l.drop k) d) w)
def TC(m:Nat):Prop:=∀(w:cd) (lv:cq) (l:List ae) (k d n:Nat),Ls w lv l->k<=l.length->d<=64->1<=n->n<=7->(ah m (.term n) (l.drop k) d).2.2≠-1->
 cJ bh 153 #[lv,ao ar (k:Nat),ao ar (d:Nat),ao ar (n:Nat)] w (GP k (ah m (.term n) (l.drop k) d) w)
def XC(m:Nat):Prop:=∀(w:cd) (lv:cq) (l:List ae) (k d:Nat),Ls w lv l->k<=l.length->d<=64->(ah m .tight (l.drop k) d).2.2≠-1->
 cJ bh 185 #[lv,ao ar (k:Nat),ao ar (d:Nat)] w (GP k (ah m .tight (l.drop k) d) w)
def PC(m:Nat):Prop:=∀(w:cd) (lv:cq) (l:List ae) (k d:Nat),Ls w lv l->k<=l.length->d<=64->(ah m .post (l.drop k) d).2.2≠-1->
 cJ bh 206 #[lv,ao ar (k:Nat),ao ar (d:Nat)] w (GP k (ah m .post (l.drop k) d) w)
def QC(m:Nat):Prop:=∀(w:cd) (lv:cq) (l:List ae) (k d:Nat),Ls w lv l->k<=l.length->d<=64->(ah m .prime (l.drop k) d).2.2≠-1->
 cJ bh 213 #[lv,ao ar (k:Nat),ao ar (d:Nat)] w (GP k (ah m .prime (l.drop k) d) w)
def MC(m:Nat):Prop:=∀(w:cd) (lv:cq) (l:List ae) (k d:Nat) (s:E7),Ls w lv l->k<l.length->d<=64->s=tF\/s=rT->(ah m (.many s) (l.drop k) d).2.2≠-1->
 cJ bh 216 #[lv,ao ar (k:Nat),ao ar (d:Nat),al s] w (GP k (ah m (.many s) (l.drop k) d) w)
theorem pY(a b:E7):(a.toList==b.toList)=decide (a=b):=by
 by_cases h:a=b
 .subst h;simp
 .rw[decide_eq_false h];exact Am h
theorem gL(w:cd)(lv:cq)(l:List ae)(k:Nat)(s:E7)(h:aP w lv l)(K:l.length<=1000)(J:k<=l.length+1):cJ bh 154 #[lv,ao ar (k:Nat),al s] w fun e w'=>e=bk (cG (cu (l.drop k) s))/\w=w':=by
 obtain⟨a,c,rfl,H,B,-⟩:=h.len;unfold cV at B
 by_cases f:k<l.length
 .obtain⟨b,Ab,rfl,Aa,q0,C,E⟩:=h.get f
  have i:Hid (cu (l.drop k) s=(decide (l[k].kind=4)&&decide (l[k].text=s))):=Hh (by rw[cg f];rfl);generalize l[k]=t at *;obtain⟨j,o,I⟩:=t;simp only at q0 C i;clear h E
  have F:(j==4)=decide (j=4):=by
   by_cases h:j=4
   .subst h;simp
   .rw[decide_eq_false h];simpa using h
  have G:=pY o s;generalize decide (j=4)=q at *;generalize decide (o=s)=A at *;go_in;cases q<;>cases A
  all_goals
   go_wp2;go_ret;exact⟨by rw[i.out];rfl,rfl⟩
 .have i:Hid (cu (l.drop k) s=false):=Hh (by rw[ek (by omega)];rfl)
  clear h;go_in;go_wp2;go_ret;exact⟨by rw[i.out];rfl,rfl⟩
theorem Ru(l:List ae)(k:Nat)(b:k<=l.length):dJ (l.drop k) 0=(bf,0,if k=l.length then 2 else 3):=by
 unfold dJ
 by_cases h:k=l.length
 .rw[E4 (by rw[qS];omega),E4 h]
 .rw[E6 (by rw[qS];omega),E6 h]
theorem nO(w:cd)(lv:cq)(l:List ae)(k:Nat)(h:aP w lv l)(B:l.length<=1000)(A:k<=l.length) :
  cJ bh 155 #[lv,ao ar (k:Nat)] w fun e w'=>e=bk (ew (bg ⟨#[]⟩ ⟨#[]⟩ (an aq 0 0) (k:Int) (dJ (l.drop k) 0).2.2))/\cj w.heap.size w w':=by
 obtain⟨a,c,rfl,x,o,-⟩:=h.len;unfold cV at o;rw[Ru l k A];clear h
 by_cases i:k=l.length
 .subst i
  rw[E4 rfl];go_in;go_wp2;have j:=aa.new w (bg ⟨#[]⟩ ⟨#[]⟩ (an aq 0 0) (l.length:Nat) 2) 144;obtain⟨Aa,Ab,Ac,Ad,Ae⟩:=j.m5 rfl;refine bj (v:=ew (bg ⟨#[]⟩ ⟨#[]⟩ (an aq 0 0) (l.length:Nat) 2)) (by simp[cD,Tryz.results155,go_sem,Aa,Ab,Ac,Ad,Ae]) rfl ?_;exact⟨rfl,(ba _ w).alloc lz _⟩
 .rw[E6 i]
  have Af:k<l.length:=by omega
  go_in;go_wp2;have j:=aa.new w (bg ⟨#[]⟩ ⟨#[]⟩ (an aq 0 0) (k:Nat) 3) 144;obtain⟨Aa,Ab,Ac,Ad,Ae⟩:=j.m5 rfl;refine bj (v:=ew (bg ⟨#[]⟩ ⟨#[]⟩ (an aq 0 0) (k:Nat) 3)) (by simp[cD,Tryz.results155,go_sem,Aa,Ab,Ac,Ad,Ae]) rfl ?_;exact⟨rfl,(ba _ w).alloc lz _⟩
theorem UI{r:gq}{t:E7}(h:pa=((k+r.2.1:Nat):Int))(i:pe=r.2.2)(u:cj w.heap.size w W)(s:r.2.2=0->af (fun b=>w.heap.size+1<=b) W r.1 (fq o t (an a n c))) :
  GP k r w (bk (ew (bg o t (an a n c) pa pe))) (aj W w.heap.size 0 [al o,al t,an a n c,ao ar pa,ao ar pe]):=by
 subst h i;refine⟨aZ w.heap.size w.heap.size lz _ 0 _ _ u,o,t,a,n,c,rfl,fun he=>?_⟩;refine af.move (by rw[aD];exact cA _) (fun b hb' _=>aR _ _ _ _ _ (by omega)) (fun b hb' _=>by omega) _ _ (s he)
theorem iV{g:gq}{f:iA->Nat->gq}(h:(jr g f).2.2≠-1):g.2.2≠-1:=fun e=>by
 rw[bA (by rw[e];decide)] at h;exact h e
theorem LX{s2:E7}(h:cu r s=true)(a:s≠s2):cu r s2=false:=by
 cases r with
 |nil=>rfl
 |cons t r=>
  simp only[cu,cP,decide_eq_true_eq] at h;simp only[cu,h.2,decide_eq_false a,sT]
theorem Ls.alloc(h:Ls w lv l)(o:Obj):Ls (w.alloc o) lv l:=h.below ((ba _ w).alloc lz _)
theorem dI{r:gq}{t:E7}(h:pa=((k+r.2.1:Nat):Int))(i:pe=r.2.2)(s:cj w.heap.size w W)(j:r.2.2=0->af (fun b=>w.heap.size+1<=b) W r.1 (fq o t (an a n c))) :
  GP k r w (bk (ew (bg o t (an a n c) pa pe))) W:=by
 subst h i;exact⟨s,o,t,a,n,c,rfl,fun he=>af.move lz (fun _ _ _=>rfl) (fun b hb' _=>by omega) _ _ (j he)⟩
section
variable {w w4:cd} {vs:List cq}
theorem gI(hb:cj w.heap.size w w4)(A:Obj):cj w.heap.size w ((aj w4 w.heap.size 0 vs).alloc A):=(aZ w.heap.size w.heap.size lz vs 0 _ _ hb).alloc (by rw[aD];exact hb.size) _
theorem FJ(hb:cj w.heap.size w w4)(A B:Obj):cj w.heap.size w (((aj w4 w.heap.size 0 vs).alloc A).alloc B):=(gI hb A).alloc (by simp only[cF,aD];have:=hb.size;omega) _
theorem Tt{x:iA}{cs:List Value}(hX:af (fun b=>w.heap.size+1<=b) w4 x cs)(A B:Obj):af (fun b=>w.heap.size+1<=b) (((aj w4 w.heap.size 0 vs).alloc A).alloc B) x cs:=
 af.move (by simp only[cF,aD];omega) (fun b hb hl=>by
  rw[fX _ _ _ (by simp only[cF,aD];omega),fX _ _ _ (by rw[aD];omega),aR _ _ _ _ _ (by omega)]) (fun b hb _=>hb) _ _ hX
theorem BX(r:w.heap.size<w4.heap.size)(A:Obj){op text:E7}(kids:List (iA×List cq))(o:∀s∈kids,af (fun b=>w.heap.size+1<=b) w4 s.1 s.2)(q:kids.length<=cV) :
  af (fun b=>w.heap.size+1<=b) (((aj w4 w.heap.size 0 vs).alloc A).alloc (aE (kids.flatMap (·.2)).toArray 45)) (.mk op text (kids.map (·.1))) [al op,al text,an (aw ⟨w4.heap.size+1,0,aq⟩) kids.length kids.length]:=by
 have i:=aa.new ((aj w4 w.heap.size 0 vs).alloc A) (kids.flatMap (·.2)).toArray 45;rw[cF,aD] at i;exact tQ kids i (by show w.heap.size+1<=w4.heap.size+1;omega) (fun s hs=>Tt (o s hs) _ _) q
end
theorem CV(m:Nat)(hP:PC m)(hX:XC m):XC (m+1):=by
 intro w lv l k d h hk hd H;obtain⟨a,c,rfl,A5,A4⟩:=h.sl;have A1:=h.few;unfold cV at A4;rw[ah] at H ⊢;have h0:=h.alloc (aE pQ 144);have Ax:cj w.heap.size w (w.alloc (aE pQ 144)):=(ba _ w).alloc lz _;have Az:=aa.new w pQ 144;have Av:=fun s=>gL (w.alloc (aE pQ 144)) (an a l.length c) l k s h0.toks A1 (by omega)
 by_cases hb:cu (l.drop k) dQ=false/\cu (l.drop k) kZ=false
 .rw[E4 hb] at H ⊢
  have W:=hP _ _ l k d h0 hk hd H;obtain⟨Ai,Aj⟩:=hb;generalize ah m .post (l.drop k) d=R at *;obtain⟨rx,D,K⟩:=R;have S:=Jh Ax Az;clear h h0 Ax Az H;go_in;go_wp2_with (go_at_call 154;refine (Av _).mono ?_;rintro _ _ ⟨rfl,rfl⟩;simp only[Ai,Aj])
  refine W.mono ?_;clear W Av;rintro _ N ⟨G,o,t,E,n4,F,rfl,M⟩;have Ab:=S.out.2.below G S.out.2.lt;have A0:=Ab.lt;have Aa:=Jh (S.out.1.trans (G.mono S.out.1.size)) (cE Ab M);clear G M;obtain⟨Ak,Ap,Al,Aq,Am,Ar,An,As,Ao,At⟩:=Ab.n5 rfl;clear Ab;go_wp2_with fail;have T:=((((Aa.out.2.1.setI 0 (al o)).setI 1 (al t)).setI 2 (an E n4 F)).setI 3 (ao ar ((k:Int)+(D:Int)))).setI 4 (ao ar K);obtain⟨Ac,Ad,Ae,Af,Ag⟩:=T.m5 rfl;refine bj (v:=ew (#[al o,al t,an E n4 F,ao ar ((k:Int)+(D:Int)),ao ar K])) (by simp[cD,sf,go_sem,Ac,Ad,Ae,Af,Ag]) rfl ?_;show GP k _ w _ (aj N w.heap.size 0 [al o,al t,an E n4 F,ao ar ((k:Int)+(D:Int)),ao ar K]);exact UI (by simp) rfl Aa.out.1 (fun he=>by have:=Aa.out.2.2 he;simpa using this)
 .rw[E6 hb] at H ⊢
  have A2:k<l.length:=by
   by_cases A2:k<l.length
   .exact A2
   .exfalso;apply hb;rw[ek (by omega)];exact⟨rfl,rfl⟩
  obtain⟨op,A3,Ay⟩:∃op,op=(if cu (l.drop k) dQ then dQ else sj)/\((cu (l.drop k) dQ=true/\cu (l.drop k) kZ=false/\op=dQ)\/(cu (l.drop k) dQ=false/\cu (l.drop k) kZ=true/\op=sj)):=by
   refine⟨_,rfl,?_⟩
   by_cases U:cu (l.drop k) dQ=true
   .exact .inl ⟨U,LX U (by decide),by rw[E4 U]⟩
   .have U:cu (l.drop k) dQ=false:=by simpa using U
    refine .inr ⟨U,?_,by rw[E6 (by rw[U];decide)]⟩
    by_cases h2:cu (l.drop k) kZ=true
    .exact h2
    .exact absurd ⟨U,by simpa using h2⟩ hb
  rw[<-A3] at H ⊢;clear A3 hb
  by_cases Y:64<=d
  .rw[E4 Y]
   clear h h0 Ax Az H;go_in;rcases Ay with ⟨Ai,Aj,rfl⟩|⟨Ai,Aj,rfl⟩
   all_goals
    go_wp2_with (go_at_call 154;refine (Av _).mono ?_;rintro _ _ ⟨rfl,rfl⟩;simp only[Ai,Aj])
    have T:=aa.new w (bg ⟨#[]⟩ ⟨#[]⟩ (an aq 0 0) (k:Nat) 5) 144;obtain⟨Ac,Ad,Ae,Af,Ag⟩:=T.m5 rfl;refine bj (v:=ew (bg ⟨#[]⟩ ⟨#[]⟩ (an aq 0 0) (k:Nat) 5)) (by simp[cD,sf,go_sem,Ac,Ad,Ae,Af,Ag]) rfl ?_;exact⟨(ba _ w).alloc lz _,_,_,_,_,_,rfl,fun he=>by cases he⟩
  .rw[E6 Y] at H ⊢
   have Ah:=iV H;simp only[eZ] at Ah;rw[c4,show k+1=k+1 from rfl] at H Ah ⊢;have W:=hX _ _ l (k+1) (d+1) h0 (by omega) (by omega) Ah;rw[show ((k+1:Nat):Int)=(k:Int)+1 by omega,show ((d+1:Nat):Int)=(d:Int)+1 by omega] at W;generalize ah m .tight (l.drop (k+1)) (d+1)=R at *;obtain⟨rx,D,K⟩:=R;have S:=Jh Ax Az;clear h h0 Ax Az H Ah;go_in;rcases Ay with ⟨Ai,Aj,rfl⟩|⟨Ai,Aj,rfl⟩
   .skip
    go_wp2_with (go_at_call 154;refine (Av _).mono ?_;rintro _ _ ⟨rfl,rfl⟩;simp only[Ai,Aj])
    refine W.mono ?_;clear W Av;rintro _ N ⟨G,o,t,E,n4,F,rfl,M⟩;have Ab:=S.out.2.below G S.out.2.lt;have A0:=Ab.lt;have Aa:=Jh (S.out.1.trans (G.mono S.out.1.size)) (cE Ab M);clear G M;obtain⟨Ak,Ap,Al,Aq,Am,Ar,An,As,Ao,At⟩:=Ab.n5 rfl;clear Ab
    by_cases he:K=0
    .subst he
     go_wp2_with fail;have Aw:=Aa.out.2.2 (by first|trivial|rfl);rw[cF] at Aw;have T:=((((((Aa.out.2.1.setI 0 (al dQ)).setI 1 (al ⟨#[]⟩)).setI 2 (an (aw ⟨N.heap.size+1,0,aq⟩) 1 1)).setI 3 (ao ar ((k:Int)+1+(D:Int)))).setI 4 (ao ar 0)).alloc (aE (bg o t (an E n4 F) ((k:Int)+1+(D:Int)) 0) 144)).alloc (aE #[al o,al t,an E n4 F] 45)
     have hn:af (fun b=>w.heap.size+1<=b) (((aj N w.heap.size 0 [al dQ,al ⟨#[]⟩,an (aw ⟨N.heap.size+1,0,aq⟩) 1 1,ao ar ((k:Int)+1+(D:Int)),ao ar 0]).alloc (aE (bg o t (an E n4 F) ((k:Int)+1+(D:Int)) 0) 144)).alloc (aE #[al o,al t,an E n4 F] 45)) (.mk dQ jO [rx]) [al dQ,al jO,an (aw ⟨N.heap.size+1,0,aq⟩) 1 1]:=
      BX A0 _ [(rx,fq o t (an E n4 F))] (fun s hs=>by simp at hs;subst hs;exact Aw) (by simp[cV])
     have Au:=FJ (vs:=[al dQ,al ⟨#[]⟩,an (aw ⟨N.heap.size+1,0,aq⟩) 1 1,ao ar ((k:Int)+1+(D:Int)),ao ar 0]) Aa.out.1 (aE (bg o t (an E n4 F) ((k:Int)+1+(D:Int)) 0) 144) (aE #[al o,al t,an E n4 F] 45);obtain⟨Ac,Ad,Ae,Af,Ag⟩:=T.m5 rfl;refine bj (v:=ew (#[al dQ,al ⟨#[]⟩,an (aw ⟨N.heap.size+1,0,aq⟩) 1 1,ao ar ((k:Int)+1+(D:Int)),ao ar 0])) (by simp[cD,sf,go_sem,Ac,Ad,Ae,Af,Ag]) rfl ?_;rw[cB (by rfl)];exact dI (r:=(.mk dQ jO [rx],1+D,0)) (by simp only;omega) rfl Au (fun _=>hn)
    .have e0:(K != 0)=true:=by simpa using he
     go_wp2_with fail;have T:=(((((Aa.out.2.1.setI 0 (al o)).setI 1 (al t)).setI 2 (an E n4 F)).setI 3 (ao ar ((k:Int)+1+(D:Int)))).setI 4 (ao ar K)).alloc (aE (bg o t (an E n4 F) ((k:Int)+1+(D:Int)) K) 144);have Au:=gI (vs:=[al o,al t,an E n4 F,ao ar ((k:Int)+1+(D:Int)),ao ar K]) Aa.out.1 (aE (bg o t (an E n4 F) ((k:Int)+1+(D:Int)) K) 144);obtain⟨Ac,Ad,Ae,Af,Ag⟩:=T.m5 rfl;refine bj (v:=ew (#[al o,al t,an E n4 F,ao ar ((k:Int)+1+(D:Int)),ao ar K])) (by simp[cD,sf,go_sem,Ac,Ad,Ae,Af,Ag]) rfl ?_;rw[bA (by exact he)];exact dI (r:=(bf,1+D,K)) (by simp only;omega) rfl Au (fun h=>absurd h he)
   .skip
    go_wp2_with (go_at_call 154;refine (Av _).mono ?_;rintro _ _ ⟨rfl,rfl⟩;simp only[Ai,Aj])
    refine W.mono ?_;clear W Av;rintro _ N ⟨G,o,t,E,n4,F,rfl,M⟩;have Ab:=S.out.2.below G S.out.2.lt;have A0:=Ab.lt;have Aa:=Jh (S.out.1.trans (G.mono S.out.1.size)) (cE Ab M);clear G M;obtain⟨Ak,Ap,Al,Aq,Am,Ar,An,As,Ao,At⟩:=Ab.n5 rfl;clear Ab
    by_cases he:K=0
    .subst he
     go_wp2_with fail;have Aw:=Aa.out.2.2 (by first|trivial|rfl);rw[cF] at Aw;have T:=((((((Aa.out.2.1.setI 0 (al sj)).setI 1 (al ⟨#[]⟩)).setI 2 (an (aw ⟨N.heap.size+1,0,aq⟩) 1 1)).setI 3 (ao ar ((k:Int)+1+(D:Int)))).setI 4 (ao ar 0)).alloc (aE (bg o t (an E n4 F) ((k:Int)+1+(D:Int)) 0) 144)).alloc (aE #[al o,al t,an E n4 F] 45)
     have hn:af (fun b=>w.heap.size+1<=b) (((aj N w.heap.size 0 [al sj,al ⟨#[]⟩,an (aw ⟨N.heap.size+1,0,aq⟩) 1 1,ao ar ((k:Int)+1+(D:Int)),ao ar 0]).alloc (aE (bg o t (an E n4 F) ((k:Int)+1+(D:Int)) 0) 144)).alloc (aE #[al o,al t,an E n4 F] 45)) (.mk sj jO [rx]) [al sj,al jO,an (aw ⟨N.heap.size+1,0,aq⟩) 1 1]:=
      BX A0 _ [(rx,fq o t (an E n4 F))] (fun s hs=>by simp at hs;subst hs;exact Aw) (by simp[cV])
     have Au:=FJ (vs:=[al sj,al ⟨#[]⟩,an (aw ⟨N.heap.size+1,0,aq⟩) 1 1,ao ar ((k:Int)+1+(D:Int)),ao ar 0]) Aa.out.1 (aE (bg o t (an E n4 F) ((k:Int)+1+(D:Int)) 0) 144) (aE #[al o,al t,an E n4 F] 45);obtain⟨Ac,Ad,Ae,Af,Ag⟩:=T.m5 rfl;refine bj (v:=ew (#[al sj,al ⟨#[]⟩,an (aw ⟨N.heap.size+1,0,aq⟩) 1 1,ao ar ((k:Int)+1+(D:Int)),ao ar 0])) (by simp[cD,sf,go_sem,Ac,Ad,Ae,Af,Ag]) rfl ?_;rw[cB (by rfl)];exact dI (r:=(.mk sj jO [rx],1+D,0)) (by simp only;omega) rfl Au (fun _=>hn)
    .have e0:(K != 0)=true:=by simpa using he
     go_wp2_with fail;have T:=(((((Aa.out.2.1.setI 0 (al o)).setI 1 (al t)).setI 2 (an E n4 F)).setI 3 (ao ar ((k:Int)+1+(D:Int)))).setI 4 (ao ar K)).alloc (aE (bg o t (an E n4 F) ((k:Int)+1+(D:Int)) K) 144);have Au:=gI (vs:=[al o,al t,an E n4 F,ao ar ((k:Int)+1+(D:Int)),ao ar K]) Aa.out.1 (aE (bg o t (an E n4 F) ((k:Int)+1+(D:Int)) K) 144);obtain⟨Ac,Ad,Ae,Af,Ag⟩:=T.m5 rfl;refine bj (v:=ew (#[al o,al t,an E n4 F,ao ar ((k:Int)+1+(D:Int)),ao ar K])) (by simp[cD,sf,go_sem,Ac,Ad,Ae,Af,Ag]) rfl ?_;rw[bA (by exact he)];exact dI (r:=(bf,1+D,K)) (by simp only;omega) rfl Au (fun h=>absurd h he)
theorem vY(r:List ae)(n:Nat):dJ r n=(bf,n,(dJ r 0).2.2):=by unfold dJ;split<;>rfl
theorem qV(h:cu (l.drop k) s=true):k<l.length:=by
 by_cases b:k<l.length
 .exact b
 .rw[ek (by omega)] at h;cases h
theorem dK(hb:cj w.heap.size w W)(vs:List cq):cj w.heap.size w (aj W w.heap.size 0 vs):=aZ w.heap.size w.heap.size lz vs 0 _ _ hb
theorem oO(hX:af (fun b=>w.heap.size+1<=b) W x cs):af (fun b=>w.heap.size+1<=b) (aj W w.heap.size 0 vs) x cs:=
 af.move (by rw[aD];exact cA _) (fun b hb _=>aR _ _ _ _ _ (by omega)) (fun b hb _=>hb) _ _ hX
theorem uB(hX:af (fun b=>w.heap.size+1<=b) W x cs)(A:Obj):af (fun b=>w.heap.size+1<=b) (W.alloc A) x cs:=
 af.move (by simp) (fun b _ hl=>fX _ _ _ hl) (fun b hb _=>hb) _ _ hX
theorem Jv(hX:af (fun b=>w.heap.size+1<=b) W x cs)(hb:cj W.heap.size W W'):af (fun b=>w.heap.size+1<=b) W' x cs:=
 af.move hb.size (fun b _ hl=>hb.block b hl) (fun b hb _=>hb) _ _ hX
theorem xB{w4:cd}(hX:af (fun b=>w.heap.size+1<=b) w4 x cs)(A:Obj):af (fun b=>w.heap.size+1<=b) ((aj w4 w.heap.size 0 vs).alloc A) x cs:=
 uB (oO hX) A
structure zB(w W:cd)(lv:cq)(l:List ae):Prop where
 b:cj w.heap.size w W
 q:aa W w.heap.size pQ 144
 l:Ls W lv l
theorem zB.go(h:zB w W lv l)(hb:cj W.heap.size W W'):zB w W' lv l:=⟨h.b.trans (hb.mono h.b.size),h.q.below hb h.q.lt,h.l.below hb⟩
theorem zB.start(h:Ls w lv l):zB w (w.alloc (aE pQ 144)) lv l:=⟨(ba _ w).alloc lz _,aa.new w pQ _,h.alloc _⟩
theorem zB.next(h:zB w W lv l)(o:Obj):zB w (W.alloc o) lv l:=h.go ((ba _ W).alloc lz _)
theorem zB.exp(h:zB w W lv l)(hX:af (fun b=>W.heap.size<=b) W' x cs):af (fun b=>w.heap.size+1<=b) W' x cs:=
 af.move lz (fun _ _ _=>rfl) (fun b hb _=>by have:=h.q.lt;omega) _ _ hX
theorem CW(m:Nat)(hT:TC m)(hC:CC m):CC (m+1):=by
 intro w lv l k d h hk hd hne;obtain⟨a,c,rfl,Cd,BU⟩:=h.sl;have AV:=h.few;unfold cV at BU;rw[ah] at hne ⊢;have Bo:=zB.start h;have Bg:=iV hne;have Bc:=(fZ m (.term 1) (l.drop k) d (by simp only[Nt.okX];omega) Bg).1;rw[bm] at Bc;have B0:=hT _ _ l k d 1 Bo.l hk hd (by omega) (by omega) Bg
 obtain⟨R,hR⟩:∃R,R=(jr (ah m (.term 1) (l.drop k) d) fun a k2=>
   if cu ((l.drop k).drop k2) sQ=false then (a,k2,0) else if 64<=d then ow k2 else
   jr (eZ (k2+1) (ah m .choice ((l.drop k).drop (k2+1)) (d+1))) fun b k3=>
   if cu ((l.drop k).drop k3) RU=false then dJ ((l.drop k).drop k3) k3 else
   jr (eZ (k3+1) (ah m .choice ((l.drop k).drop (k3+1)) (d+1))) fun c k4=>(.mk sQ jO [a,b,c],k4,0)):=⟨_,rfl⟩
 rw[<-hR] at hne ⊢;generalize ah m (.term 1) (l.drop k) d=R1 at *;obtain⟨x1,n1,e1⟩:=R1;simp only at Bc Bg;have HR:=Hh hR;have HN:=Hh hne;clear hne hR Bg;have Bl:=Hh Bo;have Bx:=Hh hC;clear h Bo hC;go_in;go_wp2_with fail;refine (B0).mono ?_;clear B0;rintro _ w4 ⟨hbX,o1,t1,a1,m1,c1,heX,hXX⟩;simp only at heX hXX;obtain⟨p1,AI⟩:∃pz:Nat,pz=k+n1:=⟨_,rfl⟩;rw[<-AI] at heX;subst heX;have AD:=Hh AI;clear AI;have Bp:=Bl.out.go hbX;have Bn:=Hh (fun h=>Bl.out.exp (hXX h));have AE:=Bp.q;have Cb:=AE.lt;have AH:=Hh Bp;clear hbX hXX Bl Bp
 by_cases he1:e1=0
 .subst he1
  simp only[cB (g:=(x1,n1,(0:Int))) rfl,c4] at HR;have AI:=AD.out;rw[<-AI] at HR;have AG:=fun s=>gL (w4.alloc (aE (bg o1 t1 (an a1 m1 c1) p1 0) 144)) (an a l.length c) l p1 s (AH.out.next _).l.toks AV (by omega)
  by_cases hqs:cu (l.drop p1) sQ=false
  .have Au:Hid (R=(x1,n1,0)):=Hh (by rw[HR.out,E4 hqs])
   obtain⟨Aa,Af,Ab,Ag,Ac,Ah,Ad,Ai,Ae,Aj⟩:=AE.n5 rfl;clear AE AI;go_wp2_with (go_at_call 154;refine (AG _).mono ?_;rintro _ _ ⟨rfl,rfl⟩;simp only[hqs])
   have hq:=(((((AH.out.q.setI 0 (al o1)).setI 1 (al t1)).setI 2 (an a1 m1 c1)).setI 3 (ao ar p1)).setI 4 (ao ar 0)).alloc (aE (bg o1 t1 (an a1 m1 c1) p1 0) 144);have Av:=gI (vs:=[al o1,al t1,an a1 m1 c1,ao ar p1,ao ar 0]) AH.out.b (aE (bg o1 t1 (an a1 m1 c1) p1 0) 144);obtain⟨Aw,Ax,Ay,Az,A0⟩:=hq.m5 rfl;refine bj (v:=ew (#[al o1,al t1,an a1 m1 c1,ao ar p1,ao ar 0])) (by simp[cD,qq,go_sem,Aw,Ax,Ay,Az,A0]) rfl ?_;rw[Au.out];have BY:=xB (vs:=[al o1,al t1,an a1 m1 c1,ao ar p1,ao ar 0]) (Bn.out (by first|trivial|rfl)) (aE (bg o1 t1 (an a1 m1 c1) p1 0) 144);exact dI (r:=(x1,n1,0)) (by simp only;rw[AD.out]) rfl Av (fun h=>BY)
  .have hqs:cu (l.drop p1) sQ=true:=by simpa using hqs
   have BZ:p1<l.length:=qV hqs
   by_cases hd64:64<=d
   .have Au:Hid (R=(bf,n1,5)):=Hh (by rw[HR.out,E6 (by rw[hqs];decide),E4 hd64];rfl)
    clear HR HN;obtain⟨Aa,Af,Ab,Ag,Ac,Ah,Ad,Ai,Ae,Aj⟩:=AE.n5 rfl;clear AE AI;go_wp2_with (go_at_call 154;refine (AG _).mono ?_;rintro _ _ ⟨rfl,rfl⟩;simp only[hqs])
    have hq:=(((((AH.out.q.setI 0 (al ⟨#[]⟩)).setI 1 (al ⟨#[]⟩)).setI 2 (an aq 0 0)).setI 3 (ao ar p1)).setI 4 (ao ar 5)).alloc (aE (bg o1 t1 (an a1 m1 c1) p1 0) 144);have Av:=gI (vs:=[al ⟨#[]⟩,al ⟨#[]⟩,an aq 0 0,ao ar p1,ao ar 5]) AH.out.b (aE (bg o1 t1 (an a1 m1 c1) p1 0) 144);obtain⟨Aw,Ax,Ay,Az,A0⟩:=hq.m5 rfl;refine bj (v:=ew (#[al ⟨#[]⟩,al ⟨#[]⟩,an aq 0 0,ao ar p1,ao ar 5])) (by simp[cD,qq,go_sem,Aw,Ax,Ay,Az,A0]) rfl ?_;rw[Au.out];exact dI (r:=(bf,n1,5)) (by simp only;rw[AD.out]) rfl Av (fun h=>by cases h)
   .simp only[E6 (show ¬cu (l.drop p1) sQ=false by rw[hqs];decide),E6 hd64] at HR
    rw[show k+(n1+1)=p1+1 by omega] at HR
    have Bh:(ah m .choice (l.drop (p1+1)) (d+1)).2.2≠-1:=by
     have:=HN.out;rw[HR.out] at this;have h9:=iV this;exact h9
    have Bd:=(fZ m .choice (l.drop (p1+1)) (d+1) trivial Bh).1;rw[bm] at Bd;have Bq:=AH.out.next (aE (bg o1 t1 (an a1 m1 c1) p1 0) 144);have Bs:=Bx.out _ _ l (p1+1) (d+1) Bq.l (by omega) (by omega) Bh;rw[show ((p1+1:Nat):Int)=(p1:Int)+1 by omega,show ((d+1:Nat):Int)=(d:Int)+1 by omega] at Bs;generalize ah m .choice (l.drop (p1+1)) (d+1)=R2 at *;obtain⟨x2,n2,e2⟩:=R2;simp only at Bd Bh;have B1:=aa.new w4 (bg o1 t1 (an a1 m1 c1) p1 0) 144;have Be:=Jh B1 (uB (Bn.out (by first|trivial|rfl)) (aE (bg o1 t1 (an a1 m1 c1) p1 0) 144));have Bm:=Hh Bq;clear Bq B1 Bh;obtain⟨Aa,Af,Ab,Ag,Ac,Ah,Ad,Ai,Ae,Aj⟩:=AE.n5 rfl;clear AE AI;go_wp2_with (go_at_call 154;refine (AG _).mono ?_;rintro _ _ ⟨rfl,rfl⟩;simp only[hqs])
    clear Aa Ab Ac Ad Ae Af Ag Ah Ai Aj AG;refine (Bs).mono ?_;clear Bs;rintro _ w6 ⟨hbX,o2,t2,a2,m2,c2,heX,hXX⟩;simp only at heX hXX;obtain⟨p2,AZ⟩:∃pz:Nat,pz=p1+1+n2:=⟨_,rfl⟩;rw[<-AZ] at heX;subst heX;have Bb:=Hh AZ;clear AZ;have Br:=Bm.out.go hbX;have AX:=Be.out.1.below hbX Be.out.1.lt;have Bi:=Jv Be.out.2 hbX;have Bz:=Hh (fun h=>Bm.out.exp (hXX h));have AW:=Br.q;have Cc:=AW.lt;have Ce:=AX.lt;have AY:=Jh Br (cE AX Bi);clear hbX hXX Bm Br Be;have B4:w.heap.size≠w4.heap.size:=by omega
    by_cases he2:e2=0
    .subst he2
     simp only[cB (g:=eZ (n1+1) (x2,n2,(0:Int))) rfl] at HR;have AZ:=Bb.out;have hu:(eZ (n1+1) (x2,n2,(0:Int))).2.1=n1+1+n2:=rfl;have Bw:(eZ (n1+1) (x2,n2,(0:Int))).1=x2:=rfl;have Ba:=AD.out;rw[hu,Bw,show k+(n1+1+n2)=p2 by omega,show k+(n1+1+n2+1)=p2+1 by omega] at HR;have Bf:=AY.out.1.next (aE (bg o2 t2 (an a2 m2 c2) p2 0) 144);have B2:=aa.new w6 (bg o2 t2 (an a2 m2 c2) p2 0) 144;have A1:=Jh Bf (cE (AY.out.2.1.alloc (aE (bg o2 t2 (an a2 m2 c2) p2 0) 144)) (cE B2 (cE (uB AY.out.2.2 (aE (bg o2 t2 (an a2 m2 c2) p2 0) 144)) (uB (Bz.out (by first|trivial|rfl)) (aE (bg o2 t2 (an a2 m2 c2) p2 0) 144)))));have AG:=fun s=>gL (w6.alloc (aE (bg o2 t2 (an a2 m2 c2) p2 0) 144)) (an a l.length c) l p2 s Bf.l.toks AV (by omega);have AU:=nO (w6.alloc (aE (bg o2 t2 (an a2 m2 c2) p2 0) 144)) (an a l.length c) l p2 Bf.l.toks AV (by omega);clear Bf B2 AY Bz Bn
     by_cases hcs:cu (l.drop p2) RU=false
     .have Au:Hid (R=(bf,n1+1+n2,(dJ (l.drop p2) 0).2.2)):=Hh (by rw[HR.out,E4 hcs,vY])
      have BT:Hid ((dJ (l.drop p2) 0).2.2≠0):=Hh (by unfold dJ;split<;>simp);generalize (dJ (l.drop p2) 0).2.2=eb at *;clear HR HN AZ Ba hu Bw;obtain⟨Ak,Ap,Al,Aq,Am,Ar,An,As,Ao,At⟩:=AW.n5 rfl;obtain⟨A2,A7,A3,A8,A4,A9,A5,AA,A6,AB⟩:=AX.n5 rfl;clear AW AX;go_wp2_with (go_at_call 154;refine (AG _).mono ?_;rintro _ _ ⟨rfl,rfl⟩;simp only[hcs])
      refine AU.mono ?_;clear AU AG Ak Al Am An Ao Ap Aq Ar As At A2 A3 A4 A5 A6 A7 A8 A9 AA AB;rintro _ w8 ⟨rfl,hb8⟩;have AT:=A1.out.1.go hb8;have AF:=AT.q;have B3:=AF.lt;have AC:=Hh AT;clear AT hb8 A1;obtain⟨AJ,AO,AK,AP,AL,AQ,AM,AR,AN,AS⟩:=AF.n5 rfl;clear AF;go_wp2_with fail;have hq:=((((AC.out.q.setI 0 (al ⟨#[]⟩)).setI 1 (al ⟨#[]⟩)).setI 2 (an aq 0 0)).setI 3 (ao ar p2)).setI 4 (ao ar eb);have Av:=dK AC.out.b [al ⟨#[]⟩,al ⟨#[]⟩,an aq 0 0,ao ar p2,ao ar eb];obtain⟨Aw,Ax,Ay,Az,A0⟩:=hq.m5 rfl;refine bj (v:=ew (#[al ⟨#[]⟩,al ⟨#[]⟩,an aq 0 0,ao ar p2,ao ar eb])) (by simp[cD,qq,go_sem,Aw,Ax,Ay,Az,A0]) rfl ?_;rw[Au.out];exact dI (r:=(bf,n1+1+n2,eb)) (by simp only;have:=Bb.out;have:=AD.out;omega) rfl Av (fun h=>absurd h BT.out)
     .have hcs:cu (l.drop p2) RU=true:=by simpa using hcs
      have Ca:p2<l.length:=qV hcs;rw[E6 (by rw[hcs];decide)] at HR
      have Bu:(ah m .choice (l.drop (p2+1)) (d+1)).2.2≠-1:=by
       have:=HN.out;rw[HR.out] at this;have h9:=iV this;exact h9
      have Bt:=Bx.out _ _ l (p2+1) (d+1) A1.out.1.l (by omega) (by omega) Bu;rw[show ((p2+1:Nat):Int)=(p2:Int)+1 by omega,show ((d+1:Nat):Int)=(d:Int)+1 by omega] at Bt;generalize ah m .choice (l.drop (p2+1)) (d+1)=R3 at *;obtain⟨x3,n3,e3⟩:=R3;simp only at Bu;clear Bu AU AZ Ba hu Bw;obtain⟨Ak,Ap,Al,Aq,Am,Ar,An,As,Ao,At⟩:=AW.n5 rfl;obtain⟨A2,A7,A3,A8,A4,A9,A5,AA,A6,AB⟩:=AX.n5 rfl;clear AW AX;go_wp2_with (go_at_call 154;refine (AG _).mono ?_;rintro _ _ ⟨rfl,rfl⟩;simp only[hcs])
      clear AG Ak Al Am An Ao Ap Aq Ar As At A2 A3 A4 A5 A6 A7 A8 A9 AA AB;refine (Bt).mono ?_;clear Bt;rintro _ w8 ⟨hbX,o3,t3,a3,m3,c3,heX,hXX⟩;simp only at heX hXX;obtain⟨p3,Bv⟩:∃pz:Nat,pz=p2+1+n3:=⟨_,rfl⟩;rw[<-Bv] at heX;subst heX;have By:=Hh Bv;clear Bv;have AT:=A1.out.1.go hbX;have Bj:=A1.out.2.1.below hbX A1.out.2.1.lt;have Bk:=A1.out.2.2.1.below hbX A1.out.2.2.1.lt;have Bi:=Jv A1.out.2.2.2.1 hbX;have B6:=Jv A1.out.2.2.2.2 hbX;have BR:=Hh (fun h=>A1.out.1.exp (hXX h));have AF:=AT.q;have B3:=AF.lt;have BV:=Bj.lt;have BW:=Bk.lt;have AC:=Jh AT (cE Bi B6);clear hbX hXX A1 AT Bi B6;have B5:w.heap.size≠w6.heap.size:=by omega
      by_cases he3:e3=0
      .subst he3
       have Au:Hid (R=(.mk sQ jO [x1,x2,x3],n1+1+n2+1+n3,0)):=Hh (by rw[HR.out,cB (by rfl)];rfl);clear HR HN;obtain⟨AJ,AO,AK,AP,AL,AQ,AM,AR,AN,AS⟩:=AF.n5 rfl;obtain⟨B7,BC,B8,BD,B9,BE,BA,BF,BB,BG⟩:=Bj.n5 rfl;obtain⟨BH,BM,BI,BN,BJ,BO,BK,BP,BL,BQ⟩:=Bk.n5 rfl;clear AF Bj Bk;go_wp2_with fail;have BS:=BR.out (by first|trivial|rfl);have hq:=((((((AC.out.1.q.setI 0 (al sQ)).setI 1 (al ⟨#[]⟩)).setI 2 (an (aw ⟨w8.heap.size+1,0,aq⟩) 3 3)).setI 3 (ao ar p3)).setI 4 (ao ar 0)).alloc (aE (bg o3 t3 (an a3 m3 c3) p3 0) 144)).alloc (aE #[al o1,al t1,an a1 m1 c1,al o2,al t2,an a2 m2 c2,al o3,al t3,an a3 m3 c3] 45)
       have hn:af (fun b=>w.heap.size+1<=b) (((aj w8 w.heap.size 0 [al sQ,al ⟨#[]⟩,an (aw ⟨w8.heap.size+1,0,aq⟩) 3 3,ao ar p3,ao ar 0]).alloc (aE (bg o3 t3 (an a3 m3 c3) p3 0) 144)).alloc (aE #[al o1,al t1,an a1 m1 c1,al o2,al t2,an a2 m2 c2,al o3,al t3,an a3 m3 c3] 45)) (.mk sQ jO [x1,x2,x3]) [al sQ,al jO,an (aw ⟨w8.heap.size+1,0,aq⟩) 3 3]:=
        BX B3 _ [(x1,fq o1 t1 (an a1 m1 c1)),(x2,fq o2 t2 (an a2 m2 c2)),(x3,fq o3 t3 (an a3 m3 c3))] (fun s hs=>by
         simp only[cL,fW,or_false] at hs;rcases hs with rfl|rfl|rfl
         .exact AC.out.2.1
         .exact AC.out.2.2
         .exact BS) (by simp[cV])
       have Av:=FJ (vs:=[al sQ,al ⟨#[]⟩,an (aw ⟨w8.heap.size+1,0,aq⟩) 3 3,ao ar p3,ao ar 0]) AC.out.1.b (aE (bg o3 t3 (an a3 m3 c3) p3 0) 144) (aE #[al o1,al t1,an a1 m1 c1,al o2,al t2,an a2 m2 c2,al o3,al t3,an a3 m3 c3] 45);obtain⟨Aw,Ax,Ay,Az,A0⟩:=hq.m5 rfl;refine bj (v:=ew (#[al sQ,al ⟨#[]⟩,an (aw ⟨w8.heap.size+1,0,aq⟩) 3 3,ao ar p3,ao ar 0])) (by simp[cD,qq,go_sem,Aw,Ax,Ay,Az,A0]) rfl ?_;rw[Au.out];exact dI (r:=(.mk sQ jO [x1,x2,x3],n1+1+n2+1+n3,0)) (by simp only;have:=By.out;have:=Bb.out;have:=AD.out;omega) rfl Av (fun _=>hn)
      .have e0:(e3 != 0)=true:=by simpa using he3
       have Au:Hid (R=(bf,n1+1+n2+1+n3,e3)):=Hh (by rw[HR.out,bA (by exact he3)];rfl);clear HR HN;obtain⟨AJ,AO,AK,AP,AL,AQ,AM,AR,AN,AS⟩:=AF.n5 rfl;clear AF Bj Bk;go_wp2_with fail;have hq:=(((((AC.out.1.q.setI 0 (al o3)).setI 1 (al t3)).setI 2 (an a3 m3 c3)).setI 3 (ao ar p3)).setI 4 (ao ar e3)).alloc (aE (bg o3 t3 (an a3 m3 c3) p3 e3) 144);have Av:=gI (vs:=[al o3,al t3,an a3 m3 c3,ao ar p3,ao ar e3]) AC.out.1.b (aE (bg o3 t3 (an a3 m3 c3) p3 e3) 144);obtain⟨Aw,Ax,Ay,Az,A0⟩:=hq.m5 rfl;refine bj (v:=ew (#[al o3,al t3,an a3 m3 c3,ao ar p3,ao ar e3])) (by simp[cD,qq,go_sem,Aw,Ax,Ay,Az,A0]) rfl ?_;rw[Au.out];exact dI (r:=(bf,n1+1+n2+1+n3,e3)) (by simp only;have:=By.out;have:=Bb.out;have:=AD.out;omega) rfl Av (fun h=>absurd h he3)
    .have e0:(e2 != 0)=true:=by simpa using he2
     have Au:Hid (R=(bf,n1+1+n2,e2)):=Hh (by rw[HR.out,bA (by exact he2)];rfl);clear HR HN;obtain⟨Ak,Ap,Al,Aq,Am,Ar,An,As,Ao,At⟩:=AW.n5 rfl;clear AW AX;go_wp2_with fail;have hq:=(((((AY.out.1.q.setI 0 (al o2)).setI 1 (al t2)).setI 2 (an a2 m2 c2)).setI 3 (ao ar p2)).setI 4 (ao ar e2)).alloc (aE (bg o2 t2 (an a2 m2 c2) p2 e2) 144);have Av:=gI (vs:=[al o2,al t2,an a2 m2 c2,ao ar p2,ao ar e2]) AY.out.1.b (aE (bg o2 t2 (an a2 m2 c2) p2 e2) 144);obtain⟨Aw,Ax,Ay,Az,A0⟩:=hq.m5 rfl;refine bj (v:=ew (#[al o2,al t2,an a2 m2 c2,ao ar p2,ao ar e2])) (by simp[cD,qq,go_sem,Aw,Ax,Ay,Az,A0]) rfl ?_;rw[Au.out];exact dI (r:=(bf,n1+1+n2,e2)) (by simp only;have:=Bb.out;have:=AD.out;omega) rfl Av (fun h=>absurd h he2)
 .have e0:(e1 != 0)=true:=by simpa using he1
  have Au:Hid (R=(bf,n1,e1)):=Hh (by rw[HR.out,bA (by exact he1)]);clear HR HN;obtain⟨Aa,Af,Ab,Ag,Ac,Ah,Ad,Ai,Ae,Aj⟩:=AE.n5 rfl;clear AE;go_wp2_with fail;have hq:=(((((AH.out.q.setI 0 (al o1)).setI 1 (al t1)).setI 2 (an a1 m1 c1)).setI 3 (ao ar p1)).setI 4 (ao ar e1)).alloc (aE (bg o1 t1 (an a1 m1 c1) p1 e1) 144);have Av:=gI (vs:=[al o1,al t1,an a1 m1 c1,ao ar p1,ao ar e1]) AH.out.b (aE (bg o1 t1 (an a1 m1 c1) p1 e1) 144);obtain⟨Aw,Ax,Ay,Az,A0⟩:=hq.m5 rfl;refine bj (v:=ew (#[al o1,al t1,an a1 m1 c1,ao ar p1,ao ar e1])) (by simp[cD,qq,go_sem,Aw,Ax,Ay,Az,A0]) rfl ?_;rw[Au.out];exact dI (r:=(bf,n1,e1)) (by simp only;rw[AD.out]) rfl Av (fun h=>absurd h he1)
end Go.Proofs.YtgmpmolfcaihfaaGreatDoor
