import Derived.Test.YtbcdaaobbebooaaGreatDoorMgo
set_option linter.unusedSimpArgs false
set_option linter.unusedVariables false
set_option maxRecDepth 100000
set_option maxHeartbeats 20000000
namespace Go.Proofs.YtbcdaaobbebooaaGreatDoor
open Go.RowKit Go.Tab
theorem Af:∀D:Bs,(∀n,gQ (D.take (dz D))=some n->gQ D=some n/\(D.take n).contains 10=false)/\(gQ (D.take (dz D))=none->gQ D=none\/∃n,gQ D=some n/\(D.take n).contains 10=true)
 |[]=>⟨(fun n h=>by cases h),fun _=>.inl rfl⟩
 | c::D=>by
  obtain⟨h1,h2⟩:=Af D
  by_cases hc:c=10
  ·subst hc
   rw[dz,if_pos rfl,List.take_zero];refine⟨(fun n h=>by cases h),fun _=>?_⟩;rw[gQ,if_neg (by rintro⟨h,-⟩;revert h;decide)]
   cases hd:gQ D with
   |none=>exact .inl rfl
   |some n=>exact .inr ⟨n+1,rfl,by simp⟩
  ·rw[dz,if_neg hc,List.take_succ_cons]
   have hh:(D.take (dz D)).head?=some 47↔D.head?=some 47:=by
    cases D with
    |nil=>simp
    |cons d D=>
     rw[dz]
     by_cases hd:d=10
     ·subst hd;simp
     ·rw[if_neg hd];simp
   rw[gQ,gQ]
   by_cases hcc:c=42/\D.head?=some 47
   ·rw[if_pos ⟨hcc.1,hh.2 hcc.2⟩,if_pos hcc]
    exact⟨fun n h=>by cases h;exact⟨rfl,by simp⟩,fun h=>by cases h⟩
   ·rw[if_neg (fun h=>hcc ⟨h.1,hh.1 h.2⟩),if_neg hcc]
    have Ab:(c==10)=false:=by simpa using hc
    have Aa:((10:UInt8)==c)=false:=by simpa using fun e:(10:UInt8)=c=>hc e.symm
    refine⟨fun n h=>?_,fun h=>?_⟩
    ·obtain⟨m,hm,rfl⟩:=Option.map_eq_some_iff.1 h
     obtain⟨h3,h4⟩:=h1 m hm;rw[h3];exact⟨rfl,by rw[List.take_succ_cons,List.contains_cons,h4,Aa];rfl⟩
    ·rcases h2 (Option.map_eq_none_iff.1 h) with h3|⟨n,h3,h4⟩
     ·left;rw[h3];rfl
     ·right;rw[h3]
      exact⟨n+1,rfl,by rw[List.take_succ_cons,List.contains_cons,h4];simp⟩
theorem Fx{c d:UInt8}{D:Bs}(hc:c≠10)(hd:d≠10) :
  (∀n,gQ (D.take (dz D))=some n->fB (c::d::D)=iX ((c::d::D).take (n+4)) 7)/\(gQ (D.take (dz D))=none->fB (c::d::D)=.bad 0 2):=by
 obtain⟨h1,h2⟩:=Af D;have Aa:((10:UInt8)==c)=false:=by simpa using fun e:(10:UInt8)=c=>hc e.symm
 have Ab:((10:UInt8)==d)=false:=by simpa using fun e:(10:UInt8)=d=>hd e.symm
 have ht:∀n,((c::d::D).take (n+2)).contains 10=(D.take n).contains 10:=by
  intro n;rw[List.take_succ_cons,List.take_succ_cons,List.contains_cons,List.contains_cons,Aa,Ab,Bool.false_or,Bool.false_or]
 refine⟨fun n h=>?_,fun h=>?_⟩
 ·obtain⟨h3,h4⟩:=h1 n h
  unfold fB;simp only[List.drop_succ_cons,List.drop_zero];rw[h3];simp only;rw[ht,h4,if_neg (by simp)]
 ·unfold fB
  simp only[List.drop_succ_cons,List.drop_zero];rcases h2 h with h3|⟨n,h3,h4⟩
  ·rw[h3]
  ·rw[h3]
   simp only;rw[ht,h4,if_pos rfl]
theorem Ag:∀(E:Bs) (t:Nat),(∀j,j<t->([42,47]:Bs).isPrefixOf (E.drop j)=false)->([42,47]:Bs).isPrefixOf (E.drop t)=true->gQ E=some t
 |[],t,_,h=>by simp[List.isPrefixOf] at h
 | c::E,0,_,h=>by
  rw[List.drop_zero,AQ] at h;rw[gQ,if_pos (by simpa using h)]
 | c::E,t+1,h1,h=>by
  have h0:=h1 0 (by omega);rw[List.drop_zero,AQ] at h0;rw[gQ,if_neg (by simpa using h0),Ag E t (fun j hj=>by have:=h1 (j+1) (by omega);simpa using this) (by simpa using h)];rfl
theorem GA:∀(E:Bs),(∀j,j<E.length->([42,47]:Bs).isPrefixOf (E.drop j)=false)->gQ E=none
 |[],_=>rfl
 | c::E,h1=>by
  have h0:=h1 0 (by simp);rw[List.drop_zero,AQ] at h0;rw[gQ,if_neg (by simpa using h0),GA E (fun j hj=>by have:=h1 (j+1) (by simp;omega);simpa using this)];rfl
theorem Iz(s:ByteArray)(k:Nat)(w:World)(hs:s.size<=1048576)(hk:k<s.size)(hc:s[k]'hk=47)(hr:(s.data.toList.drop (k+1)).head?=some 42) :
  Calls Tryz.prog 46 #[.string s,.int .i64 (k:Nat)] w (yM w s k (fB (s.data.toList.drop k))):=by
 have hd:=eT hk;rw[hc] at hd
 obtain⟨D,hD⟩:∃D,s.data.toList.drop (k+1)=42::D:=by
  cases hq:s.data.toList.drop (k+1) with
  |nil=>rw[hq] at hr;cases hr
  |cons d D=>rw[hq] at hr;simp at hr;subst hr;exact⟨D,rfl⟩
 rw[hD] at hd
 have Aj:s.data.toList.drop (k+2)=D:=by
  have:=congrArg (List.drop 1) hD;rw[List.drop_drop] at this
  simpa using this
 have Ar:D.length=s.size-(k+2):=by rw[<-Aj,List.length_drop,<-au]
 have A8:k+2<=s.size:=by have:=congrArg List.length hD;rw[List.length_drop,<-au,List.length_cons] at this;omega
 obtain⟨ln,Af⟩:∃ln,dz D=ln:=⟨_,rfl⟩;have Ao:=pR D;rw[Af,Ar] at Ao;have hE:=fun W=>Gz s k W (by omega) (by omega);rw[hd,dz,if_neg (by decide),dz,if_neg (by decide),Af] at hE;have Al:=fun W=>rU s k ⟨#[47,47]⟩ W (by omega) (by omega) (by decide);rw[hd,show (⟨#[47,47]⟩:ByteArray).data.toList.isPrefixOf (47::42::D)=false from rfl] at Al;have Am:=fun W=>rU s k ⟨#[47,42]⟩ W (by omega) (by omega) (by decide);rw[hd,show (⟨#[47,42]⟩:ByteArray).data.toList.isPrefixOf (47::42::D)=true from rfl] at Am;obtain⟨Ah,Ai⟩:=Fx (c:=47) (d:=42) (D:=D) (by decide) (by decide);rw[Af] at Ah Ai;rw[hd]
 have A6:∀t W,t<=ln->Calls Tryz.prog 84 #[.string (s.extract 0 (k+2+ln)),.int .i64 ((k+2+t:Nat):Int),.string ⟨#[42,47]⟩] W fun e w'=>e=.returned (.bool (([42,47]:Bs).isPrefixOf ((D.take ln).drop t)))/\W=w':=fun t W ht=>by
  have h:=rU (s.extract 0 (k+2+ln)) (k+2+t) ⟨#[42,47]⟩ W (by rw[kQ (by omega)];omega) (by rw[kQ (by omega)];omega) (by decide);rw[nW] at h
  have e:(s.data.toList.take (k+2+ln)).drop (k+2+t)=(D.take ln).drop t:=by
   rw[<-List.drop_drop,<-Aj]
   congr 1
   rw[List.drop_take];congr 1;omega
  rw[e] at h;exact h
 have Ap:∀t W,t+2<=ln->Calls Tryz.prog 86 #[.string s,.int .i64 (k:Nat),.int .i64 ((k+2+t+2:Nat):Int),.int .i64 ((7:Nat):Int)] W (Aq W (xS s k (iX ((47::42::D).take (t+4)) 7)).1 (xS s k (iX ((47::42::D).take (t+4)) 7)).2.1 (xS s k (iX ((47::42::D).take (t+4)) 7)).2.2):=fun t W ht=>by
  have h:=vO s k (k+2+t+2) 7 W hs (by omega) (by omega)
  have e:(s.data.toList.take (k+2+t+2)).drop k=(47::42::D).take (t+4):=by
   rw[<-hd,List.drop_take];congr 1;omega
  rw[e] at h;exact h
 have Ak:(D.take ln).length=ln:=by rw[List.length_take];omega
 have Az:∀t,([42,47]:Bs).isPrefixOf ((D.take ln).drop t)=true->t+2<=ln:=by
  intro t ht;have:=(List.isPrefixOf_iff_prefix.1 ht).length_le;rw[List.length_drop,Ak] at this;simp at this;omega
 have Ab:=iG 47;rw[show lq 47=false from rfl] at Ab;have A9:(s[k]'hk).toNat=47:=by rw[hc];rfl
 have A1:=Hh Ap;have HA:=Jh Ah Ai;have A5:=Hh Az;have A2:=Hh Ak;clear hd hD Aj Ar Af hr Ap Az Ak hc Ah Ai;generalize hW:(47::42::D:Bs)=W0 at *;generalize D.take ln=E at *;clear hW;have hb:Below w.heap.size w (w.alloc (.cells #[.slice none 0 0,.int .i64 0,.int .i64 0] 38)):=(Below.refl _ w).alloc lz _;have Ac:=aa.new w #[.slice none 0 0,.int .i64 0,.int .i64 0] 38;have HH:=Jh hb Ac;clear hb Ac;go_enter Tryz.func46,Tryz.ntmps46;go_wp2_with fail;refine (Ab _).mono ?_;rintro _ _ ⟨rfl,hw1⟩;cases hw1
 go_wp2_with fail;refine (Al _).mono ?_;rintro _ _ ⟨rfl,hw1⟩;cases hw1
 go_wp2_with fail;refine (Am _).mono ?_;rintro _ _ ⟨rfl,hw1⟩;cases hw1
 go_wp2_with fail;refine (hE _).mono ?_;rintro _ _ ⟨rfl,hw1⟩;cases hw1
 rw[show ((k+(ln+1+1):Nat):Int)=((k+2+ln:Nat):Int) by omega];clear Ab Al Am hE;go_wp2_with fail;go_loop [12] (fun n=>∃t:Nat,n=.int .i64 ((k+2+t:Nat):Int)/\t<=ln/\∀j,j<t->([42,47]:Bs).isPrefixOf (E.drop j)=false) (fun n=>s.size-(intOf n).toNat)
 case atStart=>exact⟨0,by congr 1,Nat.zero_le _,fun j hj=>by omega⟩
 case round=>
  obtain⟨t,rfl,ht,Ay⟩:=hrel;have HN:=Hh Ay;clear Ay
  by_cases hlt:t<ln
  ·have hI:=fun W=>A6 t W ht
   cases hp:([42,47]:Bs).isPrefixOf (E.drop t) with
   |true=>
    rw[hp] at hI;have Ad:=HA.out.1 t (Ag E t HN.out hp);have hC:=A1.out t (w.alloc (.cells #[.slice none 0 0,.int .i64 0,.int .i64 0] 38)) (A5.out t hp);rw[Ad];rw[show ((k+2+t+2:Nat):Int)=((k+2+t:Nat):Int)+2 by omega] at hC;unfold yM;obtain⟨⟨tl,ta,te⟩,hx⟩:∃x,xS s k (iX (W0.take (t+4)) 7)=x:=⟨_,rfl⟩;rw[hx] at hC ⊢;simp only at hC ⊢;clear hx Ad hp;go_wp2_with fail;refine (hI _).mono ?_;rintro _ _ ⟨rfl,hw1⟩;cases hw1
    go_wp2_with fail;obtain⟨hb,Ac⟩:=HH.out;refine (hC).mono ?_;rintro _ w2 ⟨v,rfl,hown,hb2⟩;obtain⟨An,Aa,Ae,-⟩:=jJ (a:=ta) (e:=te) hb Ac hb2.size hown hb2;obtain⟨va,vc,A0⟩:=hown.len
    (try simp only[List.length_cons,List.length_nil,Nat.zero_add] at A0)
    subst A0;have AA:=An.lt;have HX:=Jh Aa (And.intro Ae An);clear hown hb2 Aa Ae hb Ac;obtain⟨As,Av,At,Aw,Au,Ax⟩:=An.n3 rfl;go_wp2;obtain⟨Aa,Ae,A7⟩:=HX.out;have hq:=((A7.setI 0 (.slice va tl.length vc)).setI 1 (.int .i64 ta)).setI 2 (.int .i64 te);obtain⟨hx,hy,hz⟩:=hq.m3 rfl;refine bodyPost_ret (v:=.agg #[.slice va tl.length vc,.int .i64 ta,.int .i64 te]) (by simp[results,Tryz.results46,go_sem,hx,hy,hz]) rfl ?_;exact⟨_,rfl,Aa,Ae⟩
   |false=>
    rw[hp] at hI
    have A4:Hid (∀j,j<t+1->([42,47]:Bs).isPrefixOf (E.drop j)=false):=Hh (fun j hj=>by
     by_cases h:j=t
     ·subst h;exact hp
     ·exact HN.out j (by omega))
    clear hp;go_wp2_with fail;refine (hI _).mono ?_;rintro _ _ ⟨rfl,hw1⟩;cases hw1
    go_wp2;go_round
    case rel=>exact⟨t+1,by go_num,by omega,A4.out⟩
    case measure=>simp[intOf];omega
  ·obtain rfl:t=ln:=by omega
   have Ad:=HA.out.2 (GA E (by rw[A2.out];exact HN.out));have A3:=Hh Ad;clear Ad;go_wp2;have hq:=aa.new w #[.slice none 0 0,.int .i64 (k:Nat),.int .i64 2] 38;obtain⟨hx,hy,hz⟩:=hq.m3 rfl;refine bodyPost_ret (v:=.agg #[.slice none 0 0,.int .i64 (k:Nat),.int .i64 2]) (by simp[results,Tryz.results46,go_sem,hx,hy,hz]) rfl ?_;rw[A3.out];exact⟨_,by simp[xS],aI.nil,(Below.refl _ w).alloc lz _⟩
theorem NC(j:Nat)(h:j<oo.length):([(⟨#[61]⟩:ByteArray),(⟨#[60]⟩:ByteArray),(⟨#[62]⟩:ByteArray),(⟨#[43]⟩:ByteArray),(⟨#[45]⟩:ByteArray),(⟨#[42]⟩:ByteArray),(⟨#[47]⟩:ByteArray),(⟨#[37]⟩:ByteArray),(⟨#[33]⟩:ByteArray),(⟨#[63]⟩:ByteArray),(⟨#[58]⟩:ByteArray),(⟨#[44]⟩:ByteArray),(⟨#[46]⟩:ByteArray),(⟨#[40]⟩:ByteArray),(⟨#[41]⟩:ByteArray),(⟨#[91]⟩:ByteArray),(⟨#[93]⟩:ByteArray),(⟨#[123]⟩:ByteArray),(⟨#[125]⟩:ByteArray)]:List ByteArray)[j]'(by exact h)=⟨#[oo[j]'h]⟩:=by
 have Aa:∀i:Fin 19,([(⟨#[61]⟩:ByteArray),(⟨#[60]⟩:ByteArray),(⟨#[62]⟩:ByteArray),(⟨#[43]⟩:ByteArray),(⟨#[45]⟩:ByteArray),(⟨#[42]⟩:ByteArray),(⟨#[47]⟩:ByteArray),(⟨#[37]⟩:ByteArray),(⟨#[33]⟩:ByteArray),(⟨#[63]⟩:ByteArray),(⟨#[58]⟩:ByteArray),(⟨#[44]⟩:ByteArray),(⟨#[46]⟩:ByteArray),(⟨#[40]⟩:ByteArray),(⟨#[41]⟩:ByteArray),(⟨#[91]⟩:ByteArray),(⟨#[93]⟩:ByteArray),(⟨#[123]⟩:ByteArray),(⟨#[125]⟩:ByteArray)]:List ByteArray)[i.val]'i.isLt=⟨#[oo[i.val]'i.isLt]⟩:=by decide
 exact Aa ⟨j,h⟩
theorem N8(j:Nat)(h:j<mi.length):(mi.map av)[j]'(by rw[List.length_map];exact h)=av (mi[j]'h):=List.getElem_map av
theorem LB{l:List Bs}{p:Bs->Bool}{j:Nat}(h:j<l.length):(l.drop j).any p=(p l[j] || (l.drop (j+1)).any p):=by
 rw[List.drop_eq_getElem_cons h,List.any_cons]
theorem Ko(s:ByteArray)(k:Nat)(w:World)(hs:s.size<=1048576)(hk:k<s.size)(h10:s[k]'hk≠10)(hl:lq (s[k]'hk)=false)(hg:dg (s[k]'hk)=false)(h34:s[k]'hk≠34)(h35:s[k]'hk≠35)
  (h47:¬(s[k]'hk=47/\(s.data.toList.drop (k+1)).head?=some 47)) (h42:¬(s[k]'hk=47/\(s.data.toList.drop (k+1)).head?=some 42)) :
  Calls Tryz.prog 46 #[.string s,.int .i64 (k:Nat)] w (yM w s k (if Eo (s.data.toList.drop k)=0 then .bad 0 3 else .tok 4 (Eo (s.data.toList.drop k)))):=by
 have hd:=eT hk;have AH:=fA h10 (m:=10) rfl;have AI:=fA h34 (m:=34) rfl;have AJ:=fA h35 (m:=35) rfl;have Ay:=iG (s[k]'hk);rw[hl] at Ay
 have A0:(s[k]'hk).toNat<48\/(48<=(s[k]'hk).toNat/\57<(s[k]'hk).toNat):=by
  have:¬(48<=(s[k]'hk).toNat/\(s[k]'hk).toNat<=57):=by simpa [dg,I9] using hg
  omega
 have Aw:=fun W=>rU s k ⟨#[47,47]⟩ W (by omega) (by omega) (by decide);rw[hd,show (⟨#[47,47]⟩:ByteArray).data.toList=[47,47] from rfl,AQ,decide_eq_false h47] at Aw;have Ax:=fun W=>rU s k ⟨#[47,42]⟩ W (by omega) (by omega) (by decide);rw[hd,show (⟨#[47,42]⟩:ByteArray).data.toList=[47,42] from rfl,AQ,decide_eq_false h42] at Ax;have A5:∀(p:ByteArray) W,p.size<=1000->Calls Tryz.prog 84 #[.string s,.int .i64 (k:Nat),.string p] W fun e w'=>e=.returned (.bool (p.data.toList.isPrefixOf (s.data.toList.drop k)))/\W=w':=fun p W hp=>rU s k p W (by omega) (by omega) hp;obtain⟨B,hB⟩:∃B,mi.any (fun d=>d.isPrefixOf (s.data.toList.drop k))=B:=⟨_,rfl⟩;obtain⟨C,hC⟩:∃C,oo.contains (s[k]'hk)=C:=⟨_,rfl⟩
 have AE:Eo (s.data.toList.drop k)=if B=true then 2 else if C=true then 1 else 0:=by
  unfold Eo;rw[hB,hd];simp only;rw[hC]
 rw[AE];have HB:=Hh hB;have HC:=Hh hC;have HD:=Hh hd;clear h10 hl hg h34 h35 h47 h42 hB hC AE hd;obtain⟨R,hR⟩:∃R,(if (if B=true then 2 else if C=true then 1 else 0)=0 then LR.bad 0 3 else LR.tok 4 (if B=true then 2 else if C=true then 1 else 0))=R:=⟨_,rfl⟩;rw[hR];have HR:=Hh hR;clear hR;have hb:Below w.heap.size w (w.alloc (.cells #[.slice none 0 0,.int .i64 0,.int .i64 0] 38)):=(Below.refl _ w).alloc lz _;have Ab:=aa.new w #[.slice none 0 0,.int .i64 0,.int .i64 0] 38;have HH:=Jh hb Ab;clear hb Ab;rcases A0 with A0|A0
 all_goals
  go_enter Tryz.func46,Tryz.ntmps46;go_wp2_with fail;refine (Ay _).mono ?_;rintro _ _ ⟨rfl,hw1⟩;cases hw1
  go_wp2_with fail;refine (Aw _).mono ?_;rintro _ _ ⟨rfl,hw1⟩;cases hw1
  go_wp2_with fail;refine (Ax _).mono ?_;rintro _ _ ⟨rfl,hw1⟩;cases hw1
  clear Ay Aw Ax;go_wp2_with fail;obtain⟨hb,Ab⟩:=HH.out;clear HH;have Af:=(aX.lit (f:=Value.string) (E:=9) (base:=w.heap.size) (w:=w.alloc (.cells #[.slice none 0 0,.int .i64 0,.int .i64 0] 38)) (mi.map av) (by simp) (by decide)).row;have Am:=hb.alloc hb.size (.cells #[.string ⟨#[61,61]⟩,.string ⟨#[33,61]⟩,.string ⟨#[60,61]⟩,.string ⟨#[62,61]⟩,.string ⟨#[38,38]⟩,.string ⟨#[124,124]⟩] 9);have Ag:=Ab.alloc (.cells #[.string ⟨#[61,61]⟩,.string ⟨#[33,61]⟩,.string ⟨#[60,61]⟩,.string ⟨#[62,61]⟩,.string ⟨#[38,38]⟩,.string ⟨#[124,124]⟩] 9);rw[World.size_alloc] at Af;change RowOf Value.string ((w.alloc (.cells #[.slice none 0 0,.int .i64 0,.int .i64 0] 38)).alloc (.cells #[.string ⟨#[61,61]⟩,.string ⟨#[33,61]⟩,.string ⟨#[60,61]⟩,.string ⟨#[62,61]⟩,.string ⟨#[38,38]⟩,.string ⟨#[124,124]⟩] 9)) (.slice (some ⟨w.heap.size+1,0,none⟩) 6 6) _ at Af;clear hb Ab;generalize (w.alloc (.cells #[.slice none 0 0,.int .i64 0,.int .i64 0] 38)).alloc (.cells #[.string ⟨#[61,61]⟩,.string ⟨#[33,61]⟩,.string ⟨#[60,61]⟩,.string ⟨#[62,61]⟩,.string ⟨#[38,38]⟩,.string ⟨#[124,124]⟩] 9)=W1 at *;have hb:=Am;have Ab:=Ag;clear Am Ag;have Aj:=Jh hb Ab;clear hb Ab;go_loop [14,167] (fun _ i=>∃j:Nat,i=.int .i64 (j:Int)/\j<=6/\(mi.drop j).any (fun d=>d.isPrefixOf (s.data.toList.drop k))=B) (fun _ i=>6-(intOf i).toNat)
  case atStart=>exact⟨0,rfl,by omega,HB.out⟩
  case round=>
   clear HB;obtain⟨j,rfl,hj,hI⟩:=hrel
   by_cases hlt:j<6
   ·have Ae:j<mi.length:=hlt
    obtain⟨b1,o1,A1,AF,Ad⟩:=Af.at (j:=j) (by exact hlt);cases A1
    have At:W1.cell? ⟨w.heap.size+1,0+j,none⟩=some (.string (av (mi[j]'Ae))):=(Ad j (by exact hlt)).trans (congrArg (fun x=>some (Value.string x)) (N8 j Ae));rw[LB (l:=mi) Ae] at hI
    have AD:(av (mi[j]'Ae)).size=2:=by
     rw[aU];have h6:j=0\/j=1\/j=2\/j=3\/j=4\/j=5:=by omega
     rcases h6 with rfl|rfl|rfl|rfl|rfl|rfl<;>rfl
    have hJ:=fun W=>A5 (av (mi[j]'Ae)) W (by omega);rw[bi] at hJ;have Av:=Hh AD;clear Ad AD
    cases hp:(mi[j]'Ae).isPrefixOf (s.data.toList.drop k) with
    |true=>
     rw[hp] at hJ hI;have A3:B=true:=by rw[<-hI];rfl
     have h2:k+2<=s.size:=by
      have:=(List.isPrefixOf_iff_prefix.1 hp).length_le;rw[List.length_drop,<-au,<-aU,Av.out] at this;omega
     have Ai:R=.tok 4 2:=by rw[<-HR.out,A3];rfl
     have Al:=Hh Ai;clear hp hI Ai A3 Av;generalize av (mi[j]'Ae)=dj at *;simp only[Nat.zero_add] at At;go_wp2_with fail;refine (hJ _).mono ?_;rintro _ _ ⟨rfl,hw1⟩;cases hw1
     go_wp2_with fail;obtain⟨hb,Ab⟩:=Aj.out;have hT:=lJ s k 2 4 W1 (by omega) h2;refine (hT).mono ?_;rintro _ w2 ⟨v,rfl,hown,hb2⟩;obtain⟨Ak,Aa,Ah,-⟩:=jJ (a:=0) (e:=0) hb Ab hb2.size hown hb2;obtain⟨va,vc,Au⟩:=hown.len
     (try simp only[List.length_cons,List.length_nil,Nat.zero_add] at Au)
     subst Au;have AG:=Ak.lt;have HX:=Jh Aa (And.intro Ah Ak);clear hown hb2 Aa Ah hb Ab;obtain⟨An,Aq,Ao,Ar,Ap,As⟩:=Ak.n3 rfl;go_wp2;obtain⟨Aa,Ah,Az⟩:=HX.out;have hq:=((Az.setI 0 (.slice va 1 vc)).setI 1 (.int .i64 0)).setI 2 (.int .i64 0);obtain⟨hx,hy,hz⟩:=hq.m3 rfl;refine bodyPost_ret (v:=.agg #[.slice va 1 vc,.int .i64 0,.int .i64 0]) (by simp[results,Tryz.results46,go_sem,hx,hy,hz]) rfl ?_;rw[Al.out];exact⟨_,rfl,Aa,Ah⟩
    |false=>
     rw[hp,Bool.false_or] at hI;rw[hp] at hJ;have HI:=Hh hI;clear hp hI Av;generalize av (mi[j]'Ae)=dj at *;simp only[Nat.zero_add] at At;go_wp2_with fail;refine (hJ _).mono ?_;rintro _ _ ⟨rfl,hw1⟩;cases hw1
     go_wp2;go_round
     case rel=>exact⟨j+1,by go_num,by omega,HI.out⟩
     case measure=>simp[intOf];omega
   ·obtain rfl:j=6:=by omega
    have A2:Hid (B=false):=Hh hI.symm;clear hI Af;go_wp2_with fail;obtain⟨hb,Ab⟩:=Aj.out;have Af:=(aX.lit (f:=Value.string) (E:=9) (base:=w.heap.size) (w:=W1) [(⟨#[61]⟩:ByteArray),(⟨#[60]⟩:ByteArray),(⟨#[62]⟩:ByteArray),(⟨#[43]⟩:ByteArray),(⟨#[45]⟩:ByteArray),(⟨#[42]⟩:ByteArray),(⟨#[47]⟩:ByteArray),(⟨#[37]⟩:ByteArray),(⟨#[33]⟩:ByteArray),(⟨#[63]⟩:ByteArray),(⟨#[58]⟩:ByteArray),(⟨#[44]⟩:ByteArray),(⟨#[46]⟩:ByteArray),(⟨#[40]⟩:ByteArray),(⟨#[41]⟩:ByteArray),(⟨#[91]⟩:ByteArray),(⟨#[93]⟩:ByteArray),(⟨#[123]⟩:ByteArray),(⟨#[125]⟩:ByteArray)] hb.size (by decide)).row;have Am:=hb.alloc hb.size (.cells #[.string ⟨#[61]⟩,.string ⟨#[60]⟩,.string ⟨#[62]⟩,.string ⟨#[43]⟩,.string ⟨#[45]⟩,.string ⟨#[42]⟩,.string ⟨#[47]⟩,.string ⟨#[37]⟩,.string ⟨#[33]⟩,.string ⟨#[63]⟩,.string ⟨#[58]⟩,.string ⟨#[44]⟩,.string ⟨#[46]⟩,.string ⟨#[40]⟩,.string ⟨#[41]⟩,.string ⟨#[91]⟩,.string ⟨#[93]⟩,.string ⟨#[123]⟩,.string ⟨#[125]⟩] 9);have Ag:=Ab.alloc (.cells #[.string ⟨#[61]⟩,.string ⟨#[60]⟩,.string ⟨#[62]⟩,.string ⟨#[43]⟩,.string ⟨#[45]⟩,.string ⟨#[42]⟩,.string ⟨#[47]⟩,.string ⟨#[37]⟩,.string ⟨#[33]⟩,.string ⟨#[63]⟩,.string ⟨#[58]⟩,.string ⟨#[44]⟩,.string ⟨#[46]⟩,.string ⟨#[40]⟩,.string ⟨#[41]⟩,.string ⟨#[91]⟩,.string ⟨#[93]⟩,.string ⟨#[123]⟩,.string ⟨#[125]⟩] 9);change RowOf Value.string (W1.alloc (.cells #[.string ⟨#[61]⟩,.string ⟨#[60]⟩,.string ⟨#[62]⟩,.string ⟨#[43]⟩,.string ⟨#[45]⟩,.string ⟨#[42]⟩,.string ⟨#[47]⟩,.string ⟨#[37]⟩,.string ⟨#[33]⟩,.string ⟨#[63]⟩,.string ⟨#[58]⟩,.string ⟨#[44]⟩,.string ⟨#[46]⟩,.string ⟨#[40]⟩,.string ⟨#[41]⟩,.string ⟨#[91]⟩,.string ⟨#[93]⟩,.string ⟨#[123]⟩,.string ⟨#[125]⟩] 9)) (.slice (some ⟨W1.heap.size,0,none⟩) 19 19) _ at Af
    clear hb Ab Aj;generalize hW2:W1.alloc (.cells #[.string ⟨#[61]⟩,.string ⟨#[60]⟩,.string ⟨#[62]⟩,.string ⟨#[43]⟩,.string ⟨#[45]⟩,.string ⟨#[42]⟩,.string ⟨#[47]⟩,.string ⟨#[37]⟩,.string ⟨#[33]⟩,.string ⟨#[63]⟩,.string ⟨#[58]⟩,.string ⟨#[44]⟩,.string ⟨#[46]⟩,.string ⟨#[40]⟩,.string ⟨#[41]⟩,.string ⟨#[91]⟩,.string ⟨#[93]⟩,.string ⟨#[123]⟩,.string ⟨#[125]⟩] 9)=W2 at *;generalize W1.heap.size=g2 at *;clear hW2;have hb:=Am;have Ab:=Ag;clear Am Ag;have Aj:=Jh hb Ab;clear hb Ab;go_loop [16,181] (fun _ i=>∃j:Nat,i=.int .i64 (j:Int)/\j<=19/\(oo.drop j).contains (s[k]'hk)=C) (fun _ i=>19-(intOf i).toNat)
    case atStart=>exact⟨0,rfl,by omega,HC.out⟩
    case round=>
     clear HC;obtain⟨j,rfl,hj,hI⟩:=hrel
     by_cases hlt:j<19
     ·have Ac:j<oo.length:=hlt
      obtain⟨b1,o1,A1,AF,Ad⟩:=Af.at (j:=j) (by exact hlt);cases A1
      have At:W2.cell? ⟨g2,0+j,none⟩=some (.string ⟨#[oo[j]'Ac]⟩):=(Ad j (by exact hlt)).trans (congrArg (fun x=>some (Value.string x)) (NC j Ac));rw[List.drop_eq_getElem_cons Ac,List.contains_cons] at hI;have hJ:=fun W=>A5 ⟨#[oo[j]'Ac]⟩ W (by simp[ByteArray.size])
      have A6:(⟨#[oo[j]'Ac]⟩:ByteArray).data.toList.isPrefixOf (s.data.toList.drop k)=(s[k]'hk==oo[j]'Ac):=by
       rw[HD.out];show (oo[j]'Ac==s[k]'hk&&([]:Bs).isPrefixOf _)=_;rw[List.isPrefixOf_nil_left,Bool.and_true,Bool.beq_comm]
      rw[A6] at hJ;clear A6 Ad
      cases hp:(s[k]'hk==oo[j]'Ac) with
      |true=>
       rw[hp] at hJ hI;have A4:C=true:=by rw[<-hI];rfl
       have Ai:R=.tok 4 1:=by rw[<-HR.out,A2.out,A4];rfl
       have Al:=Hh Ai;have AK:k+1<=s.size:=hk;clear hp hI Ai A4;generalize (⟨#[oo[j]'Ac]⟩:ByteArray)=dj at *;simp only[Nat.zero_add] at At;go_wp2_with fail;refine (hJ _).mono ?_;rintro _ _ ⟨rfl,hw1⟩;cases hw1
       go_wp2_with fail;obtain⟨hb,Ab⟩:=Aj.out;have hT:=lJ s k 1 4 W2 (by omega) (by omega);refine (hT).mono ?_;rintro _ w2 ⟨v,rfl,hown,hb2⟩;obtain⟨Ak,Aa,Ah,-⟩:=jJ (a:=0) (e:=0) hb Ab hb2.size hown hb2;obtain⟨va,vc,Au⟩:=hown.len
       (try simp only[List.length_cons,List.length_nil,Nat.zero_add] at Au)
       subst Au;have AG:=Ak.lt;have HX:=Jh Aa (And.intro Ah Ak);clear hown hb2 Aa Ah hb Ab;obtain⟨An,Aq,Ao,Ar,Ap,As⟩:=Ak.n3 rfl;go_wp2;obtain⟨Aa,Ah,Az⟩:=HX.out;have hq:=((Az.setI 0 (.slice va 1 vc)).setI 1 (.int .i64 0)).setI 2 (.int .i64 0);obtain⟨hx,hy,hz⟩:=hq.m3 rfl;refine bodyPost_ret (v:=.agg #[.slice va 1 vc,.int .i64 0,.int .i64 0]) (by simp[results,Tryz.results46,go_sem,hx,hy,hz]) rfl ?_;rw[Al.out];exact⟨_,rfl,Aa,Ah⟩
      |false=>
       rw[hp,Bool.false_or] at hI;rw[hp] at hJ;have HI:=Hh hI;clear hp hI;generalize (⟨#[oo[j]'Ac]⟩:ByteArray)=dj at *;simp only[Nat.zero_add] at At;go_wp2_with fail;refine (hJ _).mono ?_;rintro _ _ ⟨rfl,hw1⟩;cases hw1
       go_wp2;go_round
       case rel=>exact⟨j+1,by go_num,by omega,HI.out⟩
       case measure=>simp[intOf];omega
     ·obtain rfl:j=19:=by omega
      have Ai:R=.bad 0 3:=by rw[<-HR.out,A2.out,<-hI];rfl
      have Al:=Hh Ai;clear hI Af Ai;obtain⟨hb,Ab⟩:=Aj.out;have HB:=Hh hb;have HC:=Hh Ab;have AL:=Ab.lt;clear hb Aj;obtain⟨A7,AA,A8,AB,A9,AC⟩:=Ab.n3 rfl;clear Ab;go_wp2;rw[Al.out];have hq:=(((HC.out).setI 0 (.slice none 0 0)).setI 1 (.int .i64 (k:Nat))).setI 2 (.int .i64 3);obtain⟨hx,hy,hz⟩:=hq.m3 rfl;refine bodyPost_ret (v:=.agg #[.slice none 0 0,.int .i64 (k:Nat),.int .i64 3]) (by simp[results,Tryz.results46,go_sem,hx,hy,hz]) rfl ?_;exact⟨_,by simp[xS],aI.nil,aL _ _ lz [.slice none 0 0,.int .i64 (k:Nat),.int .i64 3] 0 _ _ HB.out⟩
theorem Ka(s:ByteArray)(k:Nat)(w:World)(hs:s.size<=1048576)(hk:k<s.size) :
  Calls Tryz.prog 46 #[.string s,.int .i64 (k:Nat)] w (yM w s k (eY (s.data.toList.drop k))):=by
 have hd:=eT hk;have h1:eY (s.data.toList.drop k)=eY (s[k]'hk::s.data.toList.drop (k+1)):=by rw[hd]
 rw[h1,eY]
 by_cases hl:lq (s[k]'hk)=true
 ·rw[if_pos hl]
  refine Kn s k w hs hk ?_ hl;intro h;rw[h] at hl
  revert hl;decide
 rw[if_neg hl];have Aa:lq (s[k]'hk)=false:=by simpa using hl
 by_cases hg:dg (s[k]'hk)=true
 ·rw[if_pos hg,<-hd]
  exact EM s k w hs hk Aa hg
 rw[if_neg hg];have Ab:dg (s[k]'hk)=false:=by simpa using hg
 by_cases h34:s[k]'hk=34
 ·rw[if_pos h34,<-hd]
  exact EL s k w hs hk h34
 rw[if_neg h34]
 by_cases h10:s[k]'hk=10
 ·rw[if_pos h10]
  exact Kq s k w hs hk h10
 rw[if_neg h10]
 by_cases hr:s[k]'hk=35\/(s[k]'hk=47/\(s.data.toList.drop (k+1)).head?=some 47)
 ·rw[if_pos hr,<-hd]
  exact EK s k w hs hk hr
 rw[if_neg hr]
 by_cases ha:s[k]'hk=47/\(s.data.toList.drop (k+1)).head?=some 42
 ·rw[if_pos ha,<-hd]
  exact Iz s k w hs hk ha.1 ha.2
 rw[if_neg ha,<-hd];exact Ko s k w hs hk h10 Aa Ab h34 (fun h=>hr (.inl h)) (fun h=>hr (.inr h)) ha
theorem Cs(s:ByteArray)(w:World)(hs:s.size<=1048576) :
  Calls Tryz.prog 16 #[.string s] w (Aq w (aY s.data.toList 0).1 (aY s.data.toList 0).2.1 (aY s.data.toList 0).2.2):=by
 have Aj:Below w.heap.size w (w.alloc (.cells #[.slice none 0 0,.int .i64 0,.int .i64 0] 38)):=(Below.refl _ w).alloc lz _;have Ad:=aa.new w #[.slice none 0 0,.int .i64 0,.int .i64 0] 38;have HH:=Jh Aj Ad;clear Aj Ad;go_enter Tryz.func16,Tryz.ntmps16;go_wp2_with fail;go_loopw [3,4,5] (fun o p _ wr=>∃(k:Nat) (pre:List ag),p=.int .i64 (k:Int)/\k<=s.size/\dC s.data.toList k pre/\aI (w.heap.size+1) wr o pre/\aa wr w.heap.size #[.slice none 0 0,.int .i64 0,.int .i64 0] 38/\Below w.heap.size w wr) (fun _ p _ _=>s.size-(intOf p).toNat)
 case atStart=>exact⟨0,[],rfl,Nat.zero_le _,dC.zero _,aI.nil,HH.out.2,HH.out.1⟩
 case round=>
  clear HH;obtain⟨k,pre,rfl,hk,hR,Aa,hc,hb⟩:=hrel;have hl:=hc.lt
  by_cases hlt:k<s.size
  ·have hB:=Av (s[k]'hlt)
   have Ag:k<s.data.toList.length:=by rw[<-au];exact hlt
   have A0:=hR.len;rw[<-au] at A0;have HR:=Hh hR;clear hR
   cases hb1:cz (s[k]'hlt) with
   |true=>
    rw[hb1] at hB;have Az:=Hh (HR.out.blank Ag hb1);have HX:=Jh Aa (And.intro hc hb);clear HR hb1 Aa hc hb;go_wp2_with fail;refine (hB _).mono ?_;rintro _ _ ⟨rfl,hw1⟩;cases hw1
    go_wp2;go_roundw
    case rel=>exact⟨k+1,pre,by go_num,by omega,Az.out,HX.out.1,HX.out.2.1,HX.out.2.2⟩
    case measure=>simp[intOf];omega
   |false=>
    rw[hb1] at hB;have hO:=Ka s k;unfold yM at hO;obtain⟨va,vc,rfl⟩:=Aa.len
    cases ho:eY (s.data.toList.drop k) with
    |bad o e=>
     have HD:=Hh (HR.out.bad Ag hb1 ho);have AE:(e != 0)=true:=by simpa using nQ ho
     rw[ho] at hO;simp only[xS] at hO;clear HR hb1 ho;go_wp2_with fail;refine (hB _).mono ?_;rintro _ _ ⟨rfl,hw1⟩;cases hw1
     go_wp2_with fail;refine (hO _ hs hlt).mono ?_;rintro _ w2 ⟨v2,rfl,hown2,hb2⟩;obtain⟨ua,uc,rfl⟩:=hown2.len;have Ae:=hc.below hb2 hl;have AD:=Ae.lt;have HX:=Jh (Aa.below hb2 lz) (And.intro Ae (hb.trans (hb2.mono hb.size)));clear hown2 hb2 Aa hc hb;obtain⟨Ak,An,Al,Ao,Am,Ap⟩:=Ae.n3 rfl;clear Ae;go_wp2;have hq:=(((HX.out.2.1.setI 0 (.slice va pre.length vc)).setI 1 (.int .i64 ((k:Int)+o))).setI 2 (.int .i64 e)).alloc (.cells #[.slice ua 0 uc,.int .i64 ((k:Int)+o),.int .i64 e] 38);obtain⟨hx,hy,hz⟩:=hq.m3 rfl;refine bodyPost_ret (v:=.agg #[.slice va pre.length vc,.int .i64 ((k:Int)+o),.int .i64 e]) (by simp[results,Tryz.results16,go_sem,hx,hy,hz]) rfl ?_;rw[HD.out];exact⟨.slice va pre.length vc,by simp,((aI.moved (w':=ai w2 w.heap.size 0 [.slice va pre.length vc,.int .i64 ((k:Int)+o),.int .i64 e]) HX.out.1 (fun q hq=>aK _ _ 0 _ q (by have:=(World.ownsRow.lt HX.out.1 q hq).1;omega))).base_le (Nat.le_succ _)).alloc _,(aL _ _ lz [.slice va pre.length vc,.int .i64 ((k:Int)+o),.int .i64 e] 0 _ _ HX.out.2.2).alloc (by rw[aB];exact HX.out.2.2.size) _⟩
    |tok kd sz=>
     have HD:=Hh (HR.out.tok Ag hb1 ho);have A8:=dN ho;rw[List.length_drop,<-au] at A8;have Ah:av ((s.data.toList.drop k).take sz)=s.extract k (k+sz):=ji (by rw[fe,bi,List.drop_take];congr 1;omega);rw[Ah] at HD;have AC:(s.extract k (k+sz)).size=sz:=by rw[ByteArray.size_extract];omega
     rw[ho] at hO;simp only[xS] at hO;clear HR hb1 ho Ah;generalize s.extract k (k+sz)=tx at *;go_wp2_with fail;refine (hB _).mono ?_;rintro _ _ ⟨rfl,hw1⟩;cases hw1
     go_wp2_with fail;refine (hO _ hs hlt).mono ?_;rintro _ w2 ⟨v2,rfl,hown2,hb2⟩;obtain⟨ua,uc,rfl⟩:=hown2.len;obtain⟨ub,uo,rfl,A9,q0,q1,q2⟩:=aH.get (aI.toks hown2) (j:=0) (by simp);simp only[List.length_cons,List.length_nil,Nat.zero_add,List.getElem_cons_zero,Nat.zero_mul,Nat.add_zero] at q0 q1 q2 hown2;go_wp2_with (with_reducible first|refine aA ?_)
     refine Stop.out ?_;have Ab:=((Aa.below hb2 lz).alloc (.cells #[.slice (some ⟨ub,uo,none⟩) 1 uc,.int .i64 0,.int .i64 0] 38)).alloc (.cells #[.int .i64 (kd:Nat),.string tx,.int .i64 (k:Nat)] 63);have AA:=(World.ownsRow.lt hown2 ub rfl).1;refine jI rfl _ _ rfl (w.heap.size+1) pre ⟨(kd:Nat),tx,(k:Nat)⟩ Ab (w2.heap.size+1) rfl (by simp) (by simp) (by simp) (by omega) (by have:=hb2.size;simp;omega) _ (Below.refl _ _) ?_;intro v' w' hown' hb9 hg';have Ai:Below w.heap.size w w':=(((hb.trans (hb2.mono hb.size)).alloc (Nat.le_trans hb.size hb2.size) (.cells #[.slice (some ⟨ub,uo,none⟩) 1 uc,.int .i64 0,.int .i64 0] 38)).alloc (by have:=hb.size;have:=hb2.size;simp;omega) (.cells #[.int .i64 (kd:Nat),.string tx,.int .i64 (k:Nat)] 63)).trans (hb9.mono (Nat.le_succ _));have Ac:∀b,(Value.slice va pre.length vc).ownBlock=some b->b<wr.heap.size:=fun b hbb=>(World.ownsRow.lt Aa b hbb).2;have AF:=hb2.size;have Ar:aa w' w.heap.size #[.slice none 0 0,.int .i64 0,.int .i64 0] 38:=(((hc.below hb2 hl).alloc _).alloc _).kept hg' (fun e=>by have:=(World.ownsRow.lt Aa _ e.symm).1;omega);have Af:aa w' w2.heap.size #[.slice (some ⟨ub,uo,none⟩) 1 uc,.int .i64 0,.int .i64 0] 38:=((aa.new w2 _ _).alloc _).kept hg' (fun e=>by have:=Ac _ e.symm;omega)
     have AH:w'.cell? ⟨ub,uo+1,none⟩=some (.string tx):=by
      rw[iH (hg'.block ub (by simp;omega) (fun e=>by have:=Ac _ e.symm;omega))];rw[World.cell?_alloc_past _ _ _ (by simp;omega),World.cell?_alloc_past _ _ _ A9];exact q1
     have AG:=Af.lt;have HX:=Jh hown' (And.intro Ar Ai);obtain⟨xa,xc,AB⟩:=hown'.len;subst AB;clear hown' Ai hb9 hg' Ar Ab hown2 hb2 Aa hc hb q0 q1 q2 Ac;obtain⟨As,Aw,At,Ax,Au,Ay⟩:=Af.n3 rfl;clear Af;go_wp2;go_roundw
     case rel=>exact⟨k+sz,_,by go_num,by omega,HD.out,by simpa using HX.out.1,HX.out.2.1,HX.out.2.2⟩
     case measure=>simp[intOf];omega
  ·obtain rfl:k=s.size:=by omega
   have HD:=Hh (hR.done (au s));obtain⟨va,vc,rfl⟩:=Aa.len;have A1:=hc;have HX:=Jh Aa hb;clear hR Aa hb;obtain⟨A2,A5,A3,A6,A4,A7⟩:=hc.n3 rfl;go_wp2;have hq:=((A1.setI 0 (.slice va pre.length vc)).setI 1 (.int .i64 (-1))).setI 2 (.int .i64 0);obtain⟨hx,hy,hz⟩:=hq.m3 rfl;refine bodyPost_ret (v:=.agg #[.slice va pre.length vc,.int .i64 (-1),.int .i64 0]) (by simp[results,Tryz.results16,go_sem,hx,hy,hz]) rfl ?_;rw[HD.out];exact⟨_,rfl,(HX.out.1.moved (fun q hq=>aK _ [.slice va pre.length vc,.int .i64 (-1),.int .i64 0] 0 _ q (by have:=(World.ownsRow.lt HX.out.1 q hq).1;omega))).base_le (Nat.le_succ _),aL _ _ lz [.slice va pre.length vc,.int .i64 (-1),.int .i64 0] 0 _ _ HX.out.2⟩
structure GM(B:Nat)(w:World)(lv:Value)(D:List (eB×List ag))(nv:eB)(cur:List ag):Prop where
 own:w.ownsRow B 22 1 lv D.length (D.map fun d=>bQ d.1)
 tk:aI B w (bQ nv) cur
 fin:∀d∈D,aI B w (bQ d.1) d.2/\∀k,(bQ d.1).ownBlock=some k->(bQ nv).ownBlock≠some k
section
variable {B:Nat} {w w':World} {lv v':Value} {D:List (eB×List ag)} {nv:eB} {cur:List ag}
theorem GM.below(h:GM B w lv D nv cur)(hb:Below w.heap.size w w'):GM B w' lv D nv cur:=
 ⟨bJ h.own (fun k e=>hb.block k (World.ownsRow.lt h.own k e).2),h.tk.below hb lz,fun d hd=>⟨(h.fin d hd).1.below hb lz,(h.fin d hd).2⟩⟩
theorem GM.push(h:GM B w lv D nv cur)(hg:w.grownBy w' lv.ownBlock)(hown:w'.ownsRow B 22 1 v' (D.length+1) ((D.map fun d=>bQ d.1)++[bQ nv])) :
  GM B w' v' (D++[(nv,cur)]) (none,0,0) []:=by
 have hT:∀v l,aI B w v l->aI B w' v l:=fun v l hv=>hv.moved fun k e=>hg.block k (World.ownsRow.lt hv k e).2 (fun q=>jR hv h.own (by decide) k e q.symm);refine⟨?_,aI.nil,fun d hd=>?_⟩
 ·rw[List.map_append,List.length_append,List.length_singleton]
  exact hown
 ·rcases List.mem_append.1 hd with hd|hd
  ·exact⟨hT _ _ (h.fin d hd).1,fun k _ e=>by cases e⟩
  ·rw[List.mem_singleton.1 hd]
   exact⟨hT _ _ h.tk,fun k _ e=>by cases e⟩
theorem GM.tok(h:GM B w lv D nv cur){t:ag}{gb cap:Nat}(hg:w.grownBy w' (bQ nv).ownBlock)(hown:aI B w' (.slice (some ⟨gb,0,none⟩) (cur.length+1) cap) (cur++[t]))(hat:(bQ nv).ownBlock=some gb\/w.heap.size<=gb) :
  GM B w' lv D (some ⟨gb,0,none⟩,cur.length+1,cap) (cur++[t]):=by
 refine⟨bJ h.own (fun k e=>hg.block k (World.ownsRow.lt h.own k e).2 (fun q=>jR h.tk h.own (by decide) k q.symm e)),hown,fun d hd=>?_⟩;obtain⟨f1,f2⟩:=h.fin d hd;refine⟨f1.moved fun k e=>hg.block k (World.ownsRow.lt f1 k e).2 (fun q=>f2 k e q.symm),fun k e q=>?_⟩;have q:gb=k:=by simpa [bQ,Value.ownBlock] using q
 subst q;rcases hat with hat|hat
 ·exact f2 _ e hat
 ·have:=(World.ownsRow.lt f1 _ e).2;omega
theorem GM.done(h:GM B w lv D nv cur):mG B w lv (D.map (·.2)):=by
 have ho:aX bQ 22 B w lv (D.map (·.1)):=by
  show w.ownsRow B _ 1 lv (D.map (·.1)).length ((D.map (·.1)).map bQ);rw[List.length_map,List.map_map];exact h.own
 refine⟨D.map (·.1),ho.row,by simp,fun j h1 h2=>?_⟩;rw[List.getElem_map,List.getElem_map];exact (h.fin _ (List.getElem_mem _)).1
end
theorem nE{w:World}{ops:Array Oper}{rest:List Oper}{p:Oper}{a:Act}{Q:Exit->Act->World->Prop}(hgd:p.guard=none)(s x:Operand)
  (hop:p.op=.call { callee:=.builtin .append,args:=#[s,x],argTypes:=#[73,73] }) (B:Nat) (lv:Value) (D:List (eB×List ag)) (d:eB) (hs:a.eval s=lv)
  (hown:w.ownsRow B 22 1 lv D.length (D.map fun d=>bQ d.1)) (g:Nat) (hx:a.eval x=.slice (some ⟨g,0,none⟩) 1 1) (hc:aa w g #[bQ d] 22)
  (hD:D.length<=1000000) (hbase:B<=w.heap.size)
  (hK:∀g2 c2 w',w'.ownsRow B 22 1 (.slice (some ⟨g2,0,none⟩) (D.length+1) c2) (D.length+1) ((D.map fun d=>bQ d.1)++[bQ d])->w.grownBy w' lv.ownBlock->
   wpList Tryz.prog ops Q rest (a.put p.dst (.slice (some ⟨g2,0,none⟩) (D.length+1) c2)) w'):wpList Tryz.prog ops Q (p::rest) a w:=by
 obtain⟨i,Aa,Ab,Ac,Ad⟩:=info_parts Tryz.infoSlT;refine wpList_append_lies w hgd s x 73 hop B 22 i _ 1 24 Tryz.underlying73 Aa Ab Ac Ad rfl (by decide) lv D.length (D.map fun d=>bQ d.1) hs hown ⟨g,0,none⟩ 1 1 [bQ d] hx rfl ?_ ?_ (by omega) (by unfold maxLen;omega) (by omega) hbase _ rfl (fun g2 c2 w' h1 h2 _ _=>hK g2 c2 w' h1 h2)
 ·intro j u hu
  rw[Addr.add_lit,Nat.zero_add];exact hc.cell _ _ (by simpa using hu)
 ·intro u hu
  rw[List.mem_singleton.1 hu];rfl
theorem mG.base_le{B B2:Nat}{w:World}{v:Value}{L:List (List ag)}(h:mG B w v L)(hb:B2<=B):mG B2 w v L:=by
 obtain⟨ss,h1,h2,h3⟩:=h;exact⟨ss,h1,h2,fun j q1 q2=>(h3 j q1 q2).base_le hb⟩
theorem LY{s:ByteArray}(h:0<s.size):kH s.data.toList=(s[s.size-1]'(by omega) != 10):=by
 have hl:s.data.toList.length=s.size:=eX s;unfold kH;rw[List.getLast?_eq_getElem?,List.getElem?_eq_getElem (by omega)];simp only[hl];rfl
theorem Cw(s0:ByteArray)(w:World)(hs:s0.size<=400000) :
  Calls Tryz.prog 54 #[.string s0] w fun e w'=>∃v,e=.returned v/\mG w.heap.size w' v (gm s0.data.toList)/\Below w.heap.size w w':=by
 have hL:=Cs s0 w (by omega);have Aq:=lZ s0.data.toList.length s0.data.toList 0 lz;have A5:s0.data.toList.length=s0.size:=eX s0;obtain⟨R,hR⟩:=exq (gm s0.data.toList);rw[<-hR];unfold gm at hR;generalize aY s0.data.toList 0=X at *;obtain⟨Aa,Al,er⟩:=X;simp only at hL Aq hR;go_enter Tryz.func54,Tryz.ntmps54;go_wp2_with fail;refine hL.mono ?_;clear hL;rintro _ w1 ⟨v,rfl,hO,hb1⟩;obtain⟨a,c,rfl⟩:=pJ hO;have At:=hO.toks;have Av:Below w.heap.size w (w1.alloc (.cells #[.slice a Aa.length c,.int .i64 Al,.int .i64 er] 38)):=hb1.alloc hb1.size _;have Aw:=aa.new w1 #[.slice a Aa.length c,.int .i64 Al,.int .i64 er] 38;have Au:=At.below ((Below.refl _ w1).alloc lz (.cells #[.slice a Aa.length c,.int .i64 Al,.int .i64 er] 38)) lz;have H2:=Jh Av (And.intro Aw Au);clear hO At hb1 Av Aw Au
 by_cases he:er=0
 ·subst he
  rw[if_pos rfl] at hR;have HR:=Hh hR;clear hR;go_wp2_with fail;generalize w1.alloc (.cells #[.slice a Aa.length c,.int .i64 Al,.int .i64 0] 38)=w2 at *;have Ar:=H2.out.2.1.lt
  have A2:Aa.length<=c/\c<=9223372036854775807:=by
   obtain⟨a',c',e',q1,q2,-⟩:=H2.out.2.2.len;cases e'
   unfold maxLen at q2;exact⟨q1,q2⟩
  generalize w1.heap.size=bx at *;go_loopw [4,5,6] (fun lv nv i wr=>∃(k:Nat) (D:List (eB×List ag)) (s:eB) (cur:List ag),k<=Aa.length/\i=.int .i64 (k:Int)/\nv=bQ s/\Hid (GM w2.heap.size wr lv D s cur/\R=D.map (·.2)++jY (Aa.drop k) cur (kH s0.data.toList)/\D.length<=k/\cur.length<=k/\Below w2.heap.size w2 wr)) (fun _ _ i _=>Aa.length-(intOf i).toNat)
  case atStart=>exact⟨0,[],(none,0,0),[],Nat.zero_le _,rfl,rfl,Hh ⟨⟨World.ownsRow_nil _ _ _ _,aI.nil,fun d hd=>by cases hd⟩,by rw[HR.out];rfl,Nat.le_refl _,Nat.le_refl _,Below.refl _ _⟩⟩
  case round=>
   obtain⟨k,D,s,cur,hk,rfl,rfl,HS⟩:=hrel;obtain⟨na,nn,nc⟩:=s;obtain⟨a',c',e'⟩:=HS.out.1.tk.len;simp only[bQ,Value.slice.injEq] at e';obtain⟨rfl,rfl,rfl⟩:=e';obtain⟨la,lc,rfl⟩:=pJ HS.out.1.own;simp only[bQ];have A0:=HS.out.2.2.2.2.size;have Ap:=H2.out.2.1.below HS.out.2.2.2.2 Ar;have Az:=Ap.lt;obtain⟨Af,Ai,Ag,Aj,Ah,Ak⟩:=Ap.n3 rfl;clear Ap
   by_cases hkl:k<Aa.length
   ·obtain⟨b,A6,rfl,A3,c0,c1,c2⟩:=(H2.out.2.2.below HS.out.2.2.2.2 lz).get hkl
    have Am:=HS.out.2.1;rw[List.drop_eq_getElem_cons hkl] at Am;generalize Aa[k]=t at *;obtain⟨kd,tx,ps⟩:=t;simp only at c0 c1 c2;rw[jY] at Am;have Ac:=Hh Am;clear Am
    by_cases h5:kd=5
    ·subst h5
     have Ab:Hid (R=D.map (·.2)++cur::jY (Aa.drop (k+1)) [] (kH s0.data.toList)):=Hh (by rw[Ac.out,if_pos rfl]);clear Ac;go_wp2_with (with_reducible first|refine aA ?_)
     refine Stop.out ?_;have hA:=(Below.refl _ wr).alloc lz (.cells #[.slice na cur.length nc] 22);refine nE rfl _ _ rfl w2.heap.size (.slice la D.length lc) D (na,cur.length,nc) rfl (by exact (HS.out.1.below hA).own) wr.heap.size rfl (aa.new wr _ _) (by have:=HS.out.2.2.1;omega) (by simp;omega) ?_;intro g3 c3 w3 hown3 hg3;have Ad:=(HS.out.1.below hA).push hg3 hown3;have Ae:=(HS.out.2.2.2.2.alloc HS.out.2.2.2.2.size (.cells #[.slice na cur.length nc] 22)).grown hg3 (by simp;omega) (fun k e=>(World.ownsRow.lt HS.out.1.own k e).1);have HN:Hid (GM w2.heap.size w3 (.slice (some ⟨g3,0,none⟩) (D.length+1) c3) (D++[((na,cur.length,nc),cur)]) (none,0,0) []/\R=(D++[((na,cur.length,nc),cur)]).map (·.2)++jY (Aa.drop (k+1)) [] (kH s0.data.toList)/\(D++[((na,cur.length,nc),cur)]).length<=k+1/\([]:List ag).length<=k+1/\Below w2.heap.size w2 w3):=Hh ⟨Ad,by rw[Ab.out];simp,by simp;have:=HS.out.2.2.1;omega,Nat.zero_le _,Ae⟩;clear Ad Ae hown3 hg3 hA c0 c1 c2 Af Ag Ah Ai Aj Ak;go_wp2_with fail;go_roundw
     case rel=>exact⟨k+1,_,_,_,hkl,by go_num,rfl,HN⟩
     case measure=>simp[intOf]<;>omega
    ·have e5:(kd==5)=false:=by simpa using h5
     have Ab:Hid (R=D.map (·.2)++jY (Aa.drop (k+1)) (cur++[⟨kd,tx,ps⟩]) (kH s0.data.toList)):=Hh (by rw[Ac.out,if_neg h5]);clear h5 Ac;go_wp2_with (with_reducible first|refine aA ?_)
     refine Stop.out ?_;have hA:=(Below.refl _ wr).alloc lz (.cells #[.int .i64 kd,.string tx,.int .i64 ps] 63);refine gB rfl _ _ rfl w2.heap.size cur ⟨kd,tx,ps⟩ (by exact (HS.out.1.below hA).tk) wr.heap.size rfl (aa.new wr _ _) (by have:=HS.out.2.2.2.1;omega) (by simp;omega) _ rfl ?_;intro g3 c3 w3 hown3 hg3 hat3 hlt3;have Ad:=(HS.out.1.below hA).tok hg3 hown3 (hat3.imp id (fun q=>Nat.le_of_eq q.symm));have Ae:=(HS.out.2.2.2.2.alloc HS.out.2.2.2.2.size (.cells #[.int .i64 kd,.string tx,.int .i64 ps] 63)).grown hg3 (by simp;omega) (fun k e=>(World.ownsRow.lt HS.out.1.tk k e).1);have HN:Hid (GM w2.heap.size w3 (.slice la D.length lc) D (some ⟨g3,0,none⟩,cur.length+1,c3) (cur++[⟨kd,tx,ps⟩])/\R=D.map (·.2)++jY (Aa.drop (k+1)) (cur++[⟨kd,tx,ps⟩]) (kH s0.data.toList)/\D.length<=k+1/\(cur++[(⟨kd,tx,ps⟩:ag)]).length<=k+1/\Below w2.heap.size w2 w3):=Hh ⟨Ad,Ab.out,by have:=HS.out.2.2.1;omega,by simp;have:=HS.out.2.2.2.1;omega,Ae⟩;clear Ad Ae hown3 hg3 hA c0 c1 c2 Af Ag Ah Ai Aj Ak;go_wp2_with fail;go_roundw
     case rel=>exact⟨k+1,_,_,_,hkl,by go_num,rfl,HN⟩
     case measure=>simp[intOf]<;>omega
   ·obtain rfl:k=Aa.length:=by omega
    have Ac:Hid (R=D.map (·.2)++if kH s0.data.toList then [cur] else []):=Hh (by rw[HS.out.2.1,List.drop_length];rfl);have HF:Hid (∀{v:Value} {L:List (List ag)} {W:World},mG w2.heap.size W v L->mG w.heap.size W v L):=Hh fun h=>h.base_le H2.out.1.size;have An:Hid (∀W,Below w2.heap.size w2 W->Below w.heap.size w W):=Hh fun W h=>H2.out.1.trans (h.mono H2.out.1.size)
    by_cases h0:s0.size=0
    ·have Ab:Hid (R=D.map (·.2)):=Hh (by
      have e:s0.data.toList=[]:=List.eq_nil_of_length_eq_zero (by rw[eX];exact h0);rw[Ac.out,e]
      simp[kH])
     go_wp2_with fail;go_ret;exact⟨_,rfl,by rw[Ab.out];exact HF.out HS.out.1.done,An.out _ HS.out.2.2.2.2⟩
    ·have Ay:0<s0.size:=by omega
     have As:=Hh (LY Ay);have i1:IntKind.i64.wrap ((s0.size:Int)-1)=((s0.size-1:Nat):Int):=by rw[IntWalk.i64_in _ (by omega)];omega
     have i2:(0:Int)<(s0.size:Int):=by omega
     have i3:0<=((s0.size-1:Nat):Int)/\((s0.size-1:Nat):Int)<(s0.size:Int):=by omega
     obtain⟨ch,Ao⟩:∃ch:Nat,(s0[s0.size-1]'(by omega)).toNat=ch:=⟨_,rfl⟩;have Ax:=Hh Ao
     by_cases h10:ch=10
     ·have Ab:Hid (R=D.map (·.2)):=Hh (by
       have e:s0[s0.size-1]'(by omega)=10:=UInt8.toNat_inj.1 (by rw[Ax.out,h10];rfl);rw[Ac.out,As.out,e]
       simp)
      subst h10;go_wp2_with fail;go_ret;exact⟨_,rfl,by rw[Ab.out];exact HF.out HS.out.1.done,An.out _ HS.out.2.2.2.2⟩
     ·have A1:((ch:Int) != 10)=true:=by simp;omega
      have Ab:Hid (R=D.map (·.2)++[cur]):=Hh (by
       have e:(s0[s0.size-1]'(by omega) != 10)=true:=by
        rw[bne_iff_ne];intro e;rw[e] at Ao;exact h10 Ao.symm
       rw[Ac.out,As.out,e]
       simp)
      clear h10;go_wp2_with (with_reducible first|refine aA ?_)
      refine Stop.out ?_;have hA:=(Below.refl _ wr).alloc lz (.cells #[.slice na cur.length nc] 22);refine nE rfl _ _ rfl w2.heap.size (.slice la D.length lc) D (na,cur.length,nc) rfl (by exact (HS.out.1.below hA).own) wr.heap.size rfl (aa.new wr _ _) (by have:=HS.out.2.2.1;omega) (by simp;omega) ?_;intro g3 c3 w3 hown3 hg3;have Ad:=(HS.out.1.below hA).push hg3 hown3;have Ae:=(HS.out.2.2.2.2.alloc HS.out.2.2.2.2.size (.cells #[.slice na cur.length nc] 22)).grown hg3 (by simp;omega) (fun k e=>(World.ownsRow.lt HS.out.1.own k e).1);have HN:=Jh (HF.out Ad.done) (An.out _ Ae);clear Ad Ae hown3 hg3 hA;go_wp2_with fail;go_ret;exact⟨_,rfl,by rw[Ab.out];have q:=HN.out.1;rw[List.map_append] at q;exact q,HN.out.2⟩
 ·rw[if_neg he] at hR
  have A4:(er != 0)=true:=by simpa using he
  clear he;subst hR;go_wp2_with fail;go_ret;exact⟨_,rfl,mG.nil,H2.out.1⟩
end Go.Proofs.YtbcdaaobbebooaaGreatDoor
namespace Go.Proofs.YtbcdaaobbebooaaGreatDoor
theorem jk{g:fw}{f:gu->Nat->fw}(h:(iE g f).2.2=0):g.2.2=0/\iE g f=f g.1 g.2.1:=by
 by_cases he:g.2.2=0
 ·exact⟨he,bL he⟩
 ·rw[bf he] at h;exact absurd h he
theorem mY{r:List ag}{n:Nat}:(cO r n).2.2≠0:=by unfold cO;split<;>simp
def Hg(t:ag):Bool:=gy t || aZ t [33,45,40,91]
def Dy(t:ag):Bool:=gy t || aZ t [41,93]
def DT(a b:ag):Bool:=(!bT a rG || decide (b.kind=1))&&(!bT a dE || Hg b)
def uA:List ag->Bool
 |[]=>true
 |[_]=>true
 |a::b::r=>DT a b&&uA (b::r)
def A9(l:List ag):Bool:=match l.getLast? with|some t=>Dy t|none=>false
def NZ(l:List ag):Bool:=match l with|t::_=>Hg t|[]=>false
theorem GG:∀(l:List ag) (a b:ag) (m:List ag),uA (l++[a])=true->uA (b::m)=true->DT a b=true->uA (l++a::b::m)=true
 |[],a,b,m,_,h2,h3=>by simp only[List.nil_append,uA,h2,h3];rfl
 | [x],a,b,m,h1,h2,h3=>by
  simp only[List.cons_append,List.nil_append,uA,Bool.and_true] at h1;simp only[List.cons_append,List.nil_append,uA,h1,h2,h3];rfl
 | x::y::l,a,b,m,h1,h2,h3=>by
  simp only[List.cons_append,uA,Bool.and_eq_true] at h1 ⊢;exact⟨h1.1,GG (y::l) a b m h1.2 h2 h3⟩
theorem l8{t:ag}{v w:ByteArray}(h:bT t v=true)(hn:v≠w):bT t w=false:=by
 unfold bT at h ⊢;rw[Bool.and_eq_true,decide_eq_true_eq,decide_eq_true_eq] at h;rw[decide_eq_false (p:=t.text=w) (by rw[h.2];exact hn),Bool.and_false]
theorem nI{t:ag}(h:gy t=true)(w:ByteArray):bT t w=false:=by
 unfold gy at h;unfold bT;rw[decide_eq_false (p:=t.kind=4),Bool.false_and];intro e;rw[e] at h
 revert h;decide
theorem Le{t:ag}(h:Dy t=true):gy t=true\/bT t ql=true\/bT t pq=true:=by
 unfold Dy at h;simp only[bW,vv,Bool.or_false,Bool.or_eq_true] at h;exact h
theorem Ld{t:ag}(h:Dy t=true){w:ByteArray}(h1:ql≠w)(h2:pq≠w):bT t w=false:=by
 rcases Le h with h|h|h
 ·exact nI h w
 ·exact l8 h h1
 ·exact l8 h h2
theorem Bw{a b:ag}(h:Dy a=true):DT a b=true:=by
 unfold DT;rw[Ld h (w:=rG) (by decide) (by decide),Ld h (w:=dE) (by decide) (by decide)];rfl
theorem Og{a b:ag}{w:ByteArray}(h:bT a w=true)(h1:w≠rG)(h2:w≠dE):DT a b=true:=by
 unfold DT;rw[l8 h h1,l8 h h2];rfl
structure qM(l:List ag):Prop where
 c:uA l=true
 f:NZ l=true
 e:A9 l=true
theorem qM.last{l:List ag}(h:A9 l=true):∃q t,l=q++[t]/\Dy t=true:=by
 rcases List.eq_nil_or_concat l with rfl|⟨q,t,rfl⟩
 ·cases h
 ·rw[List.concat_eq_append] at h ⊢
  unfold A9 at h;rw[List.getLast?_concat] at h;exact⟨q,t,rfl,h⟩
theorem nS(l:List ag){m:List ag}(h:A9 m=true):A9 (l++m)=true:=by
 obtain⟨q,t,rfl,ht⟩:=qM.last h;unfold A9;rw[<-List.append_assoc,List.getLast?_concat];exact ht
theorem K4{l:List ag}(h:NZ l=true)(m:List ag):NZ (l++m)=true:=by
 cases l with
 |nil=>cases h
 |cons t l=>exact h
theorem Lm{l m:List ag}(h1:uA l=true)(h2:A9 l=true)(h3:uA m=true):uA (l++m)=true:=by
 obtain⟨q,t,rfl,ht⟩:=qM.last h2
 cases m with
 |nil=>rw[List.append_nil];exact h1
 |cons b m=>
  rw[List.append_assoc];exact GG q t b m h1 h3 (Bw ht)
theorem qM.join{l m:List ag}(h:qM l)(hc:uA m=true)(he:A9 m=true):qM (l++m):=⟨Lm h.c h.e hc,K4 h.f m,nS l he⟩
theorem nY{t:ag}{w:ByteArray}(ht:bT t w=true)(h1:w≠rG)(h2:w≠dE){m:List ag}(h:uA m=true):uA (t::m)=true:=by
 cases m with
 |nil=>rfl
 |cons b m=>simp only[uA,Og ht h1 h2,h];rfl
theorem Ni{t:ag}{w:ByteArray}(h:bT t w=true)(hw:w=ql\/w=pq):Dy t=true:=by
 unfold Dy;rcases hw with rfl|rfl
 ·rw[bW,show bT t (av [41])=true from h,Bool.true_or,Bool.or_true]
 ·rw[bW,bW,show bT t (av [93])=true from h,Bool.true_or,Bool.or_true,Bool.or_true]
theorem qM.two{l m:List ag}{t:ag}{w:ByteArray}(h:qM l)(ht:bT t w=true)(h1:w≠rG)(h2:w≠dE)(hm:qM m):qM (l++t::m):=
 h.join (nY ht h1 h2 hm.c) (nS [t] hm.e)
theorem qM.shut{l:List ag}{t:ag}{w:ByteArray}(h:qM l)(ht:bT t w=true)(hw:w=ql\/w=pq):qM (l++[t]):=
 h.join rfl (by show Dy t=true;exact Ni ht hw)
theorem qM.word{t:ag}(h:gy t=true):qM [t]:=⟨rfl,by show Hg t=true;unfold Hg;rw[h];rfl,by show Dy t=true;unfold Dy;rw[h];rfl⟩
theorem l5{r:List ag}{k:Nat}{w:ByteArray}(h:bO (r.drop k) w=true):∃t,bT t w=true/\r.drop k=t::r.drop (k+1)/\∀n,r.take (k+1+n)=r.take k++t::(r.drop (k+1)).take n:=by
 cases hd:r.drop k with
 |nil=>rw[hd] at h;cases h
 |cons t q=>
  rw[hd] at h;have hq:r.drop (k+1)=q:=by rw[<-List.drop_drop,hd];rfl
  refine⟨t,h,by rw[hq],fun n=>?_⟩;rw[Nat.add_assoc,List.take_add,hd,Nat.add_comm 1 n,List.take_succ_cons,hq]
theorem NT{r:List ag}{lv:Nat}{o:ByteArray}(h:Gl r lv=some o)(h6:lv<=6):∃t,bT t o=true/\r=t::r.drop 1/\o≠rG/\o≠dE:=by
 cases r with
 |nil=>cases h
 |cons t r=>
  unfold Gl at h;simp only at h;split at h
  ·next hc=>
   cases h
   have hn:∀w:ByteArray,CX w = -1\/CX w=7->t.text≠w:=fun w hw e=>by rw[<-e] at hw;omega
   exact⟨t,by unfold bT;rw[decide_eq_true hc.1,decide_eq_true rfl];rfl,rfl,hn _ (.inl (by kernel_rfl)),hn _ (.inr (by kernel_rfl))⟩
  ·cases h
structure PP(l:List ag):Prop where
 c:uA l=true
 e:A9 l=true
def M9:Nt->List ag->Nat->Prop
 |.choice,r,n=>qM (r.take n)
 |.term lv,r,n=>lv<=7->qM (r.take n)
 |.tloop lv _,r,n=>lv<=6->∀l,qM l->qM (l++r.take n)
 |.tight,r,n=>qM (r.take n)
 |.post,r,n=>qM (r.take n)
 |.ploop _,r,n=>∀l,qM l->qM (l++r.take n)
 |.prime,r,n=>qM (r.take n)
 |.many s,r,n=>(s=ql\/s=pq)->(∀t q,r=t::q->bT t AC=true\/bT t AJ=true)->r≠[]->1<=n/\PP (r.take n)
 |.mloop s _,r,n=>(s=ql\/s=pq)->qM (r.take n)
theorem AX{t:ag}(h:bT t AC=true\/bT t AJ=true){m:List ag}(hm:uA m=true):uA (t::m)=true:=by
 rcases h with h|h
 ·exact nY h (by decide) (by decide) hm
 ·exact nY h (by decide) (by decide) hm
theorem PM:∀(n:Nat) (t:Nt) (r:List ag) (d:Nat),(aj n t r d).2.2=0->M9 t r (aj n t r d).2.1:=by
 intro n
 induction n with
 |zero=>intro t r d h;simp[aj] at h
 |succ n ih=>
  intro t r d h
  cases t with
  |choice=>
   simp only[aj] at h ⊢;obtain⟨h1,h2⟩:=jk h;rw[h2] at h ⊢;have i1:=ih (.term 1) r d h1 (by omega)
   by_cases hq:bO (r.drop (aj n (.term 1) r d).2.1) sQ=false
   ·rw[if_pos hq];exact i1
   ·rw[if_neg hq] at h ⊢
    split at h
    ·simp[mh] at h
    ·next hd=>
     rw[if_neg hd];obtain⟨h3,h4⟩:=jk h;rw[h4] at h ⊢;have i2:=ih .choice (r.drop ((aj n (.term 1) r d).2.1+1)) (d+1) h3;simp only[M9] at i2;generalize aj n .choice (r.drop ((aj n (.term 1) r d).2.1+1)) (d+1)=B at *;generalize aj n (.term 1) r d=A at *
     by_cases hc:bO (r.drop (dL (A.2.1+1) B).2.1) LP=false
     ·rw[if_pos hc] at h;exact absurd h mY
     ·rw[if_neg hc] at h ⊢
      obtain⟨h5,h6⟩:=jk h;rw[h6];have i3:=ih .choice (r.drop ((dL (A.2.1+1) B).2.1+1)) (d+1) h5;simp only[M9] at i3 ⊢;generalize aj n .choice (r.drop ((dL (A.2.1+1) B).2.1+1)) (d+1)=C at *;obtain⟨t1,e1,-,e2⟩:=l5 (by simpa using hq);obtain⟨t2,e3,-,e4⟩:=l5 (by simpa using hc);simp only[dL] at e2 e4 i3 ⊢;rw[e4,e2];have:=(i1.two e1 (by decide) (by decide) i2).two e3 (by decide) (by decide) i3
      simpa using this
  |term lv=>
   simp only[aj] at h ⊢;intro l7;split at h
   ·next h7=>
    rw[if_pos h7];exact ih .tight r d h
   ·next h7=>
    rw[if_neg h7];obtain⟨h1,h2⟩:=jk h;rw[h2] at h ⊢;have i1:=ih (.term (lv+1)) r d h1 (by omega);generalize aj n (.term (lv+1)) r d=A at *;have i2:=ih (.tloop lv A.1) (r.drop A.2.1) d h (by omega) _ i1;simp only[dL];rw[List.take_add];exact i2
  |tloop lv a=>
   simp only[aj] at h ⊢;intro l6 l hl;split at h
   ·next hn=>
    (try simp only[hn])
    simpa using hl
   ·next o ho=>
    (try simp only[ho])
    obtain⟨h1,h2⟩:=jk h;rw[h2] at h ⊢;have i1:=ih (.term (lv+1)) (r.drop 1) d h1 (by omega);generalize aj n (.term (lv+1)) (r.drop 1) d=A at *;simp only[dL] at h ⊢;obtain⟨t,e1,e2,e3,e4⟩:=NT ho l6;have i2:=ih (.tloop lv (.mk o iU [a,A.1])) (r.drop (1+A.2.1)) d h l6 _ (hl.two e1 e3 e4 i1);rw[List.take_add,Nat.add_comm 1 A.2.1];rw[Nat.add_comm 1 A.2.1] at i2;rw[e2,List.take_succ_cons,<-List.append_assoc];rw[e2] at i2
    simpa using i2
  |tight=>
   simp only[aj] at h ⊢;split at h
   ·next hb=>
    rw[if_pos hb];exact ih .post r d h
   ·next hb=>
    rw[if_neg hb];split at h
    ·simp[mh] at h
    ·next hd=>
     rw[if_neg hd];obtain⟨h1,h2⟩:=jk h;rw[h2];have i1:=ih .tight (r.drop 1) (d+1) h1;simp only[M9] at i1 ⊢;generalize aj n .tight (r.drop 1) (d+1)=A at *;simp only[dL]
     have hs:bO (r.drop 0) dE=true\/bO (r.drop 0) jL=true:=by
      rw[List.drop_zero];cases h1:bO r dE<;>cases h2:bO r jL
      ·exact absurd ⟨h1,h2⟩ hb
      all_goals simp
     obtain⟨x,m,hx⟩:∃x m,(r.drop 1).take A.2.1=x::m:=by
      cases hm:(r.drop 1).take A.2.1 with
      |nil=>rw[hm] at i1;have:=i1.f;cases this
      |cons x m=>exact⟨x,m,rfl⟩
     rcases hs with hs|hs
     ·obtain⟨t,e1,-,e2⟩:=l5 hs
      have e2:=e2 A.2.1;simp only[Nat.zero_add,List.take_zero,List.nil_append] at e2;rw[e2];refine⟨?_,?_,nS [t] i1.e⟩
      ·rw[hx] at i1 ⊢
       have hf:Hg x=true:=i1.f;simp only[uA,i1.c,DT,hf,l8 e1 (show dE≠rG by decide)];simp
      ·show Hg t=true
       unfold Hg;rw[bW,show bT t (av [33])=true from e1,Bool.true_or,Bool.or_true]
     ·obtain⟨t,e1,-,e2⟩:=l5 hs
      have e2:=e2 A.2.1;simp only[Nat.zero_add,List.take_zero,List.nil_append] at e2;rw[e2];refine⟨nY e1 (by decide) (by decide) i1.c,?_,nS [t] i1.e⟩;show Hg t=true;unfold Hg;rw[bW,bW,show bT t (av [45])=true from e1,Bool.true_or,Bool.or_true,Bool.or_true]
  |post=>
   simp only[aj] at h ⊢;obtain⟨h1,h2⟩:=jk h;rw[h2] at h ⊢;have i1:=ih .prime r d h1;simp only[M9] at i1 ⊢;generalize aj n .prime r d=A at *;have i2:=ih (.ploop A.1) (r.drop A.2.1) d h _ i1;simp only[dL];rw[List.take_add];exact i2
  |ploop a=>
   simp only[aj] at h ⊢;intro l hl;split at h
   ·next hdot=>
    rw[if_pos hdot];split at h
    ·exact absurd h mY
    ·next t q hq=>
     simp only[hq];split at h
     ·next hk=>
      rw[if_pos hk];obtain⟨t0,e1,e2,-⟩:=l5 (k:=0) (by rw[List.drop_zero];exact hdot);rw[List.drop_zero,Nat.zero_add,hq] at e2;have Ab:gy t=true:=by unfold gy;rw[decide_eq_true hk];rfl
      have Aa:qM (l++[t0,t]):=by
       refine hl.join ?_ (by show Dy t=true;unfold Dy;rw[Ab];rfl);simp only[uA,DT,decide_eq_true hk,l8 e1 (show rG≠dE by decide)];simp
      have i1:=ih (.ploop (.mk nR t.text [a])) (r.drop 2) d h _ Aa;simp only[dL];rw[List.take_add];rw[show r.take 2=[t0,t] by rw[e2];rfl]
      simpa using i1
     ·exact absurd h mY
   ·next hdot=>
    rw[if_neg hdot];split at h
    ·next hlb=>
     rw[if_pos hlb];split at h
     ·simp[mh] at h
     ·next hd=>
      rw[if_neg hd];obtain⟨h1,h2⟩:=jk h;rw[h2] at h ⊢;have i1:=ih .choice (r.drop 1) (d+1) h1;simp only[M9] at i1;generalize aj n .choice (r.drop 1) (d+1)=A at *
      by_cases hc:bO (r.drop (dL 1 A).2.1) pq=false
      ·rw[if_pos hc] at h;exact absurd h mY
      ·rw[if_neg hc] at h ⊢
       obtain⟨t0,e1,-,e2⟩:=l5 (k:=0) (by rw[List.drop_zero];exact hlb);obtain⟨t1,e3,-,e4⟩:=l5 (by simpa using hc);simp only[dL] at e4 h ⊢;have e2:=e2 A.2.1;simp only[Nat.zero_add,List.take_zero,List.nil_append] at e2;have Aa:=(hl.two e1 (by decide) (by decide) i1).shut e3 (.inr rfl);have i2:=ih (.ploop (.mk vV iU [a,A.1])) (r.drop (1+A.2.1+1)) d h _ Aa;rw[e4,e2]
       simpa using i2
    ·next hlb=>
     rw[if_neg hlb]
     simpa using hl
  |prime=>
   cases r with
   |nil=>simp only[aj] at h;exact absurd h mY
   |cons t r=>
    simp only[aj] at h ⊢;simp only[M9];split at h
    ·next h1=>
     rw[if_pos h1];have Ab:gy t=true:=by unfold gy;rw[decide_eq_true h1];rfl
     split at h
     ·next hp=>
      rw[if_pos hp];obtain⟨h3,h4⟩:=jk h;rw[h4];have hr:∀t' q,r=t'::q->bT t' AC=true\/bT t' AJ=true:=fun t' q e=>by subst e;exact .inl hp
      have i1:=(ih (.many ql) r d h3) (.inl rfl) hr (by rintro rfl;cases hp);generalize aj n (.many ql) r d=A at *;simp only[dL];rw[Nat.add_comm,List.take_succ_cons];have:=(qM.word Ab).join i1.2.c i1.2.e
      simpa using this
     ·next hp=>
      rw[if_neg hp];exact qM.word Ab
    ·next h1=>
     rw[if_neg h1];split at h
     ·next h2=>
      rw[if_pos h2];exact qM.word (by unfold gy;rw[decide_eq_true h2];simp)
     ·next h2=>
      rw[if_neg h2];split at h
      ·next h3=>
       rw[if_pos h3];split at h
       ·cases h
       ·next s hs=>
        simp only[hs];exact qM.word (by unfold gy;rw[decide_eq_true h3];simp)
      ·next h3=>
       rw[if_neg h3];split at h
       ·next h4=>
        rw[if_pos h4];obtain⟨h5,h6⟩:=jk h;rw[h6];have i1:=(ih (.many pq) (t::r) d h5) (.inr rfl) (fun t' q e=>by cases e;exact .inr h4) (by simp);generalize aj n (.many pq) (t::r) d=A at *;obtain⟨i0,i1⟩:=i1;obtain⟨k,hk⟩:∃k,A.2.1=k+1:=⟨A.2.1-1,by omega⟩;simp only;refine⟨i1.c,?_,i1.e⟩;rw[hk,List.take_succ_cons];show Hg t=true;unfold Hg;rw[bW,bW,bW,bW,show bT t (av [91])=true from h4];simp
       ·next h4=>
        rw[if_neg h4];split at h
        ·next h5=>
         rw[if_pos h5];split at h
         ·simp[mh] at h
         ·next h6=>
          rw[if_neg h6];obtain⟨h7,h8⟩:=jk h;rw[h8] at h ⊢;have i1:=ih .choice r (d+1) h7;simp only[M9] at i1;generalize aj n .choice r (d+1)=A at *
          by_cases hc:bO ((t::r).drop (dL 1 A).2.1) ql=false
          ·rw[if_pos hc] at h;exact absurd h mY
          ·rw[if_neg hc] at h ⊢
           obtain⟨t1,e3,-,e4⟩:=l5 (by simpa using hc);have e4:=e4 0;simp only[dL,Nat.add_zero,List.take_zero] at e4 ⊢;rw[e4,Nat.add_comm 1,List.take_succ_cons];have h9:=i1.shut e3 (.inl rfl);refine⟨?_,?_,?_⟩
           ·have:=AX (t:=t) (.inl h5) h9.c
            simpa using this
           ·show Hg t=true
            unfold Hg;rw[bW,bW,bW,show bT t (av [40])=true from h5];simp
           ·have:=nS [t] h9.e
            simpa using this
        ·exact absurd h mY
  |many s=>
   simp only[aj] at h ⊢;intro hs hr hne
   cases r with
   |nil=>exact absurd rfl hne
   |cons t q=>
    have ht:=hr t q rfl;split at h
    ·simp[mh] at h
    ·next hd=>
     rw[if_neg hd];split at h
     ·next hh=>
      rw[if_pos hh];obtain⟨t1,e1,e2,-⟩:=l5 hh;simp only[List.drop_succ_cons,List.drop_zero] at e2;refine⟨by simp,?_,?_⟩
      ·rw[e2]
       exact AX ht rfl
      ·rw[e2]
       show Dy t1=true;exact Ni e1 hs
     ·next hh=>
      rw[if_neg hh];have i1:=ih (.mloop s []) ((t::q).drop 1) d h hs;simp only[List.drop_succ_cons,List.drop_zero] at i1 ⊢;simp only[dL];rw[Nat.add_comm 1,List.take_succ_cons];exact⟨by omega,AX ht i1.c,nS [t] i1.e⟩
  |mloop s l=>
   simp only[aj] at h ⊢;intro hs;obtain⟨h1,h2⟩:=jk h;rw[h2] at h ⊢;have i1:=ih .choice r (d+1) h1;simp only[M9] at i1;generalize aj n .choice r (d+1)=A at *;split at h
   ·next hc=>
    rw[if_pos hc];obtain⟨t1,e1,-,e2⟩:=l5 hc;have i2:=ih (.mloop s (l++[A.1])) (r.drop (A.2.1+1)) d h hs;simp only[dL];rw[e2];exact i1.two e1 (by decide) (by decide) i2
   ·next hc=>
    rw[if_neg hc];split at h
    ·next h3=>
     rw[if_pos h3];obtain⟨t1,e1,-,e2⟩:=l5 h3;have e2:=e2 0;simp only[Nat.add_zero,List.take_zero] at e2;simp only;rw[e2];exact i1.shut e1 hs
    ·exact absurd h mY
end Go.Proofs.YtbcdaaobbebooaaGreatDoor
namespace Go.Proofs.YtbcdaaobbebooaaGreatDoor
def yQ(p:List ag):Bool:=match p with|t::_=>bT t ng|[]=>false
def uz(p:List ag):Bool:=match p.getLast? with|some t=>bT t rF|none=>false
def Jt(p:List ag):Bool:=match p with|_::e::_=>bT e Ca|_=>false
theorem Ll(r:List ag):kZ r=yQ (eu r):=rfl
theorem Ga(r:List ag):iK r=uz (eu r):=rfl
inductive yK:Nat->List ag->oW->Prop where
 |empty {n:Nat}:yK n [] .empty
 |fin {n:Nat} {t:ag} (h:bT t ng=true) (hn:n≠1):yK n [t] .fin
 |attr {n:Nat} {a e:ag} {q:List ag} {x:bP} (ha:a.kind=1) (he:bT e Ca=true) (hs:qM q):yK n (a::e::q) (.attr x)
 |begins {n:Nat} {a t:ag} {ls:List ag} {x:bP} (ha:a.kind=1) (hl:∀u∈ls,u.kind=3) (ht:bT t rF=true) (hn:n<=64):yK n (a::(ls++[t])) (.begins x)
 |bare {n:Nat} {a t u:ag} {ls:List ag} {x:bP} (ha:a.kind=1) (hl:∀u∈ls,u.kind=3) (ht:bT t rF=true) (hu:bT u ng=true) (hn:n<=64):yK n (a::(ls++[t,u])) (.bare x)
theorem Mg{q:List ag}(h:(gH q).2.2=0):qM (q.take (gH q).2.1):=by
 unfold gH at h ⊢;split at h
 ·cases h
 ·next h1=>
  rw[if_neg h1];split at h
  ·next h2=>rw[if_pos h2];exact PM _ .choice q 0 h2
  ·next h2=>exact absurd h h2
theorem Dc:∀r:List ag,∃ls,r=ls++r.drop (jr r).length/\(∀u∈ls,u.kind=3)/\ls.length=(jr r).length
 |[]=>⟨[],rfl,(fun u h=>by cases h),rfl⟩
 | t::r=>by
  by_cases h:t.kind=3
  ·obtain⟨ls,h1,h2,h3⟩:=Dc r
   refine⟨t::ls,?_,?_,?_⟩
   ·rw[jr,if_pos h,List.length_cons,List.drop_succ_cons,List.cons_append,<-h1]
   ·intro u hu
    rcases List.mem_cons.1 hu with rfl|hu
    ·exact h
    ·exact h2 u hu
   ·rw[jr,if_pos h,List.length_cons,List.length_cons,h3]
  ·exact⟨[],by rw[jr,if_neg h];rfl,(fun u h=>by cases h),by rw[jr,if_neg h];rfl⟩
theorem E5{r:List ag}{w:ByteArray}(h:bO r w=true):∃t q,r=t::q/\bT t w=true:=by
 cases r with
 |nil=>cases h
 |cons t q=>exact⟨t,q,rfl,h⟩
theorem wo(n:Nat)(p:List ag)(stop:Int)(last:Bool):(∃a e,e≠0/\bn n p stop last=.wrong a e)\/yK n p (bn n p stop last):=by
 cases p with
 |nil=>exact .inr .empty
 |cons t r=>
  simp only[bn];split
  ·next h1=>
   split
   ·exact .inl (eG _ _ _ _)
   ·next hn=>
    split
    ·exact .inl (eG _ _ _ _)
    ·next h2=>
     cases r with
     |nil=>exact .inr (.fin h1 hn)
     |cons u r=>simp at h2
  ·split
   ·exact .inl (eG _ _ _ _)
   ·next h1=>
    have ha:t.kind=1:=by omega
    split
    ·next he=>
     obtain⟨e,q,rfl,he⟩:=E5 he;unfold j3;simp only[List.drop_succ_cons,List.drop_zero,List.length_cons];split
     ·exact .inl (eG _ _ _ _)
     ·next hx=>
      split
      ·next h0=>
       have Af:=Mh q h0
       have hq:q.take (gH q).2.1=q:=List.take_of_length_le (by
        refine Nat.le_of_not_lt fun hlt=>hx (.inr ⟨h0,by omega⟩))
       have hs:=Mg h0;rw[hq] at hs;exact .inr (.attr ha he hs)
      ·next h0=>
       have hlt:=AR q h0 (fun e=>hx (.inl e))
       have Ab:(t::e::q)[2+(gH q).2.1]?=some q[(gH q).2.1]:=by
        rw[Nat.add_comm 2];simp only[List.getElem?_cons_succ];rw[List.getElem?_eq_getElem hlt]
       rw[Ab];exact .inl ⟨_,_,h0,rfl⟩
    ·next he=>
     unfold gL;obtain⟨ls,e1,e2,e3⟩:=Dc r;simp only[List.drop_succ_cons,List.drop_zero]
     have hd:∀k,(t::r).drop (1+(jr r).length+k)=(r.drop (jr r).length).drop k:=fun k=>by
      rw[show 1+(jr r).length+k=((jr r).length+k)+1 by omega,List.drop_succ_cons,List.drop_drop]
     have Ac:=hd 0;have Ae:=hd 1;rw[Nat.add_zero,List.drop_zero] at Ac
     have Aa:r.length=(jr r).length+(r.drop (jr r).length).length:=by
      have:=congrArg List.length e1;rw[List.length_append,e3] at this;exact this
     have Ad:r.drop (1+(jr r).length)=(r.drop (jr r).length).drop 1:=by rw[List.drop_drop,Nat.add_comm]
     rw[Ac]
     (try rw[Ad])
     generalize r.drop (jr r).length=q at *;split
     ·exact .inl (eG _ _ _ _)
     ·next h2=>
      obtain⟨b,q2,rfl,hb⟩:=E5 (r:=q) (w:=rF) (by simpa using h2);split
      ·have Ab:(t::r)[1+(jr r).length]?=some b:=by
        have:=congrArg List.head? Ac;rw[List.head?_drop] at this;exact this
       rw[Ab];exact .inl ⟨_,_,by decide,rfl⟩
      ·next h64=>
       have hn:n<=64:=by omega
       simp only[List.length_cons] at Aa ⊢;split
       ·next hl=>
        have:q2=[]:=List.eq_nil_of_length_eq_zero (by omega);subst this;rw[e1];exact .inr (.begins ha e2 hb hn)
       ·next hl=>
        split
        ·exact .inl (eG _ _ _ _)
        ·next h3=>
         obtain⟨c,q3,hq,hc⟩:=E5 (r:=(b::q2).drop 1) (w:=ng) (by simpa using h3);simp only[List.drop_succ_cons,List.drop_zero] at hq;subst hq;split
         ·exact .inl (eG _ _ _ _)
         ·next h4=>
          have:q3=[]:=List.eq_nil_of_length_eq_zero (by simp only[List.length_cons] at Aa;omega);subst this;rw[e1];exact .inr (.bare ha e2 hb hc hn)
theorem BK{t:ag}(h:t.kind=1):gy t=true:=by unfold gy;rw[decide_eq_true h];rfl
theorem JA{t:ag}(h:t.kind=3):gy t=true:=by unfold gy;rw[decide_eq_true h];simp
structure Pq(p:List ag)(r:oW):Prop where
 cl:yQ p=true↔r=.fin
 op:uz p=true↔∃x,r=.begins x
 at_:Jt p=true↔∃x,r=.attr x
 ch:uA p=true
 fin:r=.fin->∃t,p=[t]
theorem DJ{a:ag}{m:List ag}(hm:uA m=true):∀(ls:List ag),a.kind=1->(∀u∈ls,u.kind=3)->uA (a::(ls++m))=true:=by
 intro ls ha hl
 have hw:∀(ls:List ag) (a:ag),gy a=true->(∀u∈ls,u.kind=3)->uA (a::(ls++m))=true:=by
  intro ls
  induction ls with
  |nil=>
   intro a ha _
   cases m with
   |nil=>rfl
   |cons b m=>
    simp only[List.nil_append,uA,hm,Bool.and_true];exact Bw (by unfold Dy;rw[ha];rfl)
  |cons u ls ih=>
   intro a ha hl;simp only[List.cons_append,uA,Bool.and_eq_true];exact⟨Bw (by unfold Dy;rw[ha];rfl),ih u (JA (hl u (by simp))) (fun v hv=>hl v (by simp[hv]))⟩
 exact hw ls a (BK ha) hl
theorem uU(l:List ag)(a:ag):(l++[a]).getLast?=some a:=List.getLast?_concat
theorem yK.facts{n:Nat}{p:List ag}{r:oW}(h:yK n p r):Pq p r:=by
 cases h with
 |empty=>exact⟨by simp[yQ],by simp[uz],by simp[Jt],rfl,(fun h=>by cases h)⟩
 |fin h hn=>
  next t=>
  refine⟨by simp[yQ,h],?_,by simp[Jt],rfl,fun _=>⟨t,rfl⟩⟩;have:bT t rF=false:=l8 h (by decide);simp[uz,this]
 |attr ha he hs=>
  next a e q x=>
  have h1:yQ (a::e::q)=false:=nI (BK ha) _
  have h2:uz (a::e::q)=false:=by
   obtain⟨q0,t,rfl,ht⟩:=qM.last hs.e;unfold uz;rw[<-List.cons_append,<-List.cons_append,uU];exact Ld ht (by decide) (by decide)
  refine⟨by simp[h1],by simp[h2],by simp[Jt,he],?_,(fun h=>by cases h)⟩;have h3:=nY he (by decide) (by decide) hs.c;simp only[uA,h3,Bool.and_true];exact Bw (by unfold Dy;rw[BK ha];rfl)
 |begins ha hl ht hn=>
  next a t ls x=>
  have h1:yQ (a::(ls++[t]))=false:=nI (BK ha) _
  have h2:uz (a::(ls++[t]))=true:=by
   unfold uz;rw[<-List.cons_append,uU];exact ht
  refine⟨by simp[h1],by simp[h2],?_,DJ rfl ls ha hl,(fun h=>by cases h)⟩
  have h3:Jt (a::(ls++[t]))=false:=by
   cases ls with
   |nil=>exact l8 ht (by decide)
   |cons u ls=>exact nI (JA (hl u (by simp))) _
  simp[h3]
 |bare ha hl ht hu hn=>
  next a t u ls x=>
  have h1:yQ (a::(ls++[t,u]))=false:=nI (BK ha) _
  have h2:uz (a::(ls++[t,u]))=false:=by
   unfold uz;rw[show a::(ls++[t,u])=(a::(ls++[t]))++[u] by simp,uU];exact l8 hu (by decide)
  refine⟨by simp[h1],by simp[h2],?_,DJ ?_ ls ha hl,(fun h=>by cases h)⟩
  ·have h3:Jt (a::(ls++[t,u]))=false:=by
    cases ls with
    |nil=>exact l8 ht (by decide)
    |cons v ls=>exact nI (JA (hl v (by simp))) _
   simp[h3]
  ·exact nY ht (by decide) (by decide) rfl
theorem zH{st:List bP}{p:List ag}{stop:Int}{last:Bool}(h:(bB st p stop last).2.2=0)(hs:st≠[]) :
  ∃r,bn st.length p stop last=r/\yK st.length p r/\(bB st p stop last).1=(fQ st r).1/\
   (if yQ p then 2<=st.length else True)/\(bB st p stop last).1.length=(if yQ p then st.length-1 else st.length)+(if uz p then 1 else 0)/\(uz p=true->st.length<=64):=by
 have hl:=List.length_pos_iff.2 hs;rcases wo st.length p stop last with ⟨a,e,h1,h2⟩|hk
 ·rw[jO,h2] at h
  exact absurd h h1
 ·refine⟨_,rfl,hk,by rw[jO],?_⟩
  rw[jO] at h ⊢;have hf:=hk.facts
  have Aa:uz p=true->st.length<=64:=fun ho=>by
   obtain⟨x,hx⟩:=hf.op.1 ho;rw[hx] at hk
   cases hk with
   |begins _ _ _ hn=>exact hn
  refine⟨?_,?_,Aa⟩
  ·split
   ·next hc=>
    have hx:=hf.cl.1 hc;have:=qz hx;omega
   ·trivial
  ·obtain⟨f1,f2,-,-,-⟩:=hf
   generalize bn st.length p stop last=r at *
   cases r with
   |wrong a e=>cases hk
   |empty=>
    have c:yQ p=false:=by simpa using f1
    have o:uz p=false:=by simpa using f2
    rw[c,o];rfl
   |attr x=>
    have c:yQ p=false:=by simpa using f1
    have o:uz p=false:=by simpa using f2
    rw[c,o];simp[fQ,iF]
   |begins x=>
    have c:yQ p=false:=by simpa using f1
    have o:uz p=true:=f2.2 ⟨x,rfl⟩;rw[c,o];simp[fQ]
   |bare x=>
    have c:yQ p=false:=by simpa using f1
    have o:uz p=false:=by simpa using f2
    rw[c,o];simp[fQ,iF]
   |fin=>
    have c:yQ p=true:=f1.2 rfl;have o:uz p=false:=by simpa using f2
    rw[c,o];simp[fQ,iF]
def n0(t:ag):ag:=⟨t.kind,t.text,0⟩
theorem KC:KT n0:=fun _=>⟨rfl,rfl⟩
def PD(a b:oW):Prop:=(∃e x y,a=.wrong x e/\b=.wrong y e)\/a=b
theorem KM(f:ag->ag)(row:List ag)(s s2:Int)(last:Bool)(i:Nat):PD (eU (row.map f) s2 last i) (eU row s last i):=by
 unfold eU;rw[List.getElem?_map]
 cases row[i]? with
 |some t=>exact .inl ⟨_,_,_,rfl,rfl⟩
 |none=>cases last<;>exact .inl ⟨_,_,_,rfl,rfl⟩
theorem xX{f:ag->ag}(hf:KT f)(n:Nat)(row:List ag)(s s2:Int)(last:Bool):PD (bn n (row.map f) s2 last) (bn n row s last):=by
 cases row with
 |nil=>exact .inr rfl
 |cons t r=>
  have e1:=oD hf (t::r);have e2:=KM f (t::r) s s2 last;simp only[List.map_cons] at e1 e2;simp only[List.map_cons,bn,e1,oD hf,(hf t).1,(hf t).2,List.length_cons,List.length_map];split
  ·split
   ·exact e2 _
   ·split
    ·exact e2 _
    ·exact .inr rfl
  ·split
   ·exact e2 _
   ·split
    ·unfold j3
     rw[<-List.map_cons,<-List.map_drop,Kl hf,List.length_map,List.getElem?_map];split
     ·exact e2 _
     ·split
      ·exact .inr rfl
      ·cases (t::r)[2+(gH ((t::r).drop 2)).2.1]? with
       |some t=>exact .inl ⟨_,_,_,rfl,rfl⟩
       |none=>exact .inr rfl
    ·unfold gL
     rw[<-List.map_cons];simp only[<-List.map_drop,Db hf,oD hf,List.length_map,List.getElem?_map];split
     ·exact e2 _
     ·split
      ·cases (t::r)[1+(jr ((t::r).drop 1)).length]? with
       |some t=>exact .inl ⟨_,_,_,rfl,rfl⟩
       |none=>exact .inr rfl
      ·split
       ·exact .inr rfl
       ·split
        ·exact e2 _
        ·split
         ·exact e2 _
         ·exact .inr rfl
theorem KH{n:Nat}{row:List ag}{s s2:Int}{last last2:Bool}:(∃a e b e2,e≠0/\e2≠0/\bn n (row.map n0) s2 last2=.wrong a e/\bn n row s last=.wrong b e2)\/bn n (row.map n0) s2 last2=bn n row s last:=by
 rcases xW n row s s last last2 with h|⟨a,e,h1,h2⟩
 ·rcases xX KC n row s s2 last2 with ⟨e,x,y,h3,h4⟩|h3
  ·rcases wo n row s last2 with ⟨a,e',h5,h6⟩|h5
   ·rw[h4] at h6
    cases h6
    exact .inl ⟨_,_,_,_,h5,h5,h3,by rw[<-h,h4]⟩
   ·rw[h4] at h5;cases h5
  ·exact .inr (by rw[h3,h])
 ·rcases xW n row s s last2 last with h3|⟨b,e2,h3,h4⟩
  ·rcases xX KC n row s s2 last2 with ⟨e3,x,y,h5,h6⟩|h5
   ·rw[<-h3,h2] at h6
    cases h6
    exact .inl ⟨_,_,_,_,h1,h1,h5,h2⟩
   ·rw[<-h3,h2] at h5
    exact .inl ⟨_,_,_,_,h1,h1,h5,h2⟩
  ·rcases xX KC n row s s2 last2 with ⟨e3,x,y,h5,h6⟩|h5
   ·rw[h4] at h6
    cases h6
    exact .inl ⟨_,_,_,_,h3,h1,h5,h2⟩
   ·rw[h4] at h5
    exact .inl ⟨_,_,_,_,h3,h1,h5,h2⟩
theorem Ck(st:List bP)(row:List ag)(s s2:Int)(last last2:Bool):((bB st row s last).2.2=0↔(bB st (row.map n0) s2 last2).2.2=0)/\(bB st row s last).1=(bB st (row.map n0) s2 last2).1:=by
 rw[jO,jO];rcases KH (n:=st.length) (row:=row) (s:=s) (s2:=s2) (last:=last) (last2:=last2) with ⟨a,e,b,e2,h1,h2,h3,h4⟩|h
 ·rw[h3,h4]
  exact⟨⟨fun h=>absurd h h2,fun h=>absurd h h1⟩,rfl⟩
 ·rw[h];exact⟨Iff.rfl,rfl⟩
def rJ:List (List ag)->List bP->Option (List bP)
 |[],st=>some st
 |r::l,st=>if (bB st (eu r) 0 true).2.2=0 then rJ l (bB st (eu r) 0 true).1 else none
def y9(a:Bs):List ag:=(aY a 0).1.map n0
def jA(l:Bs):List (List ag):=(mF l).map y9
theorem wG(a:Bs)(p:Nat):(aY a p).1.map n0=y9 a/\((aY a p).2.2=(aY a 0).2.2):=by
 have h:=uP a.length a 0 p lz;rw[Nat.zero_add] at h;rw[h];refine⟨?_,rfl⟩;unfold y9;simp only[List.map_map];rfl
theorem xI(r:List ag):eu (r.map n0)=(eu r).map n0:=by
 unfold eu;rw[List.filter_map];rfl
theorem ww(a b:List ag):eu (a++b)=eu a++eu b:=List.filter_append ..
theorem nX(t:ag):dS t=true↔t.kind=6\/t.kind=7:=by unfold dS;simp
theorem CZ(size:Int)(t:ag)(r:List ag)(st:List bP)(row:List ag)(h5:t.kind≠5):bK size (t::r) st row=if t.kind=6\/t.kind=7 then bK size r st row else bK size r st (row++[t]):=by
 rw[bK,if_neg h5]
theorem vK(size:Int)(x:ByteArray)(q:Int)(tb:List ag):∀(ta:List ag) (st:List bP) (row:List ag),(∀t∈ta,t.kind≠5)->
  bK size (ta++⟨5,x,q⟩::tb) st row=if (bB st (row++eu ta) q false).2.2≠0 then ([],(bB st (row++eu ta) q false).2) else bK size tb (bB st (row++eu ta) q false).1 []
 | [],st,row,_=>by
  rw[List.nil_append,bK,if_neg (by show ¬((5:Int)=6\/(5:Int)=7);decide),if_pos rfl];simp[eu]
 | t::ta,st,row,h=>by
  have h5:=h t (by simp);have ih:=fun r=>vK size x q tb ta st r (fun u hu=>h u (by simp[hu]));rw[List.cons_append,bK]
  by_cases h6:t.kind=6\/t.kind=7
  ·rw[if_pos h6,ih,show eu (t::ta)=eu ta by unfold eu;rw[List.filter_cons_of_neg (by rw[(nX t).2 h6];decide)]]
  ·have hc:dS t=false:=by rw[<-Bool.not_eq_true];exact fun e=>h6 ((nX t).1 e)
   rw[if_neg h6,if_neg h5,ih,show eu (t::ta)=t::eu ta by unfold eu;rw[List.filter_cons_of_pos (by rw[hc];rfl)]];simp
theorem vL(size:Int):∀(ta:List ag) (st:List bP) (row:List ag),(∀t∈ta,t.kind≠5)->bK size ta st row=bK size [] st (row++eu ta)
 |[],st,row,_=>by simp[eu]
 | t::ta,st,row,h=>by
  have h5:=h t (by simp);have ih:=fun r=>vL size ta st r (fun u hu=>h u (by simp[hu]));rw[CZ size t ta st row h5]
  by_cases h6:t.kind=6\/t.kind=7
  ·rw[if_pos h6,ih,show eu (t::ta)=eu ta by unfold eu;rw[List.filter_cons_of_neg (by rw[(nX t).2 h6];decide)]]
  ·have hc:dS t=false:=by rw[<-Bool.not_eq_true];exact fun e=>h6 ((nX t).1 e)
   rw[if_neg h6,ih,show eu (t::ta)=t::eu ta by unfold eu;rw[List.filter_cons_of_pos (by rw[hc];rfl)]];simp
theorem ET(size:Int)(l:Bs):∀(p:Nat) (st:List bP),(aY l p).2.2=0->st≠[]->
  ((bK size (aY l p).1 st []).2.2=0/\∃x,rJ (jA l) st=some [x]/\bK size (aY l p).1 st []=(x.items,-1,0))\/((bK size (aY l p).1 st []).2.2≠0/\∀x,rJ (jA l) st≠some [x]):=by
 refine Bu (P:=fun l=>∀(p:Nat) (st:List bP),(aY l p).2.2=0->st≠[]->
  ((bK size (aY l p).1 st []).2.2=0/\∃x,rJ (jA l) st=some [x]/\bK size (aY l p).1 st []=(x.items,-1,0))\/((bK size (aY l p).1 st []).2.2≠0/\∀x,rJ (jA l) st≠some [x])) ?_ ?_ l
 ·intro a ha p st h hs
  rw[vL _ _ _ _ (iC a.length a p lz ha),List.nil_append,bK];unfold jA;rw[um a ha,List.map_singleton,rJ,rJ];have hn:=Ck st (eu (aY a p).1) size 0 true true;rw[<-xI,(wG a p).1] at hn;have Aa:=pu hs (eu (y9 a)) 0 true;rw[hn.2]
  by_cases h0:(bB st (eu (aY a p).1) size true).2.2=0
  ·rw[if_neg (fun q=>q h0),if_pos (hn.1.1 h0)]
   generalize (bB st (eu (y9 a)) 0 true).1=S at *
   match S,Aa with
   |[x],_=>exact .inl ⟨rfl,x,rfl,rfl⟩
   |x::y::S,_=>exact .inr ⟨by simp,fun z hz=>by simp at hz⟩
  ·rw[if_pos h0,if_neg (fun q=>h0 (hn.1.2 q))]
   exact .inr ⟨h0,fun z hz=>by cases hz⟩
 ·intro a b ha ih p st h hs
  obtain⟨h1,h2,h3⟩:=uQ a b p h;rw[h3];simp only;rw[vK _ _ _ _ _ _ _ (iC a.length a p lz ha),List.nil_append];unfold jA;rw[wJ a b ha,List.map_cons,rJ];have hn:=Ck st (eu (aY a p).1) ((p+a.length:Nat):Int) 0 false true;rw[<-xI,(wG a p).1] at hn;have Aa:=pu hs (eu (y9 a)) 0 true
  by_cases h0:(bB st (eu (aY a p).1) ((p+a.length:Nat):Int) false).2.2=0
  ·rw[if_neg (fun q=>q h0),if_pos (hn.1.1 h0),hn.2]
   exact ih _ _ h2 Aa
  ·rw[if_pos h0,if_neg (fun q=>h0 (hn.1.2 q))]
   exact .inr ⟨h0,fun z hz=>by cases hz⟩
theorem ES(l:Bs):((dK l).2.2=0/\(aY l 0).2.2=0/\∃x,rJ (jA l) [bY]=some [x]/\dK l=(x.items,-1,0))\/((dK l).2.2≠0/\((aY l 0).2.2=0->∀x,rJ (jA l) [bY]≠some [x])):=by
 by_cases h:(aY l 0).2.2=0
 ·rw[zR h]
  rcases ET l.length l 0 [bY] h (by simp) with ⟨h1,h2⟩|⟨h1,h2⟩
  ·exact .inl ⟨h1,h,h2⟩
  ·exact .inr ⟨h1,fun _=>h2⟩
 ·rw[xV h]
  exact .inr ⟨h,fun q=>absurd q h⟩
end Go.Proofs.YtbcdaaobbebooaaGreatDoor
namespace Go.Proofs.YtbcdaaobbebooaaGreatDoor
open Go.RowKit Go.Tab
def Gb(n:Nat)(r:List ag):Nat:=(if kZ r then n-1 else n)+(if iK r then 1 else 0)
def Ht:List (List ag)->Nat->Prop
 |[],_=>True
 |r::l,n=>(kZ r=true->1<=n)/\Gb n r<=64/\Ht l (Gb n r)
theorem yC{n:Nat}{r:List ag}(h:kZ r=true->1<=n):dR n r=((if kZ r then n-1 else n:Nat):Int):=by
 unfold dR
 cases hc:kZ r with
 |true=>have:=h hc;simp;omega
 |false=>simp
theorem xO{n:Nat}{r:List ag}(h:kZ r=true->1<=n):dD n r=(Gb n r:Int):=by
 unfold dD Gb;rw[yC h];cases iK r<;>simp
theorem zC:∀(l:List (List ag)) (st S:List bP),st≠[]->st.length<=65->rJ l st=some S->Ht l (st.length-1)/\∀r∈l,kZ r=true->iK r=false
 |[],st,S,_,_,_=>⟨trivial,fun r h=>by cases h⟩
 | r::l,st,S,hs,hst,h=>by
  rw[rJ] at h
  by_cases h0:(bB st (eu r) 0 true).2.2=0
  ·rw[if_pos h0] at h
   obtain⟨r',h1,h2,h3,h4,h5,h6⟩:=zH h0 hs;have hl:=List.length_pos_iff.2 hs
   have hx:(bB st (eu r) 0 true).1.length-1=Gb (st.length-1) r:=by
    rw[h5];unfold Gb;rw[Ll,Ga];cases hc:yQ (eu r)<;>cases ho:uz (eu r)<;>simp[hc] at h4 ⊢<;>omega
   have Aa:0<(bB st (eu r) 0 true).1.length/\(bB st (eu r) 0 true).1.length<=65:=by
    rw[h5];cases hc:yQ (eu r)<;>cases ho:uz (eu r)<;>simp[hc,ho] at h4 h6 ⊢<;>omega
   obtain⟨i1,i2⟩:=zC l _ S (List.length_pos_iff.1 Aa.1) Aa.2 h;rw[hx] at i1
   have Ab:kZ r=true->iK r=false:=by
    intro hc;rw[Ll] at hc;obtain⟨t,ht⟩:=h2.facts.fin (h2.facts.cl.1 hc);rw[Ga,ht];rw[ht] at hc
    cases hq:uz [t] with
    |false=>rfl
    |true=>
     simp only[yQ,uz] at hc hq;have hc:bT t ng=true:=by simpa using hc
     have hq:bT t rF=true:=by simpa using hq
     have:=l8 (v:=ng) (w:=rF) hc (by decide);rw[hq] at this;cases this
   refine⟨⟨fun hc=>?_,by rw[<-hx];omega,i1⟩,fun q hq=>?_⟩
   ·rw[Ll] at hc
    rw[hc] at h4;simp at h4
    omega
   ·rcases List.mem_cons.1 hq with rfl|hq
    ·exact Ab
    ·exact i2 q hq
  ·rw[if_neg h0] at h;cases h
theorem zF:∀(l:List (List ag)) (n:Nat) (x:List ag) (q:List (List ag)),Ht l n->dZ l=x::q->(kZ x=true->1<=n)/\Gb n x<=64/\Ht q (Gb n x)
 |[],n,x,q,_,h=>by cases h
 | []::l,n,x,q,hr,h=>by
  rw[dZ] at h;exact zF l n x q hr.2.2 h
 | (t::r)::l,n,x,q,hr,h=>by
  rw[dZ] at h;cases h
  exact hr
theorem Gm{t:ag}{v:ByteArray}(h:bT t v=true):dS t=false:=by
 cases hc:dS t with
 |false=>rfl
 |true=>
  have:=(nX t).1 hc;unfold bT at h;simp at h
  omega
theorem yg{r:List ag}(h:gY r=true):iK r=true/\eu r≠[]:=by
 unfold gY at h
 cases hg:r.getLast? with
 |none=>rw[hg] at h;cases h
 |some t=>
  rw[hg] at h
  obtain⟨l,rfl⟩:∃l,r=l++[t]:=by
   have Aa:r≠[]:=by rintro rfl;cases hg
   rw[List.getLast?_eq_some_getLast Aa] at hg;exact⟨r.dropLast,by rw[<-Option.some.inj hg,List.dropLast_concat_getLast]⟩
  have hp:eu (l++[t])=eu l++[t]:=by rw[ww];simp[eu,Gm h]
  unfold iK;rw[hp,List.getLast?_concat];exact⟨h,by simp⟩
theorem Di{r:List ag}(h:l9 r=true):kZ r=true/\eu r≠[]:=by
 cases r with
 |nil=>cases h
 |cons t q=>
  have h:bT t ng=true:=h;have hp:eu (t::q)=t::eu q:=by simp[eu,Gm h]
  unfold kZ;rw[hp];exact⟨h,by simp⟩
theorem MW{a b:List ag}(h:eu a≠[]):kZ (a++b)=kZ a:=by
 unfold kZ;rw[ww]
 cases hp:eu a with
 |nil=>exact absurd hp h
 |cons t q=>rfl
theorem Mi{a b:List ag}(h:eu b≠[]):iK (a++b)=iK b:=by
 unfold iK;rw[ww,List.getLast?_append]
 cases hp:(eu b).getLast? with
 |none=>exact absurd (List.getLast?_eq_none_iff.1 hp) h
 |some t=>rfl
theorem A8:∀(f:Nat) (gap:Bool) (l:List (List ag)) (n:Nat) (pv:Option Bool),Ht l n->(∀r∈l,kZ r=true->iK r=false)->n<=64->∀q∈mE (fU f gap l) n pv,0<=q.dep/\q.dep<=64
 |0,_,l,n,pv,_,_,_,q,hq=>by cases hq
 |f+1,_,[],n,pv,_,_,_,q,hq=>by cases hq
 | f+1,gap,[]::l,n,pv,hr,hc,hn,q,hq=>by
  rw[fU] at hq;exact A8 f true l n pv hr.2.2 (fun r h=>hc r (by simp[h])) hn q hq
 | f+1,gap,(t::r)::l,n,pv,hr,hc,hn,q,hq=>by
  rw[fU,mE] at hq;simp only at hq
  have key:∃n2 l2,pV (t::r) l=((pV (t::r) l).1,l2)/\dD n (pV (t::r) l).1=((n2:Nat):Int)/\n2<=64/\Ht l2 n2/\(∀r∈l2,kZ r=true->iK r=false)/\kZ (pV (t::r) l).1=kZ (t::r):=by
   unfold pV
   by_cases hl:gY (t::r)=true
   ·rw[if_pos hl]
    cases hd:dZ l with
    |nil=>exact⟨Gb n (t::r),l,rfl,xO hr.1,hr.2.1,hr.2.2,fun r h=>hc r (by simp[h]),rfl⟩
    |cons x q2=>
     simp only
     by_cases hh:l9 x=true
     ·rw[if_pos hh]
      obtain⟨d1,d2,d3⟩:=zF l _ x q2 hr.2.2 hd;obtain⟨o1,o2⟩:=yg hl;obtain⟨c1,c2⟩:=Di hh;have Ab:x∈l:=(mg hd).2.2 x (.inl rfl);have ox:iK x=false:=hc x (by simp[Ab]) c1;have Aa:=MW (a:=t::r) (b:=x) o2;refine⟨Gb (Gb n (t::r)) x,q2,rfl,?_,d2,d3,fun r h=>hc r (by simp[(mg hd).2.2 r (.inr h)]),Aa⟩;unfold dD;rw[Mi c2,ox];have:dR n (t::r++x)=dR n (t::r):=by unfold dR;rw[Aa]
      rw[if_neg (by simp),this,yC hr.1];unfold Gb;rw[o1,c1,ox];simp
     ·rw[if_neg hh]
      exact⟨Gb n (t::r),l,rfl,xO hr.1,hr.2.1,hr.2.2,fun r h=>hc r (by simp[h]),rfl⟩
   ·rw[if_neg hl]
    exact⟨Gb n (t::r),l,rfl,xO hr.1,hr.2.1,hr.2.2,fun r h=>hc r (by simp[h]),rfl⟩
  obtain⟨n2,l2,e1,e2,h1,h2,h3,h4⟩:=key;rw[e1] at hq;simp only[e2] at hq;rcases List.mem_append.1 hq with hq|hq
  ·split at hq
   ·rw[List.mem_singleton.1 hq];exact⟨by decide,by decide⟩
   ·cases hq
  ·rcases List.mem_cons.1 hq with rfl|hq
   ·simp only
    have:dR n (pV (t::r) l).1=dR n (t::r):=by unfold dR;rw[h4]
    rw[this,yC hr.1];cases kZ (t::r)<;>simp<;>omega
   ·exact A8 f false l2 n2 _ h2 h3 h1 q hq
end Go.Proofs.YtbcdaaobbebooaaGreatDoor
