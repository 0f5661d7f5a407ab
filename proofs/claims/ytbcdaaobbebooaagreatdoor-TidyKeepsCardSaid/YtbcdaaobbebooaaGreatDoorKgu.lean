import Derived.Test.YtbcdaaobbebooaaGreatDoorKgt
set_option linter.unusedSimpArgs false
set_option linter.unusedVariables false
set_option maxRecDepth 100000
set_option maxHeartbeats 20000000
namespace Go.Proofs.YtbcdaaobbebooaaGreatDoor
open Go.RowKit Go.Tab
theorem Ae:∀D:Bs,(∀n,fD (D.take (bR D))=some n->fD D=some n/\(D.take n).contains 10=false)/\(fD (D.take (bR D))=none->fD D=none\/∃n,fD D=some n/\(D.take n).contains 10=true)
 |[]=>⟨(fun n h=>by cases h),fun _=>.inl rfl⟩
 | c::D=>by
  obtain⟨h1,h2⟩:=Ae D
  by_cases hc:c=10
  ·subst hc
   rw[bR,if_pos rfl,List.take_zero];refine⟨(fun n h=>by cases h),fun _=>?_⟩;rw[fD,if_neg (by rintro⟨h,-⟩;revert h;decide)]
   cases hd:fD D with
   |none=>exact .inl rfl
   |some n=>exact .inr ⟨n+1,rfl,by simp⟩
  ·rw[bR,if_neg hc,List.take_succ_cons]
   have hh:(D.take (bR D)).head?=some 47↔D.head?=some 47:=by
    cases D with
    |nil=>simp
    |cons d D=>
     rw[bR]
     by_cases hd:d=10
     ·subst hd;simp
     ·rw[if_neg hd];simp
   rw[fD,fD]
   by_cases hcc:c=42/\D.head?=some 47
   ·rw[if_pos ⟨hcc.1,hh.2 hcc.2⟩,if_pos hcc]
    exact⟨fun n h=>by cases h;exact⟨rfl,by simp⟩,fun h=>by cases h⟩
   ·rw[if_neg (fun h=>hcc ⟨h.1,hh.1 h.2⟩),if_neg hcc]
    have Ab:(c==10)=false:=by simpa using hc
    have Aa:((10:UInt8)==c)=false:=by simpa using fun e:(10:UInt8)=c=>hc e.symm
    refine⟨fun n h=>?_,fun h=>?_⟩
    ·obtain⟨m,hm,rfl⟩:=Option.map_eq_some_iff.1 h
     obtain⟨h3,h4⟩:=h1 m hm;rw[h3];exact⟨rfl,by rw[List.take_succ_cons,List.contains_cons,h4,Aa];rfl⟩
    ·rcases h2 (Option.map_eq_none_iff.1 h) with h3|⟨n,h3,h4⟩
     ·left;rw[h3];rfl
     ·right;rw[h3]
      exact⟨n+1,rfl,by rw[List.take_succ_cons,List.contains_cons,h4];simp⟩
theorem FV{c d:UInt8}{D:Bs}(hc:c≠10)(hd:d≠10) :
  (∀n,fD (D.take (bR D))=some n->dS (c::d::D)=fP ((c::d::D).take (n+4)) 7)/\(fD (D.take (bR D))=none->dS (c::d::D)=.bad 0 2):=by
 obtain⟨h1,h2⟩:=Ae D;have Aa:((10:UInt8)==c)=false:=by simpa using fun e:(10:UInt8)=c=>hc e.symm
 have Ab:((10:UInt8)==d)=false:=by simpa using fun e:(10:UInt8)=d=>hd e.symm
 have ht:∀n,((c::d::D).take (n+2)).contains 10=(D.take n).contains 10:=by
  intro n;rw[List.take_succ_cons,List.take_succ_cons,List.contains_cons,List.contains_cons,Aa,Ab,Bool.false_or,Bool.false_or]
 refine⟨fun n h=>?_,fun h=>?_⟩
 ·obtain⟨h3,h4⟩:=h1 n h
  unfold dS;simp only[List.drop_succ_cons,List.drop_zero];rw[h3];simp only;rw[ht,h4,if_neg (by simp)]
 ·unfold dS
  simp only[List.drop_succ_cons,List.drop_zero];rcases h2 h with h3|⟨n,h3,h4⟩
  ·rw[h3]
  ·rw[h3]
   simp only;rw[ht,h4,if_pos rfl]
theorem Af:∀(E:Bs) (t:Nat),(∀j,j<t->([42,47]:Bs).isPrefixOf (E.drop j)=false)->([42,47]:Bs).isPrefixOf (E.drop t)=true->fD E=some t
 |[],t,_,h=>by simp[List.isPrefixOf] at h
 | c::E,0,_,h=>by
  rw[List.drop_zero,yV] at h;rw[fD,if_pos (by simpa using h)]
 | c::E,t+1,h1,h=>by
  have h0:=h1 0 (by omega);rw[List.drop_zero,yV] at h0;rw[fD,if_neg (by simpa using h0),Af E t (fun j hj=>by have:=h1 (j+1) (by omega);simpa using this) (by simpa using h)];rfl
theorem GR:∀(E:Bs),(∀j,j<E.length->([42,47]:Bs).isPrefixOf (E.drop j)=false)->fD E=none
 |[],_=>rfl
 | c::E,h1=>by
  have h0:=h1 0 (by simp);rw[List.drop_zero,yV] at h0;rw[fD,if_neg (by simpa using h0),GR E (fun j hj=>by have:=h1 (j+1) (by simp;omega);simpa using this)];rfl
theorem II(s:ByteArray)(k:Nat)(w:World)(hs:s.size<=1048576)(hk:k<s.size)(hc:s[k]'hk=47)(hr:(s.data.toList.drop (k+1)).head?=some 42) :
  Calls Tryz.prog 46 #[.string s,.int .i64 (k:Nat)] w (yK w s k (dS (s.data.toList.drop k))):=by
 have hd:=eG hk;rw[hc] at hd
 obtain⟨D,hD⟩:∃D,s.data.toList.drop (k+1)=42::D:=by
  cases hq:s.data.toList.drop (k+1) with
  |nil=>rw[hq] at hr;cases hr
  |cons d D=>rw[hq] at hr;simp at hr;subst hr;exact⟨D,rfl⟩
 rw[hD] at hd
 have Aj:s.data.toList.drop (k+2)=D:=by
  have:=congrArg (List.drop 1) hD;rw[List.drop_drop] at this
  simpa using this
 have Aq:D.length=s.size-(k+2):=by rw[<-Aj,List.length_drop,<-au]
 have A8:k+2<=s.size:=by have:=congrArg List.length hD;rw[List.length_drop,<-au,List.length_cons] at this;omega
 obtain⟨ln,Ag⟩:∃ln,bR D=ln:=⟨_,rfl⟩;have Ao:=pG D;rw[Ag,Aq] at Ao;have hE:=fun W=>GQ s k W (by omega) (by omega);rw[hd,bR,if_neg (by decide),bR,if_neg (by decide),Ag] at hE;have Al:=fun W=>rR s k ⟨#[47,47]⟩ W (by omega) (by omega) (by decide);rw[hd,show (⟨#[47,47]⟩:ByteArray).data.toList.isPrefixOf (47::42::D)=false from rfl] at Al;have Am:=fun W=>rR s k ⟨#[47,42]⟩ W (by omega) (by omega) (by decide);rw[hd,show (⟨#[47,42]⟩:ByteArray).data.toList.isPrefixOf (47::42::D)=true from rfl] at Am;obtain⟨Ah,Ai⟩:=FV (c:=47) (d:=42) (D:=D) (by decide) (by decide);rw[Ag] at Ah Ai;rw[hd]
 have A6:∀t W,t<=ln->Calls Tryz.prog 84 #[.string (s.extract 0 (k+2+ln)),.int .i64 ((k+2+t:Nat):Int),.string ⟨#[42,47]⟩] W fun e w'=>e=.returned (.bool (([42,47]:Bs).isPrefixOf ((D.take ln).drop t)))/\W=w':=fun t W ht=>by
  have h:=rR (s.extract 0 (k+2+ln)) (k+2+t) ⟨#[42,47]⟩ W (by rw[kI (by omega)];omega) (by rw[kI (by omega)];omega) (by decide);rw[nL] at h
  have e:(s.data.toList.take (k+2+ln)).drop (k+2+t)=(D.take ln).drop t:=by
   rw[<-List.drop_drop,<-Aj]
   congr 1
   rw[List.drop_take];congr 1;omega
  rw[e] at h;exact h
 have Ap:∀t W,t+2<=ln->Calls Tryz.prog 86 #[.string s,.int .i64 (k:Nat),.int .i64 ((k+2+t+2:Nat):Int),.int .i64 ((7:Nat):Int)] W (Au W (xF s k (fP ((47::42::D).take (t+4)) 7)).1 (xF s k (fP ((47::42::D).take (t+4)) 7)).2.1 (xF s k (fP ((47::42::D).take (t+4)) 7)).2.2):=fun t W ht=>by
  have h:=uY s k (k+2+t+2) 7 W hs (by omega) (by omega)
  have e:(s.data.toList.take (k+2+t+2)).drop k=(47::42::D).take (t+4):=by
   rw[<-hd,List.drop_take];congr 1;omega
  rw[e] at h;exact h
 have Ak:(D.take ln).length=ln:=by rw[List.length_take];omega
 have Az:∀t,([42,47]:Bs).isPrefixOf ((D.take ln).drop t)=true->t+2<=ln:=by
  intro t ht;have:=(List.isPrefixOf_iff_prefix.1 ht).length_le;rw[List.length_drop,Ak] at this;simp at this;omega
 have Ab:=iw 47;rw[show jO 47=false from rfl] at Ab;have A9:(s[k]'hk).toNat=47:=by rw[hc];rfl
 have A1:=Hh Ap;have HA:=Jh Ah Ai;have A5:=Hh Az;have A2:=Hh Ak;clear hd hD Aj Aq Ag hr Ap Az Ak hc Ah Ai;generalize hW:(47::42::D:Bs)=W0 at *;generalize D.take ln=E at *;clear hW;have hb:Below w.heap.size w (w.alloc (.cells #[.slice none 0 0,.int .i64 0,.int .i64 0] 38)):=(Below.refl _ w).alloc lz _;have Ac:=ae.new w #[.slice none 0 0,.int .i64 0,.int .i64 0] 38;have HH:=Jh hb Ac;clear hb Ac;go_enter Tryz.func46,Tryz.ntmps46;go_wp2_with fail;refine (Ab _).mono ?_;rintro _ _ ⟨rfl,hw1⟩;cases hw1
 go_wp2_with fail;refine (Al _).mono ?_;rintro _ _ ⟨rfl,hw1⟩;cases hw1
 go_wp2_with fail;refine (Am _).mono ?_;rintro _ _ ⟨rfl,hw1⟩;cases hw1
 go_wp2_with fail;refine (hE _).mono ?_;rintro _ _ ⟨rfl,hw1⟩;cases hw1
 rw[show ((k+(ln+1+1):Nat):Int)=((k+2+ln:Nat):Int) by omega];clear Ab Al Am hE;go_wp2_with fail;go_loop [12] (fun n=>∃t:Nat,n=.int .i64 ((k+2+t:Nat):Int)/\t<=ln/\∀j,j<t->([42,47]:Bs).isPrefixOf (E.drop j)=false) (fun n=>s.size-(intOf n).toNat)
 case atStart=>exact⟨0,by congr 1,Nat.zero_le _,fun j hj=>by omega⟩
 case round=>
  obtain⟨t,rfl,ht,Ay⟩:=hrel;have HN:=Hh Ay;clear Ay
  by_cases hlt:t<ln
  ·have hI:=fun W=>A6 t W ht
   cases hp:([42,47]:Bs).isPrefixOf (E.drop t) with
   |true=>
    rw[hp] at hI;have Ad:=HA.out.1 t (Af E t HN.out hp);have hC:=A1.out t (w.alloc (.cells #[.slice none 0 0,.int .i64 0,.int .i64 0] 38)) (A5.out t hp);rw[Ad];rw[show ((k+2+t+2:Nat):Int)=((k+2+t:Nat):Int)+2 by omega] at hC;unfold yK;obtain⟨⟨tl,ta,te⟩,hx⟩:∃x,xF s k (fP (W0.take (t+4)) 7)=x:=⟨_,rfl⟩;rw[hx] at hC ⊢;simp only at hC ⊢;clear hx Ad hp;go_wp2_with fail;refine (hI _).mono ?_;rintro _ _ ⟨rfl,hw1⟩;cases hw1
    go_wp2_with fail;obtain⟨hb,Ac⟩:=HH.out;refine (hC).mono ?_;rintro _ w2 ⟨v,rfl,hown,hb2⟩;obtain⟨An,Aa,Ae,-⟩:=jA (a:=ta) (e:=te) hb Ac hb2.size hown hb2;obtain⟨va,vc,A0⟩:=hown.len
    (try simp only[List.length_cons,List.length_nil,Nat.zero_add] at A0)
    subst A0;have AA:=An.lt;have HX:=Jh Aa (And.intro Ae An);clear hown hb2 Aa Ae hb Ac;obtain⟨Ar,Av,As,Aw,At,Ax⟩:=An.n3 rfl;go_wp2;obtain⟨Aa,Ae,A7⟩:=HX.out;have hq:=((A7.setI 0 (.slice va tl.length vc)).setI 1 (.int .i64 ta)).setI 2 (.int .i64 te);obtain⟨hx,hy,hz⟩:=hq.m3 rfl;refine bodyPost_ret (v:=.agg #[.slice va tl.length vc,.int .i64 ta,.int .i64 te]) (by simp[results,Tryz.results46,go_sem,hx,hy,hz]) rfl ?_;exact⟨_,rfl,Aa,Ae⟩
   |false=>
    rw[hp] at hI
    have A4:Hid (∀j,j<t+1->([42,47]:Bs).isPrefixOf (E.drop j)=false):=Hh (fun j hj=>by
     by_cases h:j=t
     ·subst h;exact hp
     ·exact HN.out j (by omega))
    clear hp;go_wp2_with fail;refine (hI _).mono ?_;rintro _ _ ⟨rfl,hw1⟩;cases hw1
    go_wp2;go_round
    case rel=>exact⟨t+1,by go_num,by omega,A4.out⟩
    case measure=>simp[intOf];omega
  ·obtain rfl:t=ln:=by omega
   have Ad:=HA.out.2 (GR E (by rw[A2.out];exact HN.out));have A3:=Hh Ad;clear Ad;go_wp2;have hq:=ae.new w #[.slice none 0 0,.int .i64 (k:Nat),.int .i64 2] 38;obtain⟨hx,hy,hz⟩:=hq.m3 rfl;refine bodyPost_ret (v:=.agg #[.slice none 0 0,.int .i64 (k:Nat),.int .i64 2]) (by simp[results,Tryz.results46,go_sem,hx,hy,hz]) rfl ?_;rw[A3.out];exact⟨_,by simp[xF],aO.nil,(Below.refl _ w).alloc lz _⟩
theorem NT(j:Nat)(h:j<ni.length):([(⟨#[61]⟩:ByteArray),(⟨#[60]⟩:ByteArray),(⟨#[62]⟩:ByteArray),(⟨#[43]⟩:ByteArray),(⟨#[45]⟩:ByteArray),(⟨#[42]⟩:ByteArray),(⟨#[47]⟩:ByteArray),(⟨#[37]⟩:ByteArray),(⟨#[33]⟩:ByteArray),(⟨#[63]⟩:ByteArray),(⟨#[58]⟩:ByteArray),(⟨#[44]⟩:ByteArray),(⟨#[46]⟩:ByteArray),(⟨#[40]⟩:ByteArray),(⟨#[41]⟩:ByteArray),(⟨#[91]⟩:ByteArray),(⟨#[93]⟩:ByteArray),(⟨#[123]⟩:ByteArray),(⟨#[125]⟩:ByteArray)]:List ByteArray)[j]'(by exact h)=⟨#[ni[j]'h]⟩:=by
 have Aa:∀i:Fin 19,([(⟨#[61]⟩:ByteArray),(⟨#[60]⟩:ByteArray),(⟨#[62]⟩:ByteArray),(⟨#[43]⟩:ByteArray),(⟨#[45]⟩:ByteArray),(⟨#[42]⟩:ByteArray),(⟨#[47]⟩:ByteArray),(⟨#[37]⟩:ByteArray),(⟨#[33]⟩:ByteArray),(⟨#[63]⟩:ByteArray),(⟨#[58]⟩:ByteArray),(⟨#[44]⟩:ByteArray),(⟨#[46]⟩:ByteArray),(⟨#[40]⟩:ByteArray),(⟨#[41]⟩:ByteArray),(⟨#[91]⟩:ByteArray),(⟨#[93]⟩:ByteArray),(⟨#[123]⟩:ByteArray),(⟨#[125]⟩:ByteArray)]:List ByteArray)[i.val]'i.isLt=⟨#[ni[i.val]'i.isLt]⟩:=by decide
 exact Aa ⟨j,h⟩
theorem Om(j:Nat)(h:j<kS.length):(kS.map ay)[j]'(by rw[List.length_map];exact h)=ay (kS[j]'h):=List.getElem_map ay
theorem LU{l:List Bs}{p:Bs->Bool}{j:Nat}(h:j<l.length):(l.drop j).any p=(p l[j] || (l.drop (j+1)).any p):=by
 rw[List.drop_eq_getElem_cons h,List.any_cons]
theorem Ky(s:ByteArray)(k:Nat)(w:World)(hs:s.size<=1048576)(hk:k<s.size)(h10:s[k]'hk≠10)(hl:jO (s[k]'hk)=false)(hg:dg (s[k]'hk)=false)(h34:s[k]'hk≠34)(h35:s[k]'hk≠35)
  (h47:¬(s[k]'hk=47/\(s.data.toList.drop (k+1)).head?=some 47)) (h42:¬(s[k]'hk=47/\(s.data.toList.drop (k+1)).head?=some 42)) :
  Calls Tryz.prog 46 #[.string s,.int .i64 (k:Nat)] w (yK w s k (if zw (s.data.toList.drop k)=0 then .bad 0 3 else .tok 4 (zw (s.data.toList.drop k)))):=by
 have hd:=eG hk;have AH:=eY h10 (m:=10) rfl;have AI:=eY h34 (m:=34) rfl;have AJ:=eY h35 (m:=35) rfl;have Ay:=iw (s[k]'hk);rw[hl] at Ay
 have A0:(s[k]'hk).toNat<48\/(48<=(s[k]'hk).toNat/\57<(s[k]'hk).toNat):=by
  have:¬(48<=(s[k]'hk).toNat/\(s[k]'hk).toNat<=57):=by simpa [dg,Jm] using hg
  omega
 have Aw:=fun W=>rR s k ⟨#[47,47]⟩ W (by omega) (by omega) (by decide);rw[hd,show (⟨#[47,47]⟩:ByteArray).data.toList=[47,47] from rfl,yV,decide_eq_false h47] at Aw;have Ax:=fun W=>rR s k ⟨#[47,42]⟩ W (by omega) (by omega) (by decide);rw[hd,show (⟨#[47,42]⟩:ByteArray).data.toList=[47,42] from rfl,yV,decide_eq_false h42] at Ax;have A5:∀(p:ByteArray) W,p.size<=1000->Calls Tryz.prog 84 #[.string s,.int .i64 (k:Nat),.string p] W fun e w'=>e=.returned (.bool (p.data.toList.isPrefixOf (s.data.toList.drop k)))/\W=w':=fun p W hp=>rR s k p W (by omega) (by omega) hp;obtain⟨B,hB⟩:∃B,kS.any (fun d=>d.isPrefixOf (s.data.toList.drop k))=B:=⟨_,rfl⟩;obtain⟨C,hC⟩:∃C,ni.contains (s[k]'hk)=C:=⟨_,rfl⟩
 have AE:zw (s.data.toList.drop k)=if B=true then 2 else if C=true then 1 else 0:=by
  unfold zw;rw[hB,hd];simp only;rw[hC]
 rw[AE];have HB:=Hh hB;have HC:=Hh hC;have HD:=Hh hd;clear h10 hl hg h34 h35 h47 h42 hB hC AE hd;obtain⟨R,hR⟩:∃R,(if (if B=true then 2 else if C=true then 1 else 0)=0 then LR.bad 0 3 else LR.tok 4 (if B=true then 2 else if C=true then 1 else 0))=R:=⟨_,rfl⟩;rw[hR];have HR:=Hh hR;clear hR;have hb:Below w.heap.size w (w.alloc (.cells #[.slice none 0 0,.int .i64 0,.int .i64 0] 38)):=(Below.refl _ w).alloc lz _;have Ab:=ae.new w #[.slice none 0 0,.int .i64 0,.int .i64 0] 38;have HH:=Jh hb Ab;clear hb Ab;rcases A0 with A0|A0
 all_goals
  go_enter Tryz.func46,Tryz.ntmps46;go_wp2_with fail;refine (Ay _).mono ?_;rintro _ _ ⟨rfl,hw1⟩;cases hw1
  go_wp2_with fail;refine (Aw _).mono ?_;rintro _ _ ⟨rfl,hw1⟩;cases hw1
  go_wp2_with fail;refine (Ax _).mono ?_;rintro _ _ ⟨rfl,hw1⟩;cases hw1
  clear Ay Aw Ax;go_wp2_with fail;obtain⟨hb,Ab⟩:=HH.out;clear HH;have Af:=(aT.lit (f:=Value.string) (E:=9) (base:=w.heap.size) (w:=w.alloc (.cells #[.slice none 0 0,.int .i64 0,.int .i64 0] 38)) (kS.map ay) (by simp) (by decide)).row;have Am:=hb.alloc hb.size (.cells #[.string ⟨#[61,61]⟩,.string ⟨#[33,61]⟩,.string ⟨#[60,61]⟩,.string ⟨#[62,61]⟩,.string ⟨#[38,38]⟩,.string ⟨#[124,124]⟩] 9);have Ag:=Ab.alloc (.cells #[.string ⟨#[61,61]⟩,.string ⟨#[33,61]⟩,.string ⟨#[60,61]⟩,.string ⟨#[62,61]⟩,.string ⟨#[38,38]⟩,.string ⟨#[124,124]⟩] 9);rw[World.size_alloc] at Af;change RowOf Value.string ((w.alloc (.cells #[.slice none 0 0,.int .i64 0,.int .i64 0] 38)).alloc (.cells #[.string ⟨#[61,61]⟩,.string ⟨#[33,61]⟩,.string ⟨#[60,61]⟩,.string ⟨#[62,61]⟩,.string ⟨#[38,38]⟩,.string ⟨#[124,124]⟩] 9)) (.slice (some ⟨w.heap.size+1,0,none⟩) 6 6) _ at Af;clear hb Ab;generalize (w.alloc (.cells #[.slice none 0 0,.int .i64 0,.int .i64 0] 38)).alloc (.cells #[.string ⟨#[61,61]⟩,.string ⟨#[33,61]⟩,.string ⟨#[60,61]⟩,.string ⟨#[62,61]⟩,.string ⟨#[38,38]⟩,.string ⟨#[124,124]⟩] 9)=W1 at *;have hb:=Am;have Ab:=Ag;clear Am Ag;have Aj:=Jh hb Ab;clear hb Ab;go_loop [14,167] (fun _ i=>∃j:Nat,i=.int .i64 (j:Int)/\j<=6/\(kS.drop j).any (fun d=>d.isPrefixOf (s.data.toList.drop k))=B) (fun _ i=>6-(intOf i).toNat)
  case atStart=>exact⟨0,rfl,by omega,HB.out⟩
  case round=>
   clear HB;obtain⟨j,rfl,hj,hI⟩:=hrel
   by_cases hlt:j<6
   ·have Ae:j<kS.length:=hlt
    obtain⟨b1,o1,A1,AF,Ad⟩:=Af.at (j:=j) (by exact hlt);cases A1
    have At:W1.cell? ⟨w.heap.size+1,0+j,none⟩=some (.string (ay (kS[j]'Ae))):=(Ad j (by exact hlt)).trans (congrArg (fun x=>some (Value.string x)) (Om j Ae));rw[LU (l:=kS) Ae] at hI
    have AD:(ay (kS[j]'Ae)).size=2:=by
     rw[aX];have h6:j=0\/j=1\/j=2\/j=3\/j=4\/j=5:=by omega
     rcases h6 with rfl|rfl|rfl|rfl|rfl|rfl<;>rfl
    have hJ:=fun W=>A5 (ay (kS[j]'Ae)) W (by omega);rw[bU] at hJ;have Av:=Hh AD;clear Ad AD
    cases hp:(kS[j]'Ae).isPrefixOf (s.data.toList.drop k) with
    |true=>
     rw[hp] at hJ hI;have A3:B=true:=by rw[<-hI];rfl
     have h2:k+2<=s.size:=by
      have:=(List.isPrefixOf_iff_prefix.1 hp).length_le;rw[List.length_drop,<-au,<-aX,Av.out] at this;omega
     have Ai:R=.tok 4 2:=by rw[<-HR.out,A3];rfl
     have Al:=Hh Ai;clear hp hI Ai A3 Av;generalize ay (kS[j]'Ae)=dj at *;simp only[Nat.zero_add] at At;go_wp2_with fail;refine (hJ _).mono ?_;rintro _ _ ⟨rfl,hw1⟩;cases hw1
     go_wp2_with fail;obtain⟨hb,Ab⟩:=Aj.out;have hT:=lu s k 2 4 W1 (by omega) h2;refine (hT).mono ?_;rintro _ w2 ⟨v,rfl,hown,hb2⟩;obtain⟨Ak,Aa,Ah,-⟩:=jA (a:=0) (e:=0) hb Ab hb2.size hown hb2;obtain⟨va,vc,Au⟩:=hown.len
     (try simp only[List.length_cons,List.length_nil,Nat.zero_add] at Au)
     subst Au;have AG:=Ak.lt;have HX:=Jh Aa (And.intro Ah Ak);clear hown hb2 Aa Ah hb Ab;obtain⟨An,Aq,Ao,Ar,Ap,As⟩:=Ak.n3 rfl;go_wp2;obtain⟨Aa,Ah,Az⟩:=HX.out;have hq:=((Az.setI 0 (.slice va 1 vc)).setI 1 (.int .i64 0)).setI 2 (.int .i64 0);obtain⟨hx,hy,hz⟩:=hq.m3 rfl;refine bodyPost_ret (v:=.agg #[.slice va 1 vc,.int .i64 0,.int .i64 0]) (by simp[results,Tryz.results46,go_sem,hx,hy,hz]) rfl ?_;rw[Al.out];exact⟨_,rfl,Aa,Ah⟩
    |false=>
     rw[hp,Bool.false_or] at hI;rw[hp] at hJ;have HI:=Hh hI;clear hp hI Av;generalize ay (kS[j]'Ae)=dj at *;simp only[Nat.zero_add] at At;go_wp2_with fail;refine (hJ _).mono ?_;rintro _ _ ⟨rfl,hw1⟩;cases hw1
     go_wp2;go_round
     case rel=>exact⟨j+1,by go_num,by omega,HI.out⟩
     case measure=>simp[intOf];omega
   ·obtain rfl:j=6:=by omega
    have A2:Hid (B=false):=Hh hI.symm;clear hI Af;go_wp2_with fail;obtain⟨hb,Ab⟩:=Aj.out;have Af:=(aT.lit (f:=Value.string) (E:=9) (base:=w.heap.size) (w:=W1) [(⟨#[61]⟩:ByteArray),(⟨#[60]⟩:ByteArray),(⟨#[62]⟩:ByteArray),(⟨#[43]⟩:ByteArray),(⟨#[45]⟩:ByteArray),(⟨#[42]⟩:ByteArray),(⟨#[47]⟩:ByteArray),(⟨#[37]⟩:ByteArray),(⟨#[33]⟩:ByteArray),(⟨#[63]⟩:ByteArray),(⟨#[58]⟩:ByteArray),(⟨#[44]⟩:ByteArray),(⟨#[46]⟩:ByteArray),(⟨#[40]⟩:ByteArray),(⟨#[41]⟩:ByteArray),(⟨#[91]⟩:ByteArray),(⟨#[93]⟩:ByteArray),(⟨#[123]⟩:ByteArray),(⟨#[125]⟩:ByteArray)] hb.size (by decide)).row;have Am:=hb.alloc hb.size (.cells #[.string ⟨#[61]⟩,.string ⟨#[60]⟩,.string ⟨#[62]⟩,.string ⟨#[43]⟩,.string ⟨#[45]⟩,.string ⟨#[42]⟩,.string ⟨#[47]⟩,.string ⟨#[37]⟩,.string ⟨#[33]⟩,.string ⟨#[63]⟩,.string ⟨#[58]⟩,.string ⟨#[44]⟩,.string ⟨#[46]⟩,.string ⟨#[40]⟩,.string ⟨#[41]⟩,.string ⟨#[91]⟩,.string ⟨#[93]⟩,.string ⟨#[123]⟩,.string ⟨#[125]⟩] 9);have Ag:=Ab.alloc (.cells #[.string ⟨#[61]⟩,.string ⟨#[60]⟩,.string ⟨#[62]⟩,.string ⟨#[43]⟩,.string ⟨#[45]⟩,.string ⟨#[42]⟩,.string ⟨#[47]⟩,.string ⟨#[37]⟩,.string ⟨#[33]⟩,.string ⟨#[63]⟩,.string ⟨#[58]⟩,.string ⟨#[44]⟩,.string ⟨#[46]⟩,.string ⟨#[40]⟩,.string ⟨#[41]⟩,.string ⟨#[91]⟩,.string ⟨#[93]⟩,.string ⟨#[123]⟩,.string ⟨#[125]⟩] 9);change RowOf Value.string (W1.alloc (.cells #[.string ⟨#[61]⟩,.string ⟨#[60]⟩,.string ⟨#[62]⟩,.string ⟨#[43]⟩,.string ⟨#[45]⟩,.string ⟨#[42]⟩,.string ⟨#[47]⟩,.string ⟨#[37]⟩,.string ⟨#[33]⟩,.string ⟨#[63]⟩,.string ⟨#[58]⟩,.string ⟨#[44]⟩,.string ⟨#[46]⟩,.string ⟨#[40]⟩,.string ⟨#[41]⟩,.string ⟨#[91]⟩,.string ⟨#[93]⟩,.string ⟨#[123]⟩,.string ⟨#[125]⟩] 9)) (.slice (some ⟨W1.heap.size,0,none⟩) 19 19) _ at Af
    clear hb Ab Aj;generalize hW2:W1.alloc (.cells #[.string ⟨#[61]⟩,.string ⟨#[60]⟩,.string ⟨#[62]⟩,.string ⟨#[43]⟩,.string ⟨#[45]⟩,.string ⟨#[42]⟩,.string ⟨#[47]⟩,.string ⟨#[37]⟩,.string ⟨#[33]⟩,.string ⟨#[63]⟩,.string ⟨#[58]⟩,.string ⟨#[44]⟩,.string ⟨#[46]⟩,.string ⟨#[40]⟩,.string ⟨#[41]⟩,.string ⟨#[91]⟩,.string ⟨#[93]⟩,.string ⟨#[123]⟩,.string ⟨#[125]⟩] 9)=W2 at *;generalize W1.heap.size=g2 at *;clear hW2;have hb:=Am;have Ab:=Ag;clear Am Ag;have Aj:=Jh hb Ab;clear hb Ab;go_loop [16,181] (fun _ i=>∃j:Nat,i=.int .i64 (j:Int)/\j<=19/\(ni.drop j).contains (s[k]'hk)=C) (fun _ i=>19-(intOf i).toNat)
    case atStart=>exact⟨0,rfl,by omega,HC.out⟩
    case round=>
     clear HC;obtain⟨j,rfl,hj,hI⟩:=hrel
     by_cases hlt:j<19
     ·have Ac:j<ni.length:=hlt
      obtain⟨b1,o1,A1,AF,Ad⟩:=Af.at (j:=j) (by exact hlt);cases A1
      have At:W2.cell? ⟨g2,0+j,none⟩=some (.string ⟨#[ni[j]'Ac]⟩):=(Ad j (by exact hlt)).trans (congrArg (fun x=>some (Value.string x)) (NT j Ac));rw[List.drop_eq_getElem_cons Ac,List.contains_cons] at hI;have hJ:=fun W=>A5 ⟨#[ni[j]'Ac]⟩ W (by simp[ByteArray.size])
      have A6:(⟨#[ni[j]'Ac]⟩:ByteArray).data.toList.isPrefixOf (s.data.toList.drop k)=(s[k]'hk==ni[j]'Ac):=by
       rw[HD.out];show (ni[j]'Ac==s[k]'hk&&([]:Bs).isPrefixOf _)=_;rw[List.isPrefixOf_nil_left,Bool.and_true,Bool.beq_comm]
      rw[A6] at hJ;clear A6 Ad
      cases hp:(s[k]'hk==ni[j]'Ac) with
      |true=>
       rw[hp] at hJ hI;have A4:C=true:=by rw[<-hI];rfl
       have Ai:R=.tok 4 1:=by rw[<-HR.out,A2.out,A4];rfl
       have Al:=Hh Ai;have AK:k+1<=s.size:=hk;clear hp hI Ai A4;generalize (⟨#[ni[j]'Ac]⟩:ByteArray)=dj at *;simp only[Nat.zero_add] at At;go_wp2_with fail;refine (hJ _).mono ?_;rintro _ _ ⟨rfl,hw1⟩;cases hw1
       go_wp2_with fail;obtain⟨hb,Ab⟩:=Aj.out;have hT:=lu s k 1 4 W2 (by omega) (by omega);refine (hT).mono ?_;rintro _ w2 ⟨v,rfl,hown,hb2⟩;obtain⟨Ak,Aa,Ah,-⟩:=jA (a:=0) (e:=0) hb Ab hb2.size hown hb2;obtain⟨va,vc,Au⟩:=hown.len
       (try simp only[List.length_cons,List.length_nil,Nat.zero_add] at Au)
       subst Au;have AG:=Ak.lt;have HX:=Jh Aa (And.intro Ah Ak);clear hown hb2 Aa Ah hb Ab;obtain⟨An,Aq,Ao,Ar,Ap,As⟩:=Ak.n3 rfl;go_wp2;obtain⟨Aa,Ah,Az⟩:=HX.out;have hq:=((Az.setI 0 (.slice va 1 vc)).setI 1 (.int .i64 0)).setI 2 (.int .i64 0);obtain⟨hx,hy,hz⟩:=hq.m3 rfl;refine bodyPost_ret (v:=.agg #[.slice va 1 vc,.int .i64 0,.int .i64 0]) (by simp[results,Tryz.results46,go_sem,hx,hy,hz]) rfl ?_;rw[Al.out];exact⟨_,rfl,Aa,Ah⟩
      |false=>
       rw[hp,Bool.false_or] at hI;rw[hp] at hJ;have HI:=Hh hI;clear hp hI;generalize (⟨#[ni[j]'Ac]⟩:ByteArray)=dj at *;simp only[Nat.zero_add] at At;go_wp2_with fail;refine (hJ _).mono ?_;rintro _ _ ⟨rfl,hw1⟩;cases hw1
       go_wp2;go_round
       case rel=>exact⟨j+1,by go_num,by omega,HI.out⟩
       case measure=>simp[intOf];omega
     ·obtain rfl:j=19:=by omega
      have Ai:R=.bad 0 3:=by rw[<-HR.out,A2.out,<-hI];rfl
      have Al:=Hh Ai;clear hI Af Ai;obtain⟨hb,Ab⟩:=Aj.out;have HB:=Hh hb;have HC:=Hh Ab;have AL:=Ab.lt;clear hb Aj;obtain⟨A7,AA,A8,AB,A9,AC⟩:=Ab.n3 rfl;clear Ab;go_wp2;rw[Al.out];have hq:=(((HC.out).setI 0 (.slice none 0 0)).setI 1 (.int .i64 (k:Nat))).setI 2 (.int .i64 3);obtain⟨hx,hy,hz⟩:=hq.m3 rfl;refine bodyPost_ret (v:=.agg #[.slice none 0 0,.int .i64 (k:Nat),.int .i64 3]) (by simp[results,Tryz.results46,go_sem,hx,hy,hz]) rfl ?_;exact⟨_,by simp[xF],aO.nil,aS _ _ lz [.slice none 0 0,.int .i64 (k:Nat),.int .i64 3] 0 _ _ HB.out⟩
theorem Kk(s:ByteArray)(k:Nat)(w:World)(hs:s.size<=1048576)(hk:k<s.size) :
  Calls Tryz.prog 46 #[.string s,.int .i64 (k:Nat)] w (yK w s k (dN (s.data.toList.drop k))):=by
 have hd:=eG hk;have h1:dN (s.data.toList.drop k)=dN (s[k]'hk::s.data.toList.drop (k+1)):=by rw[hd]
 rw[h1,dN]
 by_cases hl:jO (s[k]'hk)=true
 ·rw[if_pos hl]
  refine Kw s k w hs hk ?_ hl;intro h;rw[h] at hl
  revert hl;decide
 rw[if_neg hl];have Aa:jO (s[k]'hk)=false:=by simpa using hl
 by_cases hg:dg (s[k]'hk)=true
 ·rw[if_pos hg,<-hd]
  exact Fg s k w hs hk Aa hg
 rw[if_neg hg];have Ab:dg (s[k]'hk)=false:=by simpa using hg
 by_cases h34:s[k]'hk=34
 ·rw[if_pos h34,<-hd]
  exact Ff s k w hs hk h34
 rw[if_neg h34]
 by_cases h10:s[k]'hk=10
 ·rw[if_pos h10]
  exact Kz s k w hs hk h10
 rw[if_neg h10]
 by_cases hr:s[k]'hk=35\/(s[k]'hk=47/\(s.data.toList.drop (k+1)).head?=some 47)
 ·rw[if_pos hr,<-hd]
  exact Fe s k w hs hk hr
 rw[if_neg hr]
 by_cases ha:s[k]'hk=47/\(s.data.toList.drop (k+1)).head?=some 42
 ·rw[if_pos ha,<-hd]
  exact II s k w hs hk ha.1 ha.2
 rw[if_neg ha,<-hd];exact Ky s k w hs hk h10 Aa Ab h34 (fun h=>hr (.inl h)) (fun h=>hr (.inr h)) ha
theorem CK(s:ByteArray)(w:World)(hs:s.size<=1048576) :
  Calls Tryz.prog 16 #[.string s] w (Au w (aG s.data.toList 0).1 (aG s.data.toList 0).2.1 (aG s.data.toList 0).2.2):=by
 have Aj:Below w.heap.size w (w.alloc (.cells #[.slice none 0 0,.int .i64 0,.int .i64 0] 38)):=(Below.refl _ w).alloc lz _;have Ad:=ae.new w #[.slice none 0 0,.int .i64 0,.int .i64 0] 38;have HH:=Jh Aj Ad;clear Aj Ad;go_enter Tryz.func16,Tryz.ntmps16;go_wp2_with fail;go_loopw [3,4,5] (fun o p _ wr=>∃(k:Nat) (pre:List ag),p=.int .i64 (k:Int)/\k<=s.size/\dE s.data.toList k pre/\aO (w.heap.size+1) wr o pre/\ae wr w.heap.size #[.slice none 0 0,.int .i64 0,.int .i64 0] 38/\Below w.heap.size w wr) (fun _ p _ _=>s.size-(intOf p).toNat)
 case atStart=>exact⟨0,[],rfl,Nat.zero_le _,dE.zero _,aO.nil,HH.out.2,HH.out.1⟩
 case round=>
  clear HH;obtain⟨k,pre,rfl,hk,hR,Aa,hc,hb⟩:=hrel;have hl:=hc.lt
  by_cases hlt:k<s.size
  ·have hB:=Az (s[k]'hlt)
   have Ag:k<s.data.toList.length:=by rw[<-au];exact hlt
   have A0:=hR.len;rw[<-au] at A0;have HR:=Hh hR;clear hR
   cases hb1:bG (s[k]'hlt) with
   |true=>
    rw[hb1] at hB;have Ay:=Hh (HR.out.blank Ag hb1);have HX:=Jh Aa (And.intro hc hb);clear HR hb1 Aa hc hb;go_wp2_with fail;refine (hB _).mono ?_;rintro _ _ ⟨rfl,hw1⟩;cases hw1
    go_wp2;go_roundw
    case rel=>exact⟨k+1,pre,by go_num,by omega,Ay.out,HX.out.1,HX.out.2.1,HX.out.2.2⟩
    case measure=>simp[intOf];omega
   |false=>
    rw[hb1] at hB;have hO:=Kk s k;unfold yK at hO;obtain⟨va,vc,rfl⟩:=Aa.len
    cases ho:dN (s.data.toList.drop k) with
    |bad o e=>
     have HD:=Hh (HR.out.bad Ag hb1 ho);have AE:(e != 0)=true:=by simpa using nE ho
     rw[ho] at hO;simp only[xF] at hO;clear HR hb1 ho;go_wp2_with fail;refine (hB _).mono ?_;rintro _ _ ⟨rfl,hw1⟩;cases hw1
     go_wp2_with fail;refine (hO _ hs hlt).mono ?_;rintro _ w2 ⟨v2,rfl,hown2,hb2⟩;obtain⟨ua,uc,rfl⟩:=hown2.len;have Ae:=hc.below hb2 hl;have AD:=Ae.lt;have HX:=Jh (Aa.below hb2 lz) (And.intro Ae (hb.trans (hb2.mono hb.size)));clear hown2 hb2 Aa hc hb;obtain⟨Ak,An,Al,Ao,Am,Ap⟩:=Ae.n3 rfl;clear Ae;go_wp2;have hq:=(((HX.out.2.1.setI 0 (.slice va pre.length vc)).setI 1 (.int .i64 ((k:Int)+o))).setI 2 (.int .i64 e)).alloc (.cells #[.slice ua 0 uc,.int .i64 ((k:Int)+o),.int .i64 e] 38);obtain⟨hx,hy,hz⟩:=hq.m3 rfl;refine bodyPost_ret (v:=.agg #[.slice va pre.length vc,.int .i64 ((k:Int)+o),.int .i64 e]) (by simp[results,Tryz.results16,go_sem,hx,hy,hz]) rfl ?_;rw[HD.out];exact⟨.slice va pre.length vc,by simp,((aO.moved (w':=ak w2 w.heap.size 0 [.slice va pre.length vc,.int .i64 ((k:Int)+o),.int .i64 e]) HX.out.1 (fun q hq=>aL _ _ 0 _ q (by have:=(World.ownsRow.lt HX.out.1 q hq).1;omega))).base_le (Nat.le_succ _)).alloc _,(aS _ _ lz [.slice va pre.length vc,.int .i64 ((k:Int)+o),.int .i64 e] 0 _ _ HX.out.2.2).alloc (by rw[aA];exact HX.out.2.2.size) _⟩
    |tok kd sz=>
     have HD:=Hh (HR.out.tok Ag hb1 ho);have A8:=dh ho;rw[List.length_drop,<-au] at A8;have Ah:ay ((s.data.toList.drop k).take sz)=s.extract k (k+sz):=kg (by rw[eQ,bU,List.drop_take];congr 1;omega);rw[Ah] at HD;have AC:(s.extract k (k+sz)).size=sz:=by rw[ByteArray.size_extract];omega
     rw[ho] at hO;simp only[xF] at hO;clear HR hb1 ho Ah;generalize s.extract k (k+sz)=tx at *;go_wp2_with fail;refine (hB _).mono ?_;rintro _ _ ⟨rfl,hw1⟩;cases hw1
     go_wp2_with fail;refine (hO _ hs hlt).mono ?_;rintro _ w2 ⟨v2,rfl,hown2,hb2⟩;obtain⟨ua,uc,rfl⟩:=hown2.len;obtain⟨ub,uo,rfl,A9,q0,q1,q2⟩:=aH.get (aO.toks hown2) (j:=0) (by simp);simp only[List.length_cons,List.length_nil,Nat.zero_add,List.getElem_cons_zero,Nat.zero_mul,Nat.add_zero] at q0 q1 q2 hown2;go_wp2_with (with_reducible first|refine aK ?_)
     refine Stop.out ?_;have Ab:=((Aa.below hb2 lz).alloc (.cells #[.slice (some ⟨ub,uo,none⟩) 1 uc,.int .i64 0,.int .i64 0] 38)).alloc (.cells #[.int .i64 (kd:Nat),.string tx,.int .i64 (k:Nat)] 63);have AA:=(World.ownsRow.lt hown2 ub rfl).1;refine gN rfl _ _ rfl (w.heap.size+1) pre ⟨(kd:Nat),tx,(k:Nat)⟩ Ab (w2.heap.size+1) rfl (by simp) (by simp) (by simp) (by omega) (by have:=hb2.size;simp;omega) _ (Below.refl _ _) ?_;intro v' w' hown' hb9 hg';have Ai:Below w.heap.size w w':=(((hb.trans (hb2.mono hb.size)).alloc (Nat.le_trans hb.size hb2.size) (.cells #[.slice (some ⟨ub,uo,none⟩) 1 uc,.int .i64 0,.int .i64 0] 38)).alloc (by have:=hb.size;have:=hb2.size;simp;omega) (.cells #[.int .i64 (kd:Nat),.string tx,.int .i64 (k:Nat)] 63)).trans (hb9.mono (Nat.le_succ _));have Ac:∀b,(Value.slice va pre.length vc).ownBlock=some b->b<wr.heap.size:=fun b hbb=>(World.ownsRow.lt Aa b hbb).2;have AF:=hb2.size;have Aq:ae w' w.heap.size #[.slice none 0 0,.int .i64 0,.int .i64 0] 38:=(((hc.below hb2 hl).alloc _).alloc _).kept hg' (fun e=>by have:=(World.ownsRow.lt Aa _ e.symm).1;omega);have Af:ae w' w2.heap.size #[.slice (some ⟨ub,uo,none⟩) 1 uc,.int .i64 0,.int .i64 0] 38:=((ae.new w2 _ _).alloc _).kept hg' (fun e=>by have:=Ac _ e.symm;omega)
     have AH:w'.cell? ⟨ub,uo+1,none⟩=some (.string tx):=by
      rw[iB (hg'.block ub (by simp;omega) (fun e=>by have:=Ac _ e.symm;omega))];rw[World.cell?_alloc_past _ _ _ (by simp;omega),World.cell?_alloc_past _ _ _ A9];exact q1
     have AG:=Af.lt;have HX:=Jh hown' (And.intro Aq Ai);obtain⟨xa,xc,AB⟩:=hown'.len;subst AB;clear hown' Ai hb9 hg' Aq Ab hown2 hb2 Aa hc hb q0 q1 q2 Ac;obtain⟨Ar,Av,As,Aw,At,Ax⟩:=Af.n3 rfl;clear Af;go_wp2;go_roundw
     case rel=>exact⟨k+sz,_,by go_num,by omega,HD.out,by simpa using HX.out.1,HX.out.2.1,HX.out.2.2⟩
     case measure=>simp[intOf];omega
  ·obtain rfl:k=s.size:=by omega
   have HD:=Hh (hR.done (au s));obtain⟨va,vc,rfl⟩:=Aa.len;have A1:=hc;have HX:=Jh Aa hb;clear hR Aa hb;obtain⟨A2,A5,A3,A6,A4,A7⟩:=hc.n3 rfl;go_wp2;have hq:=((A1.setI 0 (.slice va pre.length vc)).setI 1 (.int .i64 (-1))).setI 2 (.int .i64 0);obtain⟨hx,hy,hz⟩:=hq.m3 rfl;refine bodyPost_ret (v:=.agg #[.slice va pre.length vc,.int .i64 (-1),.int .i64 0]) (by simp[results,Tryz.results16,go_sem,hx,hy,hz]) rfl ?_;rw[HD.out];exact⟨_,rfl,(HX.out.1.moved (fun q hq=>aL _ [.slice va pre.length vc,.int .i64 (-1),.int .i64 0] 0 _ q (by have:=(World.ownsRow.lt HX.out.1 q hq).1;omega))).base_le (Nat.le_succ _),aS _ _ lz [.slice va pre.length vc,.int .i64 (-1),.int .i64 0] 0 _ _ HX.out.2⟩
end Go.Proofs.YtbcdaaobbebooaaGreatDoor
namespace Go.Proofs.YtbcdaaobbebooaaGreatDoor
end Go.Proofs.YtbcdaaobbebooaaGreatDoor
namespace Go.Proofs.YtbcdaaobbebooaaGreatDoor
theorem Cy{l:Bs}{kd k n:Nat}(h:fP l kd=.tok k n):yN l=none/\n=l.length/\k=kd:=by
 unfold fP at h;split at h
 ·cases h
 ·next hw=>cases h;exact⟨hw,rfl,rfl⟩
end Go.Proofs.YtbcdaaobbebooaaGreatDoor
namespace Go.Proofs.YtbcdaaobbebooaaGreatDoor
open Go.RowKit Go.Tab
theorem uR(R:List fF)(size:Int)(hRn:R.length<=1000000)(hne:0<R.length)(hlast:(R[R.length-1]'(by omega)).stop=size)(hrow:∀r∈R,r.toks.length<=900000/\∀t∈r.toks,t.text.size<=1048576/\(t.kind=3->jD t.text≠none)):∀(n i d:Nat),R.length-i<=n->i<=R.length->d<=64->BP R size i d
 |0,i,d,hn,hi,hd=>xS R size hRn hne hlast hrow i d hi hd (fun j e h1 h2 _=>by omega)
 |n+1,i,d,hn,hi,hd=>xS R size hRn hne hlast hrow i d hi hd (fun j e h1 h2 h3=>uR R size hRn hne hlast hrow n j e (by omega) h2 h3)
theorem oh(size:Int):∀(toks cur:List ag),∃l c,dX size toks cur=l++[⟨c,size,true⟩]
 |[],cur=>⟨[],cur,rfl⟩
 | t::r,cur=>by
  rw[dX];split
  ·exact oh size r cur
  ·split
   ·obtain⟨l,c,h⟩:=oh size r []
    exact⟨_::l,c,by rw[h];rfl⟩
   ·exact oh size r (cur++[t])
theorem qh(size:Int):∀(toks cur:List ag),(∀r∈dX size toks cur,r.toks.length<=cur.length+toks.length/\∀t∈r.toks,t∈cur\/t∈toks)/\(dX size toks cur).length<=toks.length+1
 | [],cur=>by
  rw[dX];refine⟨fun r hr=>?_,Nat.le_refl _⟩;rw[List.mem_singleton.1 hr];exact⟨by simp,fun t ht=>.inl ht⟩
 | t::r,cur=>by
  rw[dX];split
  ·obtain⟨h1,h2⟩:=qh size r cur
   refine⟨fun q hq=>⟨by have:=(h1 q hq).1;simp only[List.length_cons];omega,fun u hu=>?_⟩,by simp only[List.length_cons];omega⟩;exact ((h1 q hq).2 u hu).imp id (fun h=>List.mem_cons_of_mem _ h)
  ·split
   ·obtain⟨h1,h2⟩:=qh size r []
    refine⟨fun q hq=>?_,by simp only[List.length_cons];omega⟩;rcases List.mem_cons.1 hq with rfl|hq
    ·exact⟨by simp,fun u hu=>.inl hu⟩
    ·refine⟨by have:=(h1 q hq).1;simp only[List.length_nil,List.length_cons] at this ⊢;omega,fun u hu=>?_⟩
     rcases (h1 q hq).2 u hu with h|h
     ·cases h
     ·exact .inr (List.mem_cons_of_mem _ h)
   ·obtain⟨h1,h2⟩:=qh size r (cur++[t])
    refine⟨fun q hq=>⟨by have:=(h1 q hq).1;simp only[List.length_append,List.length_cons,List.length_nil] at this ⊢;omega,fun u hu=>?_⟩,by simp only[List.length_cons];omega⟩;rcases (h1 q hq).2 u hu with h|h
    ·rcases List.mem_append.1 h with h|h
     ·exact .inl h
     ·rw[List.mem_singleton.1 h];exact .inr (by simp)
    ·exact .inr (List.mem_cons_of_mem _ h)
theorem IM{l:Bs}{k n:Nat}(h:dN l=.tok k n):k<=7:=by
 cases l with
 |nil=>cases h
 |cons c r=>
  rw[dN] at h;split at h
  ·cases h;decide
  split at h
  ·unfold l9 at h
   split at h
   ·cases h;decide
   ·cases h
  split at h
  ·unfold nz at h
   split at h
   ·cases h;decide
   ·cases h
  split at h
  ·cases h;decide
  split at h
  ·obtain⟨-,-,rfl⟩:=Cy h;decide
  split at h
  ·unfold dS at h
   split at h
   ·cases h
   ·split at h
    ·cases h
    ·obtain⟨-,-,rfl⟩:=Cy h;decide
  split at h
  ·cases h
  ·cases h;decide
theorem rQ:∀(k:Nat) (l:Bs) (p:Nat),l.length<=k->∀t∈(aG l p).1,t.kind<5\/t.kind=5\/t.kind=6\/t.kind=7
 | 0,l,p,h=>by
  obtain rfl:=List.eq_nil_of_length_eq_zero (Nat.le_zero.1 h);intro t ht;rw[dH] at ht;cases ht
 |k+1,[],p,_=>by intro t ht;rw[dH] at ht;cases ht
 | k+1,c::r,p,h=>by
  simp only[List.length_cons] at h
  by_cases hb:bG c=true
  ·rw[bO hb]
   exact rQ k r (p+1) (by omega)
  ·have hb':bG c=false:=by simpa using hb
   cases ho:dN (c::r) with
   |bad off e=>rw[eB hb' ho];intro t ht;cases ht
   |tok kd sz=>
    rw[di hb' ho];have hs:=dh ho;intro t ht;rcases List.mem_cons.1 ht with rfl|ht
    ·have:=IM ho
     simp only;omega
    ·exact rQ k ((c::r).drop sz) (p+sz) (by rw[List.length_drop,List.length_cons];omega) t ht
def P9(w:World)(r:List bA×Int×Int)(e:Ending)(w':World):Prop:=Below w.heap.size w w'/\∃ia ic,e=.returned (.agg #[.slice ia r.1.length ic,.int .i64 0,.int .i64 r.2.1,.int .i64 r.2.2,.bool false,.string ⟨#[]⟩,.string ⟨#[]⟩,.string ⟨#[]⟩,.slice none 0 0,.slice none 0 0,.slice none 0 0])/\gM (fun q=>w.heap.size<=q) w' (.slice ia r.1.length ic) r.1
theorem gM.nil{P:Nat->Prop}{w:World}:gM P w (.slice none 0 0) []:=⟨none,0,rfl,Nat.le_refl _,Nat.zero_le _,fun _=>rfl,fun x hx=>by cases hx⟩
theorem CE(s:ByteArray)(w:World)(hs:s.size<=400000):Calls Tryz.prog 26 #[.string s] w (P9 w (bT s.data.toList)):=by
 have AN:s.data.toList.length=s.size:=jc s;obtain⟨X,hX⟩:=exq (bT s.data.toList);have AF:=ae.new w (bz 0 0) 56;have AE:=(Below.refl _ w).alloc lz (.cells (bz 0 0) 56);have hL:=CK s (w.alloc (.cells (bz 0 0) 56)) (by omega);have h1:=lS s.data.toList.length s.data.toList 0 lz;have h2:=sZ s.data.toList.length s.data.toList 0 lz;have h3:=rQ s.data.toList.length s.data.toList 0 lz;have h4:=vU s.data.toList.length s.data.toList 0 lz;have Aa:=rO (l:=s.data.toList);have Ab:=zN (l:=s.data.toList);rw[<-hX] at Aa Ab ⊢;rw[AN] at h1 h4 Ab;clear hX;generalize aG s.data.toList 0=Y at *;obtain⟨Ac,Ae,er⟩:=Y;simp only at hL h1 h2 h3 h4 Aa Ab;have A8:=Hh AE;have AA:=Hh AF;have H:=Jh h2 (And.intro h3 h4);clear AF AE h2 h3 h4;go_enter Tryz.func26,Tryz.ntmps26;go_wp2_with fail;refine hL.mono ?_;clear hL;rintro _ w1 ⟨v,rfl,hO,hb1⟩;obtain⟨a,c,rfl⟩:=Bc hO;have AK:=Hh hO.toks;have A9:=Hh (A8.out.trans (hb1.mono A8.out.size));have AB:=Hh (AA.out.below hb1 AA.out.lt);clear hO hb1;go_upto_region 2 with fail
 have Aw:Below w1.heap.size w1 (w1.alloc (.cells #[.slice a Ac.length c,.int .i64 Ae,.int .i64 er] 38)):=(Below.refl _ w1).alloc lz _;have At:=Hh (AB.out.below Aw AB.out.lt);have AL:=Hh (AK.out.below Aw lz);have Ax:=Hh (A9.out.trans (Aw.mono A9.out.size));have hx:=ae.new w1 #[.slice a Ac.length c,.int .i64 Ae,.int .i64 er] 38;generalize w1.alloc (.cells #[.slice a Ac.length c,.int .i64 Ae,.int .i64 er] 38)=w2 at *;have AQ:=hx.lt;obtain⟨A2,A5,A3,A6,A4,A7⟩:=hx.n3 rfl;clear hx Aw
 by_cases he:er=0
 ·subst he
  have hX:=Ab rfl;rw[Br] at hX;obtain⟨R,hR⟩:=exq (dX s.size Ac []);rw[<-hR] at hX;have A1:=EQ w2 (.slice a Ac.length c) Ac s.size AL.out H.out.2.1 (by omega);rw[<-hR] at A1;have HM:=Hh (qh s.size Ac []);obtain⟨R0,c0,A0⟩:=oh s.size Ac [];rw[<-hR] at A0;have AC:=Hh A0;have AD:=Hh hR;have HX:=Hh hX;clear hR hX Aa Ab A0;go_wp2_with fail;refine A1.mono ?_;clear A1 A2 A3 A4 A5 A6 A7;rintro _ w3 ⟨rv,rfl,hLn,hb3⟩;have Ay:=Hh (Ax.out.trans (hb3.mono Ax.out.size));have Az:=Hh (At.out.below hb3 At.out.lt)
  have Av:=uR R s.size (by have:=HM.out.2;rw[<-AD.out] at this;omega) (by rw[AC.out];simp) (by simp only[AC.out];simp) (fun r hr=>by
   rw[AD.out] at hr;obtain⟨q1,q2⟩:=HM.out.1 r hr;refine⟨by simp only[List.length_nil] at q1;omega,fun t ht=>?_⟩;have AI:t∈Ac:=(q2 t ht).resolve_left (by simp)
   exact⟨by have:=F8 AI;have h9:=H.out.2.2;show (mP t).length<=_;omega,H.out.1 t AI⟩) R.length 0 0 (by omega) (by omega) (by omega) w3 rv _ hLn
  clear hLn hb3;obtain⟨g,hg⟩:=exq (dw s.size (R.drop 0) 0 [] 0);rw[<-hg] at Av;have HG:Hid (X=if g.e≠0 then ([],g.at_,g.e) else (g.l,-1,0)):=Hh (by rw[HX.out,hg];unfold dw;rw[List.drop_zero]);clear hg;obtain⟨L,n,ga,ge⟩:=g;simp only[show ((0:Nat):Int)=0 from rfl] at Av;go_wp2_with fail;refine Av.mono ?_;clear Av;rintro e4 w4 ⟨hb4,Aa,hok⟩;simp only at Aa hok;have As:=Hh (Ay.out.trans (hb4.mono Ay.out.size));have Au:=Hh (Az.out.below hb4 Az.out.lt);clear hb4
  by_cases he:ge=0
  ·subst he
   obtain⟨ia,ic,rfl,AH⟩:=hok rfl;have AJ:=Hh AH;clear hok Aa AH;have Af:Below w4.heap.size w4 (w4.alloc (.cells #[.slice ia L.length ic,.int .i64 (n:Nat),.int .i64 0,.int .i64 0,.bool false,.string ⟨#[]⟩,.string ⟨#[]⟩,.string ⟨#[]⟩,.slice none 0 0,.slice none 0 0,.slice none 0 0] 56)):=(Below.refl _ w4).alloc lz _;have Ah:=Hh Af;have Ag:=Hh (Au.out.below Af Au.out.lt);clear Af;go_upto_region 7 with fail
   go_wp2_with (with_reducible first|refine bH ?_)
   refine Stop.out ?_;refine az rfl 56 _ _ rfl rfl _ rfl (#[.slice ia L.length ic,.int .i64 0,.int .i64 (-1),.int .i64 0,.bool false,.string ⟨#[]⟩,.string ⟨#[]⟩,.string ⟨#[]⟩,.slice none 0 0,.slice none 0 0,.slice none 0 0]) rfl _ _ (Ag.out) rfl (by kernel_rfl) (jR _ _ _ _ _ _ _ _ _ _ _ _ _ _ _ _ _ _ _) ?_;have hq:ae ((w4.alloc (.cells #[.slice ia L.length ic,.int .i64 (n:Nat),.int .i64 0,.int .i64 0,.bool false,.string ⟨#[]⟩,.string ⟨#[]⟩,.string ⟨#[]⟩,.slice none 0 0,.slice none 0 0,.slice none 0 0] 56)).setRow w.heap.size (#[.slice ia L.length ic,.int .i64 0,.int .i64 (-1),.int .i64 0,.bool false,.string ⟨#[]⟩,.string ⟨#[]⟩,.string ⟨#[]⟩,.slice none 0 0,.slice none 0 0,.slice none 0 0])) w.heap.size (#[.slice ia L.length ic,.int .i64 0,.int .i64 (-1),.int .i64 0,.bool false,.string ⟨#[]⟩,.string ⟨#[]⟩,.string ⟨#[]⟩,.slice none 0 0,.slice none 0 0,.slice none 0 0]) 56:=setRow_heap _ _ _ _ _ _ (Ag.out);go_wp2_with fail;obtain⟨Ai,Aj,Ak,Al,Am,An,Ao,Ap,Aq,Ar,Ad⟩:=hq.m11 rfl;refine bodyPost_ret (v:=.agg (#[.slice ia L.length ic,.int .i64 0,.int .i64 (-1),.int .i64 0,.bool false,.string ⟨#[]⟩,.string ⟨#[]⟩,.string ⟨#[]⟩,.slice none 0 0,.slice none 0 0,.slice none 0 0])) (by simp[results,Tryz.results26,go_sem,Ai,Aj,Ak,Al,Am,An,Ao,Ap,Aq,Ar,Ad]) rfl ?_
   rw[HG.out];refine⟨below_setRow (As.out.trans (Ah.out.mono As.out.size)) lz _,ia,ic,rfl,?_⟩;have AP:=Ay.out.size;have AO:w.heap.size<w3.heap.size:=Az.out.lt;exact gM.move (by rw[setRow_size];exact Ah.out.size) (fun q hq hl=>by have hq:w3.heap.size<=q:=hq;rw[setRow_other _ _ _ _ (by omega)];exact Ah.out.block q hl) (fun q hq _=>by have hq:w3.heap.size<=q:=hq;show w.heap.size<=q;omega) AJ.out
  ·have AG:=Aa he
   simp only[bz] at AG;subst AG;have AM:(ge != 0)=true:=by simpa using he
   have HE:=Hh he;clear hok Aa he;have Af:Below w4.heap.size w4 (w4.alloc (.cells (bz ga ge) 56)):=(Below.refl _ w4).alloc lz _;have Ah:=Hh Af;have Ag:=Hh (Au.out.below Af Au.out.lt);clear Af;go_upto_region 6 with fail
   go_wp2_with (with_reducible first|refine bH ?_)
   refine Stop.out ?_;refine az rfl 56 _ _ rfl rfl _ rfl (bz ga ge) rfl _ _ (Ag.out) rfl (by kernel_rfl) (jR _ _ _ _ _ _ _ _ _ _ _ _ _ _ _ _ _ _ _) ?_;have hq:ae ((w4.alloc (.cells (bz ga ge) 56)).setRow w.heap.size (bz ga ge)) w.heap.size (bz ga ge) 56:=setRow_heap _ _ _ _ _ _ (Ag.out);go_wp2_with fail;obtain⟨Ai,Aj,Ak,Al,Am,An,Ao,Ap,Aq,Ar,Ad⟩:=hq.m11 rfl;refine bodyPost_ret (v:=.agg (bz ga ge)) (by simp[results,Tryz.results26,go_sem,Ai,Aj,Ak,Al,Am,An,Ao,Ap,Aq,Ar,Ad]) rfl ?_
   rw[HG.out,if_pos HE.out];exact⟨below_setRow (As.out.trans (Ah.out.mono As.out.size)) lz _,none,0,rfl,gM.nil⟩
 ·have AM:(er != 0)=true:=by simpa using he
  have HG:Hid (X=([],Ae,er)):=Hh (Aa he);clear Aa Ab he;go_upto_region 3 with fail
  go_wp2_with (with_reducible first|refine bH ?_)
  refine Stop.out ?_;refine az rfl 56 _ _ rfl rfl _ rfl (bz Ae er) rfl _ _ (At.out) rfl (by kernel_rfl) (jR _ _ _ _ _ _ _ _ _ _ _ _ _ _ _ _ _ _ _) ?_;have hq:ae ((w2).setRow w.heap.size (bz Ae er)) w.heap.size (bz Ae er) 56:=setRow_heap _ _ _ _ _ _ (At.out);go_wp2_with fail;obtain⟨Ai,Aj,Ak,Al,Am,An,Ao,Ap,Aq,Ar,Ad⟩:=hq.m11 rfl;refine bodyPost_ret (v:=.agg (bz Ae er)) (by simp[results,Tryz.results26,go_sem,Ai,Aj,Ak,Al,Am,An,Ao,Ap,Aq,Ar,Ad]) rfl ?_
  rw[HG.out];exact⟨below_setRow Ax.out lz _,none,0,rfl,gM.nil⟩
theorem Ar(a b:Value)(la lb:List ByteArray)(w:World)(ha:RowOf Value.string w a la)(hb:RowOf Value.string w b lb) :
  Calls Tryz.prog 19 #[a,b] w fun e w'=>e=.returned (.bool (decide (la=lb)))/\Below w.heap.size w w':=by
 obtain⟨xa,ca,rfl,Ao,Aj,-⟩:=ha.len;obtain⟨xb,cb,rfl,Ap,Ak,-⟩:=hb.len;unfold maxLen at Aj Ak
 by_cases hlen:la.length=lb.length
 ·go_enter Tryz.func19,Tryz.ntmps19
  go_wp2_with fail;go_loopw [5] (fun i wr=>∃k:Nat,k<=la.length/\i=.int .i64 (k:Int)/\(∀j (h1:j<la.length) (h2:j<lb.length),j<k->la[j]=lb[j])/\Below w.heap.size w wr) (fun i _=>la.length-(intOf i).toNat)
  case atStart=>exact⟨0,Nat.zero_le _,rfl,fun j _ _ h=>by omega,Below.refl _ w⟩
  case round=>
   obtain⟨k,hk,rfl,Ac,Ad⟩:=hrel;have HA:=Hh Ac;clear Ac;have Ah:=ha.below Ad lz;have Ai:=hb.below Ad lz
   by_cases hkl:k<la.length
   ·have Af:k<lb.length:=by omega
    obtain⟨ba,oa,rfl,Am,Aa⟩:=Ah.at hkl;obtain⟨bb,ob,rfl,An,Ab⟩:=Ai.at Af;have Al:=Aa k hkl;have Ae:=Ab k Af;clear Aa Ab
    by_cases heq:la[k]=lb[k]
    ·have Ag:Hid (∀j (h1:j<la.length) (h2:j<lb.length),j<k+1->la[j]=lb[j]):=Hh (fun j h1 h2 h=>by
      by_cases hjk:j=k
      ·subst hjk;exact heq
      ·exact HA.out j h1 h2 (by omega))
     clear HA;rw[<-heq] at Ae;clear heq;generalize la[k]=x at *;go_wp2_with fail;go_quiet (fail)
     all_goals
      go_wp2;go_roundw
     case rel=>exact⟨k+1,by omega,by go_num,Ag.out,Ad.trans (bL w.heap.size wr _)⟩
     case measure=>simp[intOf];omega
    ·have hR:=Hh (AR hkl Af heq)
     generalize la[k]=x at *;generalize lb[k]=y at *;go_wp2_with fail;go_quiet (fail)
     all_goals
      go_wp2
     ·go_ret
      refine⟨?_,Ad.trans (bL w.heap.size wr _)⟩;rw[decide_eq_false hR.out];rfl
     ·rename_i hh
      rw[nT heq] at hh;cases hh
   ·obtain rfl:k=la.length:=by omega
    have hR:=Hh (AU hlen (fun j h1 h2=>HA.out j h1 h2 h1));go_wp2;go_ret;refine⟨?_,Ad⟩;rw[decide_eq_true hR.out];rfl
 ·have hR:Hid (la≠lb):=Hh (by rintro rfl;exact hlen rfl)
  have hq:((la.length:Int) != (lb.length:Int))=true:=by rw[bne_iff_ne];omega
  clear hlen;go_enter Tryz.func19,Tryz.ntmps19;go_wp2;go_ret;refine⟨?_,Below.refl _ w⟩;rw[decide_eq_false hR.out];rfl
mutual
def bA.bulk:bA->Nat
 |.mk _ _ _ _ its=>1+qU its
def qU:List bA->Nat
 |[]=>0
 |t::r=>t.bulk+1+qU r
end
theorem Al:∀{l:List bA} {k:Nat} (hk:k<l.length),qU l[k].items+2<=qU l
 |.mk _ _ _ _ its::r,0,_=>by simp only[qU,List.getElem_cons_zero,bA.bulk,bA.items];omega
 | t::r,k+1,hk=>by
  have:=Al (l:=r) (k:=k) (by simpa using hk);simp only[qU,List.getElem_cons_succ];omega
theorem K5{w:World}{bl:Bool}{nm:ByteArray}{v:dR}{ls:List ByteArray}{its:List bA}{cs:List Value}{b o:Nat}(hv:Aw w (.mk bl nm v ls its) cs)(hc:∀(j:Nat) (u:Value),cs[j]?=some u->w.cell? ⟨b,o+j,none⟩=some u) :
  ∃vo vt sa sn sc la lc ia ic,w.cell? ⟨b,o,none⟩=some (.bool bl)/\w.cell? ⟨b,o+1,none⟩=some (.string nm)/\w.cell? ⟨b,o+2,none⟩=some (.string vo)/\w.cell? ⟨b,o+3,none⟩=some (.string vt)/\
   w.cell? ⟨b,o+4,none⟩=some (.slice sa sn sc)/\w.cell? ⟨b,o+5,none⟩=some (.slice la ls.length lc)/\w.cell? ⟨b,o+6,none⟩=some (.slice ia its.length ic)/\
   eu w v [.string vo,.string vt,.slice sa sn sc]/\RowOf Value.string w (.slice la ls.length lc) ls/\dU w (.slice ia its.length ic) its:=by
 obtain⟨vo,vt,vk,lv,ia,ic,rfl,h1,h2,h3,h4,h5,h6⟩:=lm.open hv;obtain⟨_,_,sa,sn,sc,he⟩:=h1.shape;cases he
 obtain⟨la,lc,rfl,-⟩:=h2.len;exact⟨vo,vt,sa,sn,sc,la,lc,ia,ic,by simpa using hc 0 _ rfl,hc 1 _ rfl,hc 2 _ rfl,hc 3 _ rfl,hc 4 _ rfl,hc 5 _ rfl,hc 6 _ rfl,h1,h2,ia,ic,rfl,h3,h4,h5,h6⟩
theorem M6{l m:List bA}{k:Nat}(h1:k<l.length)(h2:k<m.length)(h:¬l[k]=m[k]):¬l=m:=AR h1 h2 h
end Go.Proofs.YtbcdaaobbebooaaGreatDoor
