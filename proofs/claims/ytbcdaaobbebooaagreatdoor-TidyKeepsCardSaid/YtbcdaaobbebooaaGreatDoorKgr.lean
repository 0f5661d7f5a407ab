import Derived.Test.YtbcdaaobbebooaaGreatDoorKgq
set_option linter.unusedSimpArgs false
set_option linter.unusedVariables false
set_option maxRecDepth 100000
set_option maxHeartbeats 20000000
namespace Go.Proofs.YtbcdaaobbebooaaGreatDoor
open Go.RowKit Go.Tab
theorem Dl:∀(m:Nat) (s:ByteArray) (L:List dR) (r:List ag) (d:Nat),(ai m (.mloop s L) r d).2.2=0->∃ks,(ai m (.mloop s L) r d).1=.mk iL iL ks
 |0,s,L,r,d,h=>by rw[ai] at h;cases h
 | m+1,s,L,r,d,h=>by
  rw[ai] at h ⊢
  by_cases h1:(ai m .choice r (d+1)).2.2=0
  ·rw[bP h1] at h ⊢
   by_cases h2:bK (r.drop (ai m .choice r (d+1)).2.1) jC=true
   ·rw[if_pos h2] at h ⊢
    exact Dl m s _ _ _ h
   ·rw[if_neg h2] at h ⊢
    by_cases h3:bK (r.drop (ai m .choice r (d+1)).2.1) s=true
    ·rw[if_pos h3];exact⟨_,rfl⟩
    ·rw[if_neg h3] at h
     unfold cZ at h;split at h<;>cases h
  ·rw[aZ h1] at h
   exact absurd h h1
theorem Gy(m:Nat)(s:ByteArray)(r:List ag)(d:Nat)(h:(ai m (.many s) r d).2.2=0):∃ks,(ai m (.many s) r d).1=.mk iL iL ks:=by
 cases m with
 |zero=>rw[ai] at h;cases h
 |succ m=>
  rw[ai] at h ⊢
  by_cases h1:64<=d
  ·rw[if_pos h1] at h;cases h
  ·rw[if_neg h1] at h ⊢
   by_cases h2:bK (r.drop 1) s=true
   ·rw[if_pos h2];exact⟨_,rfl⟩
   ·rw[if_neg h2] at h ⊢
    exact Dl m s _ _ _ h
theorem af.named{P:Nat->Prop}{w:World}{o t o1 t1:ByteArray}{ks:List dR}{sl:Value}(h:af P w (.mk o t ks) (dQ o1 t1 sl))(o2 t2:ByteArray):af P w (.mk o2 t2 ks) (dQ o2 t2 sl):=by
 simp only[af] at h ⊢;obtain⟨a,Aa,h1,h2⟩:=h;simp only[List.cons.injEq,and_true] at h1;obtain⟨-,-,rfl⟩:=h1;exact⟨a,Aa,rfl,h2⟩
theorem af.words{P:Nat->Prop}{w:World}{o t o1 t1:ByteArray}{ks:List dR}{sl:Value}(h:af P w (.mk o t ks) (dQ o1 t1 sl)):o1=o/\t1=t:=by
 simp only[af] at h;obtain⟨a,Aa,h1,h2⟩:=h;simp only[List.cons.injEq,and_true,Value.string.injEq] at h1;exact⟨h1.1,h1.2.1⟩
theorem CP(s x:ByteArray)(h:jD s=some x):∃p e:Int,bQ (aV (bs s))=.agg #[.string x,.int .i64 p,.int .i64 e]:=by
 unfold jD at h;unfold bQ;rw[show bs s=nb s.data.toList from rfl];split at h
 ·simp only[Option.some.injEq] at h
  subst h;exact⟨_,_,rfl⟩
 ·cases h
theorem AV(m:Nat)(hM:MC m)(hC:CC m):QC (m+1):=by
 intro w lv l k d h hk hd hne;obtain⟨a,c,rfl,B4,Bv⟩:=h.sl;have A5:=h.few;unfold maxLen at Bv;have AK:=vJ.start h;obtain⟨R,hR⟩:=exq (ai (m+1) .prime (l.drop k) d);rw[<-hR] at hne ⊢;have Aa:=lC (w.alloc (.cells mR 163)) (.slice a l.length c) l k AK.l.toks A5 hk;have AU:Hid ((cZ (l.drop k) 0).2.2≠0):=Hh (by unfold cZ;split<;>simp)
 by_cases hkl:k<l.length
 ·have AW:l.drop k=l[k]::l.drop (k+1):=List.drop_eq_getElem_cons hkl
  have Ab:=fun s=>fC (w.alloc (.cells mR 163)) (.slice a l.length c) l k s AK.l.toks A5 (by omega);have Ac:=fun s=>fC (w.alloc (.cells mR 163)) (.slice a l.length c) l (k+1) s AK.l.toks A5 (by omega);rw[show ((k+1:Nat):Int)=(k:Int)+1 by omega] at Ac;obtain⟨bb,Be,rfl,By,q0,q1,q2⟩:=h.toks.get hkl;have As:=h.quo l[k] (List.getElem_mem hkl);have A8:=h.short l[k] (List.getElem_mem hkl);have Ay:∀s,bK (l.drop k) s=(decide (l[k].kind=4)&&decide (l[k].text=s)):=fun s=>by rw[AW];rfl
  rw[AW,ai,<-AW] at hR;obtain⟨kd,Bf⟩:∃z,l[k].kind=z:=⟨_,rfl⟩;obtain⟨tx,Bt⟩:∃z,l[k].text=z:=⟨_,rfl⟩;simp only[Bf,Bt] at hR Ay As A8 q0 q1;clear q2 Bf Bt AW;have Aw:=Hh AK;clear h AK
  by_cases k1:kd=1
  ·subst k1
   have Az:bK (l.drop k) AO=false:=by rw[Ay];rfl
   have Ax:bK (l.drop k) AP=false:=by rw[Ay];rfl
   rw[if_pos rfl] at hR
   by_cases hp1:bK (l.drop (k+1)) AO=true
   ·rw[if_pos hp1] at hR
    have Bw:=oq hp1
    have A2:(ai m (.many p9) (l.drop (k+1)) d).2.2≠-1:=by
     rw[hR] at hne;exact gI (g:=dO 1 (ai m (.many p9) (l.drop (k+1)) d)) hne
    have AL:=Gy m p9 (l.drop (k+1)) d;have A7:=hM _ _ l (k+1) d p9 Aw.out.l Bw hd (.inl rfl) A2;rw[show ((k+1:Nat):Int)=(k:Int)+1 by omega] at A7;generalize ai m (.many p9) (l.drop (k+1)) d=R2 at *;obtain⟨x2,n2,e2⟩:=R2;simp only at AL A2;have HR:=Hh hR;have AX:=Hh AL;clear hR AL A2 hne Aa Ay As A8;go_enter Tryz.func237,Tryz.ntmps237;go_wp2_with (go_at_call 194;(first|with_reducible refine (Ab _).mono ?_|with_reducible refine (Ac _).mono ?_);rintro _ _ ⟨rfl,rfl⟩;simp only[Az,Ax,hp1])
    clear Ab Ac;refine (A7).mono ?_;clear A7;rintro _ w6 ⟨hbX,o2,t2,a2,m2,c2,heX,hXX⟩;simp only at heX hXX;obtain⟨p2,A1⟩:∃pz:Nat,pz=k+1+n2:=⟨_,rfl⟩;rw[<-A1] at heX;subst heX;have A3:=Hh A1;clear A1;have A0:=Aw.out.go hbX;have Av:=A0.q;have Bg:=Av.lt;have q6:=(hbX.cell (p:=⟨bb,Be+k*3+1,none⟩) (by simp only[World.size_alloc];omega)).trans ((World.cell?_alloc_past _ _ _ By).trans q1);have Bz:bb<w6.heap.size:=by have:=A0.b.size;omega
    have AM:=Hh (fun h=>Aw.out.exp (hXX h));have H6:=Hh A0;clear hbX hXX Aw A0 q0 q1
    by_cases he2:e2=0
    ·subst he2
     obtain⟨ks,AZ⟩:=AX.out (by first|trivial|rfl);subst AZ;have At:Hid (R=(.mk kD tx ks,1+n2,0)):=Hh (by rw[HR.out,bP (by rfl)];rfl);have AQ:=(AM.out (by first|trivial|rfl)).named kD tx;have AN:=Hh AQ;clear HR AQ;obtain⟨Ai,An,Aj,Ao,Ak,Ap,Al,Aq,Am,Ar⟩:=Av.n5 rfl;clear Av;go_wp2_with fail;have hq:=(((((H6.out.q.setI 0 (.string kD)).setI 1 (.string tx)).setI 2 (.slice a2 m2 c2)).setI 3 (.int .i64 p2)).setI 4 (.int .i64 0)).alloc (.cells (aW kD tx (.slice a2 m2 c2) p2 0) 163);have Au:=fB (vs:=[.string kD,.string tx,.slice a2 m2 c2,.int .i64 p2,.int .i64 0]) H6.out.b (.cells (aW kD tx (.slice a2 m2 c2) p2 0) 163);obtain⟨Ad,Ae,Af,Ag,Ah⟩:=hq.m5 rfl;refine bodyPost_ret (v:=.agg (#[.string kD,.string tx,.slice a2 m2 c2,.int .i64 p2,.int .i64 0])) (by simp[results,Tryz.results237,go_sem,Ad,Ae,Af,Ag,Ah]) rfl ?_;rw[At.out];have AS:=tF (vs:=[.string kD,.string tx,.slice a2 m2 c2,.int .i64 p2,.int .i64 0]) AN.out (.cells (aW kD tx (.slice a2 m2 c2) p2 0) 163);exact cO (r:=(.mk kD tx ks,1+n2,0)) (by simp only;have:=A3.out;omega) rfl Au (fun _=>AS)
    ·have e0:(e2==0)=false:=by simpa using he2
     have At:Hid (R=(aU,1+n2,e2)):=Hh (by rw[HR.out,aZ (by exact he2)];rfl);clear HR;obtain⟨Ai,An,Aj,Ao,Ak,Ap,Al,Aq,Am,Ar⟩:=Av.n5 rfl;clear Av;go_wp2_with fail;have hq:=(((((H6.out.q.setI 0 (.string o2)).setI 1 (.string t2)).setI 2 (.slice a2 m2 c2)).setI 3 (.int .i64 p2)).setI 4 (.int .i64 e2)).alloc (.cells (aW o2 t2 (.slice a2 m2 c2) p2 e2) 163);have Au:=fB (vs:=[.string o2,.string t2,.slice a2 m2 c2,.int .i64 p2,.int .i64 e2]) H6.out.b (.cells (aW o2 t2 (.slice a2 m2 c2) p2 e2) 163);obtain⟨Ad,Ae,Af,Ag,Ah⟩:=hq.m5 rfl;refine bodyPost_ret (v:=.agg (#[.string o2,.string t2,.slice a2 m2 c2,.int .i64 p2,.int .i64 e2])) (by simp[results,Tryz.results237,go_sem,Ad,Ae,Af,Ag,Ah]) rfl ?_;rw[At.out];exact cO (r:=(aU,1+n2,e2)) (by simp only;have:=A3.out;omega) rfl Au (fun h=>absurd h he2)
   ·have hp1:bK (l.drop (k+1)) AO=false:=by simpa using hp1
    rw[if_neg (by rw[hp1];decide)] at hR;have HR:=Hh hR;clear hR hne Aa Ay As A8;go_enter Tryz.func237,Tryz.ntmps237;go_wp2_with (go_at_call 194;(first|with_reducible refine (Ab _).mono ?_|with_reducible refine (Ac _).mono ?_);rintro _ _ ⟨rfl,rfl⟩;simp only[Az,Ax,hp1])
    have hq:=ae.new w (aW qO tx (.slice none 0 0) ((k:Int)+1) 0) 163;obtain⟨Ad,Ae,Af,Ag,Ah⟩:=hq.m5 rfl;refine bodyPost_ret (v:=.agg (aW qO tx (.slice none 0 0) ((k:Int)+1) 0)) (by simp[results,Tryz.results237,go_sem,Ad,Ae,Af,Ag,Ah]) rfl ?_;rw[HR.out];exact cO (r:=(.mk qO tx [],1,0)) (by simp only;omega) rfl ((Below.refl _ w).alloc lz _) (fun _=>af.leaf _ _ _ _)
  ·rw[if_neg k1] at hR
   have Bu:(kd==1)=false:=by simpa using k1
   by_cases k2:kd=2
   ·subst k2
    have Az:bK (l.drop k) AO=false:=by rw[Ay];rfl
    have Ax:bK (l.drop k) AP=false:=by rw[Ay];rfl
    rw[if_pos rfl] at hR;have HR:=Hh hR;clear hR hne Aa Ay As A8 Ac Bu k1;go_enter Tryz.func237,Tryz.ntmps237;go_wp2_with (go_at_call 194;(first|with_reducible refine (Ab _).mono ?_|with_reducible refine (Ac _).mono ?_);rintro _ _ ⟨rfl,rfl⟩;simp only[Az,Ax])
    have hq:=ae.new w (aW yY tx (.slice none 0 0) ((k:Int)+1) 0) 163;obtain⟨Ad,Ae,Af,Ag,Ah⟩:=hq.m5 rfl;refine bodyPost_ret (v:=.agg (aW yY tx (.slice none 0 0) ((k:Int)+1) 0)) (by simp[results,Tryz.results237,go_sem,Ad,Ae,Af,Ag,Ah]) rfl ?_;rw[HR.out];exact cO (r:=(.mk yY tx [],1,0)) (by simp only;omega) rfl ((Below.refl _ w).alloc lz _) (fun _=>af.leaf _ _ _ _)
   ·rw[if_neg k2] at hR
    have B1:(kd==2)=false:=by simpa using k2
    by_cases k3:kd=3
    ·subst k3
     have Az:bK (l.drop k) AO=false:=by rw[Ay];rfl
     have Ax:bK (l.drop k) AP=false:=by rw[Ay];rfl
     rw[if_pos rfl] at hR
     obtain⟨x,hx⟩:∃x,jD tx=some x:=by
      cases hq:jD tx with
      |none=>exact absurd hq (As rfl)
      |some x=>exact⟨x,rfl⟩
     rw[hx] at hR;simp only at hR;obtain⟨pp,ee,Bi⟩:=CP tx x hx;have Bc:=rE tx (w.alloc (.cells mR 163)) A8;rw[Bi] at Bc;have HR:=Hh hR;clear hR hne Aa Ay As A8 Ac Bu k1 B1 k2 hx Bi;go_enter Tryz.func237,Tryz.ntmps237;go_wp2_with (go_at_call 194;(first|with_reducible refine (Ab _).mono ?_|with_reducible refine (Ac _).mono ?_);rintro _ _ ⟨rfl,rfl⟩;simp only[Az,Ax])
     refine Bc.mono ?_;clear Bc Ab;have B2:∀w:World,(Instr.field 126 (.agg #[.string x,.int .i64 pp,.int .i64 ee]) 0).run Tryz.prog w=.ok (.string x) w:=fun _=>by kernel_rfl
     rintro _ w4 ⟨rfl,hbX⟩;have AY:=Aw.out.go hbX;have Bb:=AY.q;have B3:=Bb.lt;have H4:=Hh AY;clear AY hbX q0 q1 Aw;obtain⟨Bj,Bo,Bk,Bp,Bl,Bq,Bm,Br,Bn,Bs⟩:=Bb.n5 rfl;clear Bb;go_wp2_with fail;have hq:=((((H4.out.q.setI 0 (.string pu)).setI 1 (.string x)).setI 2 (.slice none 0 0)).setI 3 (.int .i64 ((k:Int)+1))).setI 4 (.int .i64 0);have Au:=df H4.out.b [.string pu,.string x,.slice none 0 0,.int .i64 ((k:Int)+1),.int .i64 0];obtain⟨Ad,Ae,Af,Ag,Ah⟩:=hq.m5 rfl;refine bodyPost_ret (v:=.agg (#[.string pu,.string x,.slice none 0 0,.int .i64 ((k:Int)+1),.int .i64 0])) (by simp[results,Tryz.results237,go_sem,Ad,Ae,Af,Ag,Ah]) rfl ?_;rw[HR.out];exact cO (r:=(.mk pu x [],1,0)) (by simp only;omega) rfl Au (fun _=>af.leaf _ _ _ _)
    ·rw[if_neg k3] at hR
     have B5:(kd==3)=false:=by simpa using k3
     clear Ac
     by_cases Ax:bK (l.drop k) AP=true
     ·have Az:bK (l.drop k) AO=false:=by
       rw[Ay] at Ax ⊢;simp only[Bool.and_eq_true,decide_eq_true_eq] at Ax;rw[Ax.2,Ax.1];decide
      rw[if_pos Ax] at hR
      have A2:(ai m (.many o9) (l.drop k) d).2.2≠-1:=by
       rw[hR] at hne;exact gI hne
      have AL:=Gy m o9 (l.drop k) d;have A7:=hM _ _ l k d o9 Aw.out.l hkl hd (.inr rfl) A2;generalize ai m (.many o9) (l.drop k) d=R2 at *;obtain⟨x2,n2,e2⟩:=R2;simp only at AL A2;have HR:=Hh hR;have AX:=Hh AL;clear hR AL A2 hne Aa Ay As A8;go_enter Tryz.func237,Tryz.ntmps237;go_wp2_with (go_at_call 194;(first|with_reducible refine (Ab _).mono ?_|with_reducible refine (Ac _).mono ?_);rintro _ _ ⟨rfl,rfl⟩;simp only[Az,Ax])
      clear Ab;refine (A7).mono ?_;clear A7;rintro _ w6 ⟨hbX,o2,t2,a2,m2,c2,heX,hXX⟩;simp only at heX hXX;obtain⟨p2,A1⟩:∃pz:Nat,pz=k+n2:=⟨_,rfl⟩;rw[<-A1] at heX;subst heX;have A3:=Hh A1;clear A1;have A0:=Aw.out.go hbX;have Av:=A0.q;have Bg:=Av.lt;have AM:=Hh (fun h=>Aw.out.exp (hXX h));have H6:=Hh A0;clear hbX hXX Aw A0 q0 q1
      by_cases he2:e2=0
      ·subst he2
       obtain⟨ks,AZ⟩:=AX.out (by first|trivial|rfl);subst AZ;obtain⟨-,B0⟩:=(AM.out (by first|trivial|rfl)).words;subst B0;have At:Hid (R=(.mk kz iL ks,n2,0)):=Hh (by rw[HR.out,bP (by rfl)];rfl);have AQ:=(AM.out (by first|trivial|rfl)).named kz iL;have AN:=Hh AQ;clear HR AQ;obtain⟨Ai,An,Aj,Ao,Ak,Ap,Al,Aq,Am,Ar⟩:=Av.n5 rfl;clear Av;go_wp2_with fail;have hq:=(((((H6.out.q.setI 0 (.string kz)).setI 1 (.string iL)).setI 2 (.slice a2 m2 c2)).setI 3 (.int .i64 p2)).setI 4 (.int .i64 0)).alloc (.cells (aW kz iL (.slice a2 m2 c2) p2 0) 163);have Au:=fB (vs:=[.string kz,.string iL,.slice a2 m2 c2,.int .i64 p2,.int .i64 0]) H6.out.b (.cells (aW kz iL (.slice a2 m2 c2) p2 0) 163);obtain⟨Ad,Ae,Af,Ag,Ah⟩:=hq.m5 rfl;refine bodyPost_ret (v:=.agg (#[.string kz,.string iL,.slice a2 m2 c2,.int .i64 p2,.int .i64 0])) (by simp[results,Tryz.results237,go_sem,Ad,Ae,Af,Ag,Ah]) rfl ?_;rw[At.out];have AS:=tF (vs:=[.string kz,.string iL,.slice a2 m2 c2,.int .i64 p2,.int .i64 0]) AN.out (.cells (aW kz iL (.slice a2 m2 c2) p2 0) 163)
       exact cO (r:=(.mk kz iL ks,n2,0)) (by simp only;have:=A3.out;omega) rfl Au (fun _=>AS)
      ·have e0:(e2==0)=false:=by simpa using he2
       have At:Hid (R=(aU,n2,e2)):=Hh (by rw[HR.out,aZ (by exact he2)]);clear HR;obtain⟨Ai,An,Aj,Ao,Ak,Ap,Al,Aq,Am,Ar⟩:=Av.n5 rfl;clear Av;go_wp2_with fail;have hq:=(((((H6.out.q.setI 0 (.string o2)).setI 1 (.string t2)).setI 2 (.slice a2 m2 c2)).setI 3 (.int .i64 p2)).setI 4 (.int .i64 e2)).alloc (.cells (aW o2 t2 (.slice a2 m2 c2) p2 e2) 163);have Au:=fB (vs:=[.string o2,.string t2,.slice a2 m2 c2,.int .i64 p2,.int .i64 e2]) H6.out.b (.cells (aW o2 t2 (.slice a2 m2 c2) p2 e2) 163);obtain⟨Ad,Ae,Af,Ag,Ah⟩:=hq.m5 rfl;refine bodyPost_ret (v:=.agg (#[.string o2,.string t2,.slice a2 m2 c2,.int .i64 p2,.int .i64 e2])) (by simp[results,Tryz.results237,go_sem,Ad,Ae,Af,Ag,Ah]) rfl ?_;rw[At.out];exact cO (r:=(aU,n2,e2)) (by simp only;have:=A3.out;omega) rfl Au (fun h=>absurd h he2)
     ·have Ax:bK (l.drop k) AP=false:=by simpa using Ax
      rw[if_neg (by rw[Ax];decide)] at hR
      by_cases Az:bK (l.drop k) AO=true
      ·rw[if_pos Az] at hR
       by_cases hd64:64<=d
       ·have At:Hid (R=(aU,0,5)):=Hh (by rw[hR,if_pos hd64];rfl)
        clear hR hne Aa Ay As A8;go_enter Tryz.func237,Tryz.ntmps237;go_wp2_with (go_at_call 194;(first|with_reducible refine (Ab _).mono ?_|with_reducible refine (Ac _).mono ?_);rintro _ _ ⟨rfl,rfl⟩;simp only[Az])
        have hq:=ae.new w (aW ⟨#[]⟩ ⟨#[]⟩ (.slice none 0 0) (k:Int) 5) 163;obtain⟨Ad,Ae,Af,Ag,Ah⟩:=hq.m5 rfl;refine bodyPost_ret (v:=.agg (aW ⟨#[]⟩ ⟨#[]⟩ (.slice none 0 0) (k:Int) 5)) (by simp[results,Tryz.results237,go_sem,Ad,Ae,Af,Ag,Ah]) rfl ?_;rw[At.out];exact cO (r:=(aU,0,5)) (by simp) rfl ((Below.refl _ w).alloc lz _) (fun h=>by cases h)
       ·rw[if_neg hd64] at hR
        have A2:(ai m .choice (l.drop (k+1)) (d+1)).2.2≠-1:=by
         rw[hR] at hne;exact gI (g:=dO 1 (ai m .choice (l.drop (k+1)) (d+1))) hne
        have AR:=(eT m .choice (l.drop (k+1)) (d+1) trivial A2).1;rw[List.length_drop] at AR;have A7:=hC _ _ l (k+1) (d+1) Aw.out.l (by omega) (by omega) A2;rw[show ((k+1:Nat):Int)=(k:Int)+1 by omega,show ((d+1:Nat):Int)=(d:Int)+1 by omega] at A7;generalize ai m .choice (l.drop (k+1)) (d+1)=R2 at *;obtain⟨x2,n2,e2⟩:=R2;simp only at A2 AR;have HR:=Hh hR;clear hR A2 hne Aa Ay As A8;go_enter Tryz.func237,Tryz.ntmps237;go_wp2_with (go_at_call 194;(first|with_reducible refine (Ab _).mono ?_|with_reducible refine (Ac _).mono ?_);rintro _ _ ⟨rfl,rfl⟩;simp only[Az])
        clear Ab;refine (A7).mono ?_;clear A7;rintro _ w6 ⟨hbX,o2,t2,a2,m2,c2,heX,hXX⟩;simp only at heX hXX;obtain⟨p2,A1⟩:∃pz:Nat,pz=k+1+n2:=⟨_,rfl⟩;rw[<-A1] at heX;subst heX;have A3:=Hh A1;clear A1;have A0:=Aw.out.go hbX;have Av:=A0.q;have Bg:=Av.lt;have AM:=Hh (fun h=>Aw.out.exp (hXX h));have H6:=Hh A0;clear hbX hXX Aw A0 q0 q1
        by_cases he2:e2=0
        ·subst he2
         have Ba:p2<=l.length:=by have:=A3.out;omega
         have Bd:=fun s=>fC (w6.alloc (.cells (aW o2 t2 (.slice a2 m2 c2) p2 0) 163)) (.slice (some ⟨bb,Be,none⟩) l.length c) l p2 s (H6.out.next _).l.toks A5 (by omega);have Aa:=lC (w6.alloc (.cells (aW o2 t2 (.slice a2 m2 c2) p2 0) 163)) (.slice (some ⟨bb,Be,none⟩) l.length c) l p2 (H6.out.next _).l.toks A5 Ba
         have AT:Hid (R=if bK (l.drop p2) p9=false then cZ (l.drop p2) (1+n2) else (x2,1+n2+1,0)):=Hh (by
          have A1:=A3.out;rw[HR.out,bP (by rfl)];simp only[List.drop_drop,dO]
          rw[show k+(1+n2)=p2 by omega])
         clear HR
         by_cases hrp:bK (l.drop p2) p9=false
         ·have At:Hid (R=(aU,1+n2,(cZ (l.drop p2) 0).2.2)):=Hh (by rw[AT.out,if_pos hrp,rX])
          have AU:Hid ((cZ (l.drop p2) 0).2.2≠0):=Hh (by unfold cZ;split<;>simp);generalize (cZ (l.drop p2) 0).2.2=eb at *;clear AT;obtain⟨Ai,An,Aj,Ao,Ak,Ap,Al,Aq,Am,Ar⟩:=Av.n5 rfl;clear Av;go_wp2_with (go_at_call 194;refine (Bd _).mono ?_;rintro _ _ ⟨rfl,rfl⟩;simp only[hrp])
          refine Aa.mono ?_;clear Aa Bd Ai Aj Ak Al Am An Ao Ap Aq Ar;rintro _ w8 ⟨rfl,hb8⟩;have A4:=(H6.out.next (.cells (aW o2 t2 (.slice a2 m2 c2) p2 0) 163)).go hb8;have A6:=A4.q;have Bh:=A6.lt;have A9:=Hh A4;clear A4 hb8;obtain⟨AA,AF,AB,AG,AC,AH,AD,AI,AE,AJ⟩:=A6.n5 rfl;clear A6;go_wp2_with fail;have hq:=((((A9.out.q.setI 0 (.string ⟨#[]⟩)).setI 1 (.string ⟨#[]⟩)).setI 2 (.slice none 0 0)).setI 3 (.int .i64 p2)).setI 4 (.int .i64 eb);have Au:=df A9.out.b [.string ⟨#[]⟩,.string ⟨#[]⟩,.slice none 0 0,.int .i64 p2,.int .i64 eb];obtain⟨Ad,Ae,Af,Ag,Ah⟩:=hq.m5 rfl;refine bodyPost_ret (v:=.agg (#[.string ⟨#[]⟩,.string ⟨#[]⟩,.slice none 0 0,.int .i64 p2,.int .i64 eb])) (by simp[results,Tryz.results237,go_sem,Ad,Ae,Af,Ag,Ah]) rfl ?_;rw[At.out];exact cO (r:=(aU,1+n2,eb)) (by simp only;have:=A3.out;omega) rfl Au (fun h=>absurd h AU.out)
         ·have hrp:bK (l.drop p2) p9=true:=by simpa using hrp
          have At:Hid (R=(x2,1+n2+1,0)):=Hh (by rw[AT.out,if_neg (by rw[hrp];decide)]);have AN:=Hh (AM.out (by first|trivial|rfl));clear AT Aa;obtain⟨Ai,An,Aj,Ao,Ak,Ap,Al,Aq,Am,Ar⟩:=Av.n5 rfl;clear Av;go_wp2_with (go_at_call 194;refine (Bd _).mono ?_;rintro _ _ ⟨rfl,rfl⟩;simp only[hrp])
          have hq:=(((((H6.out.q.setI 0 (.string o2)).setI 1 (.string t2)).setI 2 (.slice a2 m2 c2)).setI 3 (.int .i64 ((p2:Int)+1))).setI 4 (.int .i64 0)).alloc (.cells (aW o2 t2 (.slice a2 m2 c2) p2 0) 163);have Au:=fB (vs:=[.string o2,.string t2,.slice a2 m2 c2,.int .i64 ((p2:Int)+1),.int .i64 0]) H6.out.b (.cells (aW o2 t2 (.slice a2 m2 c2) p2 0) 163);obtain⟨Ad,Ae,Af,Ag,Ah⟩:=hq.m5 rfl;refine bodyPost_ret (v:=.agg (#[.string o2,.string t2,.slice a2 m2 c2,.int .i64 ((p2:Int)+1),.int .i64 0])) (by simp[results,Tryz.results237,go_sem,Ad,Ae,Af,Ag,Ah]) rfl ?_;rw[At.out];have AS:=tF (vs:=[.string o2,.string t2,.slice a2 m2 c2,.int .i64 ((p2:Int)+1),.int .i64 0]) AN.out (.cells (aW o2 t2 (.slice a2 m2 c2) p2 0) 163);exact cO (r:=(x2,1+n2+1,0)) (by simp only;have:=A3.out;omega) rfl Au (fun _=>AS)
        ·have e0:(e2 != 0)=true:=by simpa using he2
         have At:Hid (R=(aU,1+n2,e2)):=Hh (by rw[HR.out,aZ (by exact he2)];rfl);clear HR;obtain⟨Ai,An,Aj,Ao,Ak,Ap,Al,Aq,Am,Ar⟩:=Av.n5 rfl;clear Av;go_wp2_with fail;have hq:=(((((H6.out.q.setI 0 (.string o2)).setI 1 (.string t2)).setI 2 (.slice a2 m2 c2)).setI 3 (.int .i64 p2)).setI 4 (.int .i64 e2)).alloc (.cells (aW o2 t2 (.slice a2 m2 c2) p2 e2) 163);have Au:=fB (vs:=[.string o2,.string t2,.slice a2 m2 c2,.int .i64 p2,.int .i64 e2]) H6.out.b (.cells (aW o2 t2 (.slice a2 m2 c2) p2 e2) 163);obtain⟨Ad,Ae,Af,Ag,Ah⟩:=hq.m5 rfl;refine bodyPost_ret (v:=.agg (#[.string o2,.string t2,.slice a2 m2 c2,.int .i64 p2,.int .i64 e2])) (by simp[results,Tryz.results237,go_sem,Ad,Ae,Af,Ag,Ah]) rfl ?_;rw[At.out];exact cO (r:=(aU,1+n2,e2)) (by simp only;have:=A3.out;omega) rfl Au (fun h=>absurd h he2)
      ·have Az:bK (l.drop k) AO=false:=by simpa using Az
       rw[if_neg (by rw[Az];decide)] at hR;have At:Hid (R=(aU,0,(cZ (l.drop k) 0).2.2)):=Hh (by rw[hR,rX]);generalize (cZ (l.drop k) 0).2.2=eb at *;clear hR hne Ay As A8;go_enter Tryz.func237,Tryz.ntmps237;go_wp2_with (go_at_call 194;(first|with_reducible refine (Ab _).mono ?_|with_reducible refine (Ac _).mono ?_);rintro _ _ ⟨rfl,rfl⟩;simp only[Az,Ax])
       refine Aa.mono ?_;clear Aa Ab;rintro _ w8 ⟨rfl,hb8⟩;have A4:=Aw.out.go hb8;have A6:=A4.q;have Bh:=A6.lt;have A9:=Hh A4;clear A4 hb8 q0 q1;obtain⟨AA,AF,AB,AG,AC,AH,AD,AI,AE,AJ⟩:=A6.n5 rfl;clear A6;go_wp2_with fail;have hq:=((((A9.out.q.setI 0 (.string ⟨#[]⟩)).setI 1 (.string ⟨#[]⟩)).setI 2 (.slice none 0 0)).setI 3 (.int .i64 (k:Nat))).setI 4 (.int .i64 eb);have Au:=df A9.out.b [.string ⟨#[]⟩,.string ⟨#[]⟩,.slice none 0 0,.int .i64 (k:Nat),.int .i64 eb];obtain⟨Ad,Ae,Af,Ag,Ah⟩:=hq.m5 rfl;refine bodyPost_ret (v:=.agg (#[.string ⟨#[]⟩,.string ⟨#[]⟩,.slice none 0 0,.int .i64 (k:Nat),.int .i64 eb])) (by simp[results,Tryz.results237,go_sem,Ad,Ae,Af,Ag,Ah]) rfl ?_;rw[At.out];exact cO (r:=(aU,0,eb)) (by simp) rfl Au (fun h=>absurd h AU.out)
 ·have Bx:l.drop k=[]:=List.drop_eq_nil_of_le (by omega)
  have At:Hid (R=(aU,0,(cZ (l.drop k) 0).2.2)):=Hh (by rw[hR,Bx,ai,rX]);generalize (cZ (l.drop k) 0).2.2=eb at *;have Aw:=Hh AK;clear hR hne AK h;go_enter Tryz.func237,Tryz.ntmps237;go_wp2_with fail;refine Aa.mono ?_;clear Aa;rintro _ w8 ⟨rfl,hb8⟩;have A4:=Aw.out.go hb8;have A6:=A4.q;have Bh:=A6.lt;have A9:=Hh A4;clear A4 hb8;obtain⟨AA,AF,AB,AG,AC,AH,AD,AI,AE,AJ⟩:=A6.n5 rfl;clear A6;go_wp2_with fail;have hq:=((((A9.out.q.setI 0 (.string ⟨#[]⟩)).setI 1 (.string ⟨#[]⟩)).setI 2 (.slice none 0 0)).setI 3 (.int .i64 (k:Nat))).setI 4 (.int .i64 eb);have Au:=df A9.out.b [.string ⟨#[]⟩,.string ⟨#[]⟩,.slice none 0 0,.int .i64 (k:Nat),.int .i64 eb];obtain⟨Ad,Ae,Af,Ag,Ah⟩:=hq.m5 rfl;refine bodyPost_ret (v:=.agg (#[.string ⟨#[]⟩,.string ⟨#[]⟩,.slice none 0 0,.int .i64 (k:Nat),.int .i64 eb])) (by simp[results,Tryz.results237,go_sem,Ad,Ae,Af,Ag,Ah]) rfl ?_;rw[At.out];exact cO (r:=(aU,0,eb)) (by simp) rfl Au (fun h=>absurd h AU.out)
theorem Kg:∀m,CC m/\TC m/\XC m/\PC m/\QC m/\MC m:=by
 intro m
 induction m using Nat.strongRecOn with
 |ind m ih=>
  cases m with
  |zero=>
   refine⟨?_,?_,?_,?_,?_,?_⟩
   ·intro w lv l k d _ _ _ hne;exact absurd (kR _ _ _) hne
   ·intro w lv l k d n _ _ _ _ _ hne;exact absurd (kR _ _ _) hne
   ·intro w lv l k d _ _ _ hne;exact absurd (kR _ _ _) hne
   ·intro w lv l k d _ _ _ hne;exact absurd (kR _ _ _) hne
   ·intro w lv l k d _ _ _ hne;exact absurd (kR _ _ _) hne
   ·intro w lv l k d s _ _ _ _ hne;exact absurd (kR _ _ _) hne
  |succ m=>
   have hm:=ih m (Nat.lt_succ_self m);have hc:∀j,j<=m->CC j:=fun j hj=>(ih j (by omega)).1;have ht:∀j,j<=m->TC j:=fun j hj=>(ih j (by omega)).2.1;exact⟨yS m hm.2.1 hm.1,Ct m hm.2.2.1 ht,yR m hm.2.2.2.1 hm.2.2.1,Cv m hm.2.2.2.2.1 hc,AV m hm.2.2.2.2.2 hm.1,Cx m hc⟩
theorem Cw(w:World)(lv:Value)(l:List ag)(h:aH w lv l)(hsh:∀t∈l,t.text.size<=1048576)(hq:∀t∈l,t.kind=3->jD t.text≠none) :
  Calls Tryz.prog 135 #[lv] w (GP 0 (gp l) w):=by
 obtain⟨a0,c0,rfl,Ay,Ax,-⟩:=h.len;unfold maxLen at Ax
 by_cases hbig:1000<l.length
 ·have hR:gp l=(aU,1000,4):=by unfold gp;rw[if_pos hbig]
  have HR:=Hh hR;clear hR h hsh hq;go_enter Tryz.func135,Tryz.ntmps135;go_wp2_with fail;have hq:=ae.new w (aW ⟨#[]⟩ ⟨#[]⟩ (.slice none 0 0) 1000 4) 163;obtain⟨Af,Ag,Ah,Ai,Aj⟩:=hq.m5 rfl;refine bodyPost_ret (v:=.agg (aW ⟨#[]⟩ ⟨#[]⟩ (.slice none 0 0) 1000 4)) (by simp[results,Tryz.results135,go_sem,Af,Ag,Ah,Ai,Aj]) rfl ?_;rw[HR.out];exact cO (r:=(aU,1000,4)) (by simp) rfl ((Below.refl _ w).alloc lz _) (fun h=>by cases h)
 ·have hf:=nC (gT .choice l) .choice l 0 lz (by simp only[Nt.okX])
  have hR:gp l=if (ai (gT .choice l) .choice l 0).2.2=0 then ai (gT .choice l) .choice l 0 else (aU,(ai (gT .choice l) .choice l 0).2):=by unfold gp;rw[if_neg hbig]
  have Ab:=vJ.start (w:=w) (lv:=.slice a0 l.length c0) (l:=l) ⟨h,by omega,hsh,hq⟩;have Ad:=(Kg (gT .choice l)).1 _ _ l 0 0 Ab.l (by omega) (by omega) (by rw[List.drop_zero];exact hf.1);rw[List.drop_zero] at Ad;generalize ai (gT .choice l) .choice l 0=r at *;obtain⟨x1,n1,e1⟩:=r;simp only at hR;have HR:=Hh hR;have Aa:=Hh Ab;clear hR hf h hsh hq Ab;go_enter Tryz.func135,Tryz.ntmps135;go_wp2_with fail;refine Ad.mono ?_;clear Ad;rintro _ w4 ⟨hbX,o1,t1,a1,m1,c1,heX,hXX⟩;simp only[Nat.zero_add] at heX hXX;subst heX;have Ac:=Aa.out.go hbX;have Aw:=Hh (fun h=>Aa.out.exp (hXX h));have Ae:=Ac.q;have Az:=Ae.lt;have Ak:=Hh Ac;clear hbX hXX Aa Ac;obtain⟨Am,Ar,An,As,Ao,At,Ap,Au,Aq,Av⟩:=Ae.n5 rfl;clear Ae;go_wp2_with fail;have hq:=((((Ak.out.q.setI 0 (.string o1)).setI 1 (.string t1)).setI 2 (.slice a1 m1 c1)).setI 3 (.int .i64 n1)).setI 4 (.int .i64 e1);have Al:=df Ak.out.b [.string o1,.string t1,.slice a1 m1 c1,.int .i64 n1,.int .i64 e1];obtain⟨Af,Ag,Ah,Ai,Aj⟩:=hq.m5 rfl;refine bodyPost_ret (v:=.agg (#[.string o1,.string t1,.slice a1 m1 c1,.int .i64 n1,.int .i64 e1])) (by simp[results,Tryz.results135,go_sem,Af,Ag,Ah,Ai,Aj]) rfl ?_
  rw[HR.out]
  by_cases he:e1=0
  ·rw[if_pos he]
   exact cO (r:=(x1,n1,e1)) (by simp) rfl Al (fun h=>mi (vs:=[.string o1,.string t1,.slice a1 m1 c1,.int .i64 n1,.int .i64 e1]) (Aw.out h))
  ·rw[if_neg he]
   exact cO (r:=(aU,n1,e1)) (by simp) rfl Al (fun h=>absurd h he)
abbrev bz(a e:Int):Array Value:=#[.slice none 0 0,.int .i64 0,.int .i64 a,.int .i64 e,.bool false,.string ⟨#[]⟩,.string ⟨#[]⟩,.string ⟨#[]⟩,.slice none 0 0,.slice none 0 0,.slice none 0 0]
abbrev Py(n:Int)(b:Bool)(nm vo vt:ByteArray)(vk lv iv:Value):Array Value:=#[.slice none 0 0,.int .i64 n,.int .i64 0,.int .i64 0,.bool b,.string nm,.string vo,.string vt,vk,lv,iv]
def cK(row:List ag)(stop:Int)(last:Bool)(i:Nat):Int×Int:=match row[i]? with
 |some t=>(t.pos,3)
 |none=>if last then (stop,2) else (stop,3)
theorem mr(row:List ag)(stop:Int)(last:Bool)(i:Nat):dZ row stop last i=.wrong (cK row stop last i).1 (cK row stop last i).2:=by
 unfold dZ cK
 cases row[i]? with
 |some t=>rfl
 |none=>cases last<;>rfl
theorem jR(a0:Option Addr)(n0 c0:Nat)(x1 x2 x3:Int)(b:Bool)(s1 s2 s3:ByteArray)(a1:Option Addr)(n1 c1:Nat)(a2:Option Addr)(n2 c2:Nat)(a3:Option Addr)(n3 c3:Nat) :
  ∀v∈(#[.slice a0 n0 c0,.int .i64 x1,.int .i64 x2,.int .i64 x3,.bool b,.string s1,.string s2,.string s3,.slice a1 n1 c1,.slice a2 n2 c2,.slice a3 n3 c3]:Array Value).toList,v.oneCell'=true:=by
 intro v hv;simp at hv
 rcases hv with rfl|rfl|rfl|rfl|rfl|rfl|rfl|rfl|rfl|rfl|rfl<;>rfl
theorem lK(w:World)(lv:Value)(l:List ag)(stop:Int)(last:Bool)(k:Nat)(s:ByteArray)(h:aH w lv l)(hl:l.length<=1000000)(hk:k<=2000000) :
  Calls Tryz.prog 91 #[.agg #[lv,.int .i64 stop,.bool last],.int .i64 (k:Nat),.string s] w fun e w'=>e=.returned (.bool (bK (l.drop k) s))/\Below w.heap.size w w':=by
 obtain⟨a,c,rfl,h1,h2,-⟩:=h.len;unfold maxLen at h2;have HB:=Hh ((Below.refl _ w).alloc lz (.cells #[.slice a l.length c,.int .i64 stop,.bool last] 137))
 by_cases hkl:k<l.length
 ·obtain⟨b,Ab,rfl,Aa,q0,q1,q2⟩:=h.get hkl
  have HD:Hid (bK (l.drop k) s=(decide (l[k].kind=4)&&decide (l[k].text=s))):=Hh (by rw[List.drop_eq_getElem_cons hkl];rfl);generalize l[k]=t at *;obtain⟨kd,tx,ps⟩:=t;simp only at q0 q1 HD;clear h q2
  have ek:(kd==4)=decide (kd=4):=by
   by_cases h:kd=4
   ·subst h;simp
   ·rw[decide_eq_false h];simpa using h
  have et:=zt tx s;generalize decide (kd=4)=bk at *;generalize decide (tx=s)=bt at *;go_enter Tryz.func91,Tryz.ntmps91;cases bk<;>cases bt
  all_goals
   go_wp2;go_ret;exact⟨by rw[HD.out];rfl,HB.out⟩
 ·have HD:Hid (bK (l.drop k) s=false):=Hh (by rw[List.drop_eq_nil_of_le (by omega)];rfl)
  clear h;go_enter Tryz.func91,Tryz.ntmps91;go_wp2;go_ret;exact⟨by rw[HD.out];rfl,HB.out⟩
theorem fu(w:World)(lv:Value)(l:List ag)(stop:Int)(last:Bool)(k:Nat)(h:aH w lv l)(hl:l.length<=1000000)(hk:k<=2000000) :
  Calls Tryz.prog 92 #[.agg #[lv,.int .i64 stop,.bool last],.int .i64 (k:Nat)] w fun e w'=>e=.returned (.agg (bz (cK l stop last k).1 (cK l stop last k).2))/\Below w.heap.size w w':=by
 obtain⟨a,c,rfl,h1,h2,-⟩:=h.len;unfold maxLen at h2;have HB:Hid (∀cs,Below w.heap.size w ((w.alloc (.cells #[.slice a l.length c,.int .i64 stop,.bool last] 137)).alloc (.cells cs 56))):=Hh (fun cs=>((Below.refl _ w).alloc lz _).alloc (by simp) _)
 by_cases hkl:k<l.length
 ·obtain⟨b,Al,rfl,Am,q0,q1,q2⟩:=h.get hkl
  have HD:Hid (cK l stop last k=(l[k].pos,3)):=Hh (by unfold cK;rw[List.getElem?_eq_getElem hkl]);generalize l[k]=t at *;obtain⟨kd,tx,ps⟩:=t;simp only at q2 HD;clear h q0 q1;go_enter Tryz.func92,Tryz.ntmps92;go_wp2;have hq:=ae.new (w.alloc (.cells #[.slice (some ⟨b,Al,none⟩) l.length c,.int .i64 stop,.bool last] 137)) (bz ps 3) 56;simp only[World.size_alloc] at hq;obtain⟨Ab,Ac,Ad,Ae,Af,Ag,Ah,Ai,Aj,Ak,Aa⟩:=hq.m11 rfl
  (try simp only[ak] at Ab Ac Ad Ae Af Ag Ah Ai Aj Ak Aa)
  refine bodyPost_ret (v:=.agg (bz ps 3)) (by simp[results,Tryz.results92,go_sem,Ab,Ac,Ad,Ae,Af,Ag,Ah,Ai,Aj,Ak,Aa]) rfl ?_;exact⟨by rw[HD.out],HB.out _⟩
 ·have HD:Hid (cK l stop last k=if last then (stop,2) else (stop,3)):=Hh (by unfold cK;rw[List.getElem?_eq_none (by omega)])
  clear h
  cases last with
  |true=>
   go_enter Tryz.func92,Tryz.ntmps92;go_wp2;have hq:=ae.new (w.alloc (.cells #[.slice a l.length c,.int .i64 stop,.bool true] 137)) (bz stop 2) 56;simp only[World.size_alloc] at hq;obtain⟨Ab,Ac,Ad,Ae,Af,Ag,Ah,Ai,Aj,Ak,Aa⟩:=hq.m11 rfl
   (try simp only[ak] at Ab Ac Ad Ae Af Ag Ah Ai Aj Ak Aa)
   refine bodyPost_ret (v:=.agg (bz stop 2)) (by simp[results,Tryz.results92,go_sem,Ab,Ac,Ad,Ae,Af,Ag,Ah,Ai,Aj,Ak,Aa]) rfl ?_;exact⟨by rw[HD.out];rfl,HB.out _⟩
  |false=>
   go_enter Tryz.func92,Tryz.ntmps92;go_wp2;have hq:=ae.new (w.alloc (.cells #[.slice a l.length c,.int .i64 stop,.bool false] 137)) (bz stop 3) 56;simp only[World.size_alloc] at hq;obtain⟨Ab,Ac,Ad,Ae,Af,Ag,Ah,Ai,Aj,Ak,Aa⟩:=hq.m11 rfl
   (try simp only[ak] at Ab Ac Ad Ae Af Ag Ah Ai Aj Ak Aa)
   refine bodyPost_ret (v:=.agg (bz stop 3)) (by simp[results,Tryz.results92,go_sem,Ab,Ac,Ad,Ae,Af,Ag,Ah,Ai,Aj,Ak,Aa]) rfl ?_;exact⟨by rw[HD.out];rfl,HB.out _⟩
inductive JH where
 |bad (a e:Int):JH
 |one (x:bA) (n:Nat):JH
def PS:oL->JH
 |.wrong a e=>.bad a e
 |.attr x=>.one x 1
 |.bare x=>.one x 1
 |_=>.bad 0 0
def OL(w:World)(r:JH)(e:Ending)(w':World):Prop:=Below w.heap.size w w'/\match r with
 |.bad a er=>e=.returned (.agg (bz a er))
 |.one x n=>∃b nm vo vt va vn vc la ln lc ia im ic,e=.returned (.agg (Py (n:Nat) b nm vo vt (.slice va vn vc) (.slice la ln lc) (.slice ia im ic)))/\aP (fun q=>w.heap.size<=q) w' x [.bool b,.string nm,.string vo,.string vt,.slice va vn vc,.slice la ln lc,.slice ia im ic]
theorem OL.bad{w w':World}{a er:Int}(hb:Below w.heap.size w w'):OL w (.bad a er) (.returned (.agg (bz a er))) w':=⟨hb,rfl⟩
theorem Lg{w w1 w2 W:World}{q B:Nat}{x:dR}{o t:ByteArray}{a:Option Addr}{n c:Nat}{vals:Array Value}(hq:q<B)(hB:w.heap.size<=q)(hX:af (fun b=>w1.heap.size<=b) w2 x [.string o,.string t,.slice a n c])(hal:Below w2.heap.size w2 W)(hz:w1.heap.size=B) :
  af (fun b=>w.heap.size<=b) (W.drew.setRow q vals) x [.string o,.string t,.slice a n c]:=
 af.move (w:=w2) (by rw[setRow_size];exact hal.size) (fun b hb hl=>by
  rw[setRow_other _ _ _ _ (by omega)]
  exact hal.block b hl) (fun b hb _=>by omega) _ _ hX
theorem ER(w:World)(t t2:ag)(row:List ag)(lv:Value)(stop:Int)(last:Bool)(hr:aH w lv (t::t2::row))(hn:row.length<=900000)(hsh:∀t∈row,t.text.size<=1048576)(hq:∀t∈row,t.kind=3->jD t.text≠none) :
  Calls Tryz.prog 93 #[.agg #[lv,.int .i64 stop,.bool last]] w (OL w (PS (jI (t::t2::row) stop last t.text))):=by
 obtain⟨ra,rc,rfl,AI,AJ,-⟩:=hr.len;obtain⟨N,hN⟩:=exq ((t::t2::row).length);have AE:N=row.length+2:=by rw[hN];simp
 rw[<-hN] at hr AI ⊢;unfold maxLen at AJ;have AF:N<=row.length+2/\row.length+2<=N:=by omega
 have HN:=Hh hN;clear hN AE;obtain⟨R,hR⟩:=exq (jI (t::t2::row) stop last t.text);have HR:=Hh hR;rw[<-hR];clear hR;have A8:Below w.heap.size w ((w.alloc (.cells #[.slice ra N rc,.int .i64 stop,.bool last] 137)).alloc (.cells (bz 0 0) 56)):=((Below.refl _ w).alloc lz _).alloc (by simp) _;have k0:=(ae.new w #[.slice ra N rc,.int .i64 stop,.bool last] 137).alloc (.cells (bz 0 0) 56);have k1:=ae.new (w.alloc (.cells #[.slice ra N rc,.int .i64 stop,.bool last] 137)) (bz 0 0) 56;simp only[World.size_alloc] at k1;have A4:=hr.below A8 lz;have AD:((w.alloc (.cells #[.slice ra N rc,.int .i64 stop,.bool last] 137)).alloc (.cells (bz 0 0) 56)).heap.size=w.heap.size+2:=by simp
 have HB:=Hh A8;have HK:=Jh k0 (And.intro k1 A4);clear hr A8 k0 k1 A4;go_enter Tryz.func93,Tryz.ntmps93;go_wp2_with (with_reducible first|refine jW ?_)
 refine Stop.out ?_;obtain⟨k0,k1,A4⟩:=HK.out;generalize (w.alloc (.cells #[.slice ra N rc,.int .i64 stop,.bool last] 137)).alloc (.cells (bz 0 0) 56)=w1 at *;refine mU rfl _ _ _ rfl Tryz.underlying22 (by kernel_rfl) (t::t2::row) (by exact A4) .i64 2 2 rfl rfl (by simp) ?_;intro v' hv' hvb;simp only[List.drop_succ_cons,List.drop_zero] at hv';obtain⟨va,vc,rfl,-⟩:=hv'.len;have hE:=Cw w1 _ row hv' hsh hq;clear hv' hvb;have HZ:=Hh AD;clear AD;go_wp2_with fail;refine hE.mono ?_;clear hE;rintro _ w2 ⟨hb2,o,tt,a,n,c,heq,hX⟩;simp only[aW] at heq;subst heq;have A2:=Ba row;have AB:=CZ row;obtain⟨⟨x,k,e⟩,hg⟩:∃q,gp row=q:=⟨_,rfl⟩;have Aa:=HR.out;unfold jI at Aa;simp only[List.drop_succ_cons,List.drop_zero] at Aa;rw[hg] at hX A2 AB Aa ⊢;simp only[Nat.zero_add] at hX A2 AB Aa ⊢;rw[<-HN.out] at Aa;clear HR hg;have A7:Below w2.heap.size w2 (w2.alloc (.cells #[.string o,.string tt,.slice a n c,.int .i64 (k:Nat),.int .i64 e] 163)):=(Below.refl _ _).alloc lz _;have A5:=hb2.trans (A7.mono hb2.size);have k3:=k0.below A5 k0.lt;have q3:=k1.below A5 k1.lt;have r3:=A4.below A5 lz;have e3:=ae.new w2 #[.string o,.string tt,.slice a n c,.int .i64 (k:Nat),.int .i64 e] 163;have AC:=HB.out.trans (A5.mono HB.out.size);have AY:w.heap.size+2<=w2.heap.size:=by rw[<-HZ.out];exact hb2.size
 have HX:=Jh hX A7;have AH:=k3.lt;have A9:=q3.lt;have AG:=e3.lt;have HW:=Jh k3 (And.intro q3 (And.intro r3 (And.intro e3 AC)));clear HK k0 k1 A4 hb2 A5 A7 hX AC;go_upto_region 2 with fail
 generalize w2.alloc (.cells #[.string o,.string tt,.slice a n c,.int .i64 (k:Nat),.int .i64 e] 163)=w3 at *
 by_cases hc1:e=2\/(e=0/\2+k<N)
 focus
  rw[if_pos hc1,mr] at Aa;have hL:=fu _ (.slice ra N rc) (t::t2::row) stop last (2+k) r3 (by simp;omega) (by omega);rw[show ((2+k:Nat):Int)=(k:Int)+2 by omega] at hL;have A3:=Hh Aa;clear Aa r3 q3 A2;obtain⟨Am,Ap,An,Aq,Ao,Ar⟩:=k3.n3 rfl;obtain⟨Ac,Ah,Ad,Ai,Ae,Aj,Af,Ak,Ag,Al⟩:=e3.n5 rfl;clear k3 e3;rcases hc1 with rfl|⟨rfl,hlt⟩
  rotate_left
  have hd:decide ((k:Int)+2<(N:Int))=true:=by rw[decide_eq_true_iff];omega
 rotate_left 2
 focus
  rw[if_neg hc1] at Aa;have A6:e≠2:=fun h=>hc1 (.inl h)
  by_cases he:e=0
  ·subst he
   have hk:k=row.length:=by
    have:¬2+k<N:=fun h=>hc1 (.inr ⟨rfl,h⟩);omega
   rw[if_pos rfl] at Aa;have hd:decide ((k:Int)+2<(N:Int))=false:=by rw[decide_eq_false_iff_not];omega
   obtain⟨b,AM,rfl,hlt,c0,c1,c2⟩:=r3.get (j:=0) (by simp);simp only[Nat.zero_mul,Nat.add_zero,List.getElem_cons_zero] at c0 c1 c2;have A3:=Hh Aa;clear Aa hk hc1 r3 A2 A6;obtain⟨Am,Ap,An,Aq,Ao,Ar⟩:=k3.n3 rfl;obtain⟨Ac,Ah,Ad,Ai,Ae,Aj,Af,Ak,Ag,Al⟩:=e3.n5 rfl;clear k3 q3 e3;go_wp2_with fail;have AQ:0<N:=by omega
   have AR:(0:Int)<(N:Int):=by omega
   go_still_tail 9,(by kernel_rfl)
   change wpList _ _ _ _ _ w3.drew;refine az rfl 56 _ _ rfl rfl _ rfl (#[.slice none 0 0,.int .i64 1,.int .i64 0,.int .i64 0,.bool false,.string t.text,.string o,.string tt,.slice a n c,.slice none 0 0,.slice none 0 0]) rfl _ _ (ae.drew HW.out.2.1) rfl (by kernel_rfl) (jR _ _ _ _ _ _ _ _ _ _ _ _ _ _ _ _ _ _ _) ?_;have hq:ae (w3.drew.setRow (w.heap.size+1) (#[.slice none 0 0,.int .i64 1,.int .i64 0,.int .i64 0,.bool false,.string t.text,.string o,.string tt,.slice a n c,.slice none 0 0,.slice none 0 0])) (w.heap.size+1) (#[.slice none 0 0,.int .i64 1,.int .i64 0,.int .i64 0,.bool false,.string t.text,.string o,.string tt,.slice a n c,.slice none 0 0,.slice none 0 0]) 56:=setRow_heap _ _ _ _ _ _ (ae.drew HW.out.2.1);go_wp2_with fail;obtain⟨As,At,Au,Av,Aw,Ax,Ay,Az,A0,A1,Ab⟩:=hq.m11 rfl
   (try simp only[ak] at As At Au Av Aw Ax Ay Az A0 A1 Ab)
   refine bodyPost_ret (v:=.agg (#[.slice none 0 0,.int .i64 1,.int .i64 0,.int .i64 0,.bool false,.string t.text,.string o,.string tt,.slice a n c,.slice none 0 0,.slice none 0 0])) (by simp[results,Tryz.results93,go_sem,As,At,Au,Av,Aw,Ax,Ay,Az,A0,A1,Ab]) rfl ?_;rw[A3.out];refine⟨below_setRow HW.out.2.2.2.2.drew (by omega) _,false,t.text,o,tt,a,n,c,none,0,0,none,0,0,rfl,?_⟩;refine aP.leaf ?_ lZ.nil;exact Lg (q:=w.heap.size+1) (B:=w.heap.size+2) (by omega) (by omega) (HX.out.1 (by first|trivial|rfl)) HX.out.2 HZ.out
  focus
   rw[if_neg he] at Aa;have AT:=A2 he A6;have hlt:2+k<(t::t2::row).length:=by simp;omega
   rw[List.getElem?_eq_getElem hlt] at Aa;simp only at Aa
   by_cases he3:e=3
   focus
    subst he3;have hV:cK (t::t2::row) stop last (2+k)=((t::t2::row)[2+k].pos,3):=by unfold cK;rw[List.getElem?_eq_getElem hlt]
    have hL:=fu _ (.slice ra N rc) (t::t2::row) stop last (2+k) r3 (by simp;omega) (by omega);rw[show ((2+k:Nat):Int)=(k:Int)+2 by omega] at hL;have Aa:R=.wrong (cK (t::t2::row) stop last (2+k)).1 (cK (t::t2::row) stop last (2+k)).2:=by rw[hV];exact Aa
    have A3:=Hh Aa;clear Aa r3 q3 A2 hc1 he A6 hV;obtain⟨Am,Ap,An,Aq,Ao,Ar⟩:=k3.n3 rfl;obtain⟨Ac,Ah,Ad,Ai,Ae,Aj,Af,Ak,Ag,Al⟩:=e3.n5 rfl;clear k3 e3
   rotate_left
   ·obtain⟨b,AM,rfl,AK,c0,c1,c2⟩:=r3.get (j:=2+k) hlt
    generalize (t::t2::row)[2+k]=tk at *;obtain⟨K,AA⟩:=exq (2+k);rw[<-AA] at c0 c1 c2;have AS:(k:Int)+2=(K:Int):=by omega
    have AN:(0:Int)<=(K:Int):=by omega
    have AO:(K:Int)<(N:Int):=by omega
    have AP:K<N:=by omega
    have AX:IntKind.i64.wrap (K:Int)=(K:Int):=IntWalk.i64_in _ (by omega);have AU:(e==0)=false:=by simpa using he
    have AW:(e != 0)=true:=by simpa using he
    have AV:(e==2)=false:=by simpa using A6
    have AL:(e==3)=false:=by simpa using he3
    have A3:=Hh Aa;clear Aa r3 A2 hc1 he A6 he3 hlt;obtain⟨Am,Ap,An,Aq,Ao,Ar⟩:=k3.n3 rfl;obtain⟨Ac,Ah,Ad,Ai,Ae,Aj,Af,Ak,Ag,Al⟩:=e3.n5 rfl;clear k3 q3 e3;clear AA;go_wp2_with fail;go_still_tail 11,(by kernel_rfl)
    change wpList _ _ _ _ _ w3.drew;refine az rfl 56 _ _ rfl rfl _ rfl (bz tk.pos e) rfl _ _ (ae.drew HW.out.2.1) rfl (by kernel_rfl) (jR _ _ _ _ _ _ _ _ _ _ _ _ _ _ _ _ _ _ _) ?_;have hq:ae (w3.drew.setRow (w.heap.size+1) (bz tk.pos e)) (w.heap.size+1) (bz tk.pos e) 56:=setRow_heap _ _ _ _ _ _ (ae.drew HW.out.2.1);go_wp2_with fail;obtain⟨As,At,Au,Av,Aw,Ax,Ay,Az,A0,A1,Ab⟩:=hq.m11 rfl
    (try simp only[ak] at As At Au Av Aw Ax Ay Az A0 A1 Ab)
    refine bodyPost_ret (v:=.agg (bz tk.pos e)) (by simp[results,Tryz.results93,go_sem,As,At,Au,Av,Aw,Ax,Ay,Az,A0,A1,Ab]) rfl ?_;rw[A3.out];exact .bad (below_setRow HW.out.2.2.2.2.drew (by omega) _)
 all_goals
  generalize (cK (t::t2::row) stop last (2+k)).1=pa at *;generalize (cK (t::t2::row) stop last (2+k)).2=pe at *;simp only[bz] at hL;go_wp2_with fail;refine hL.mono ?_;clear hL Am An Ao Ap Aq Ar Ac Ad Ae Af Ag Ah Ai Aj Ak Al;rintro _ w4 ⟨rfl,hb4⟩;have HQ:=Jh (HW.out.2.1.below hb4 A9) (HW.out.2.2.2.2.trans (hb4.mono HW.out.2.2.2.2.size));clear hb4;go_wp2_with (with_reducible first|refine bH ?_)
  refine Stop.out ?_;refine az rfl 56 _ _ rfl rfl _ rfl (bz pa pe) rfl _ _ HQ.out.1 rfl (by kernel_rfl) (jR _ _ _ _ _ _ _ _ _ _ _ _ _ _ _ _ _ _ _) ?_;have hq:ae (w4.setRow (w.heap.size+1) (bz pa pe)) (w.heap.size+1) (bz pa pe) 56:=setRow_heap _ _ _ _ _ _ HQ.out.1;go_wp2_with fail;obtain⟨As,At,Au,Av,Aw,Ax,Ay,Az,A0,A1,Ab⟩:=hq.m11 rfl
  (try simp only[ak] at As At Au Av Aw Ax Ay Az A0 A1 Ab)
  refine bodyPost_ret (v:=.agg (bz pa pe)) (by simp[results,Tryz.results93,go_sem,As,At,Au,Av,Aw,Ax,Ay,Az,A0,A1,Ab]) rfl ?_;rw[A3.out];exact .bad (below_setRow HQ.out.2 (by omega) _)
theorem jr(size:Int):∀(f f':Nat) (l:List fF) (d:Nat) (out:List bA) (n:Nat),l.length<f->l.length<f'->bJ size f l d out n=bJ size f' l d out n
 |0,_,l,_,_,_,h,_=>by omega
 |_+1,0,l,_,_,_,_,h=>by omega
 |f+1,f'+1,[],d,out,n,_,_=>rfl
 | f+1,f'+1,r::l,d,out,n,h1,h2=>by
  simp only[List.length_cons] at h1 h2;rw[mD,mD]
  cases aY (d+1) r.toks r.stop r.last with
  |wrong a e=>rfl
  |empty=>exact jr size f f' l d _ _ (by omega) (by omega)
  |attr x=>exact jr size f f' l d _ _ (by omega) (by omega)
  |bare x=>exact jr size f f' l d _ _ (by omega) (by omega)
  |fin=>rfl
  |begins x=>
   simp only;rw[jr size f f' l (d+1) [] 0 (by omega) (by omega)];split
   ·rfl
   ·exact jr size f f' _ d _ _ (by rw[List.length_drop];omega) (by rw[List.length_drop];omega)
def dw(size:Int)(l:List fF)(d:Nat)(out:List bA)(n:Nat):F4:=bJ size (l.length+1) l d out n
def gM(P:Nat->Prop)(w:World)(v:Value)(l:List bA):Prop:=∃a cap,v=.slice a l.length cap/\l.length<=cap/\cap<=maxLen/\(a=none->cap=0)/\
 ∀x,a=some x->l≠[]->x.spot=none/\(x.block<w.heap.size/\P x.block)/\fJ (af P w) (lZ P w) (fun b=>b<w.heap.size/\P b) w x.block x.off l
theorem gM.move{P Q:Nat->Prop}{w w':World}(hs:w.heap.size<=w'.heap.size)(hb:∀k,P k->k<w.heap.size->w'.heap[k]?=w.heap[k]?)(hq:∀k,P k->k<w.heap.size->Q k){v:Value}{l:List bA}(h:gM P w v l):gM Q w' v l:=by
 obtain⟨a,Aa,h1,h2,h3,h4,h5⟩:=h;refine⟨a,Aa,h1,h2,h3,h4,fun x hx hl=>?_⟩;obtain⟨g1,g2,g3⟩:=h5 x hx hl;exact⟨g1,⟨Nat.lt_of_lt_of_le g2.1 hs,hq _ g2.2 g2.1⟩,fJ.map (fun e cs h=>af.move hs hb hq e cs h) (fun _ _ h=>h.move hs hb hq) (fun b h=>⟨Nat.lt_of_lt_of_le h.1 hs,hq b h.2 h.1⟩) (fun b h off u hu=>(iB (hb b h.2 h.1) off).trans hu) g2 _ _ g3⟩
theorem aP.whole{P:Nat->Prop}{w:World}{b:Bool}{n:ByteArray}{v:dR}{ls:List ByteArray}{its:List bA}{vo vt:ByteArray}{vk lv iv:Value}(hv:af P w v [.string vo,.string vt,vk])(hl:lZ P w lv ls)(hi:gM P w iv its) :
  aP P w (.mk b n v ls its) [.bool b,.string n,.string vo,.string vt,vk,lv,iv]:=by
 obtain⟨a,Aa,rfl,h2,h3,h4,h5⟩:=hi;unfold aP;simp only[lm];exact⟨vo,vt,vk,lv,a,Aa,rfl,hv,hl,h2,h3,h4,h5⟩
def Qb(w:World)(g:F4)(e:Ending)(w':World):Prop:=Below w.heap.size w w'/\(g.e≠0->e=.returned (.agg (bz g.at_ g.e)))/\
 (g.e=0->∃ia ic,e=.returned (.agg #[.slice ia g.l.length ic,.int .i64 (g.n:Nat),.int .i64 0,.int .i64 0,.bool false,.string ⟨#[]⟩,.string ⟨#[]⟩,.string ⟨#[]⟩,.slice none 0 0,.slice none 0 0,.slice none 0 0])/\gM (fun q=>w.heap.size<=q) w' (.slice ia g.l.length ic) g.l)
def BP(R:List fF)(size:Int)(i d:Nat):Prop:=∀(w:World) (v:Value) (B:Nat),Ej B w v R->Calls Tryz.prog 52 #[v,.int .i64 (i:Nat),.int .i64 (d:Nat)] w (Qb w (dw size (R.drop i) d [] 0))
def vD(size:Int)(rest:List fF)(d:Nat):oL->JH
 |.begins x=>if (dw size rest (d+1) [] 0).e≠0 then .bad (dw size rest (d+1) [] 0).at_ (dw size rest (d+1) [] 0).e else .one (.mk x.block x.name x.value x.labels (dw size rest (d+1) [] 0).l) ((dw size rest (d+1) [] 0).n+1)
 |k=>PS k
theorem Ec(size:Int)(rest:List fF)(d:Nat)(a e:Int):vD size rest d (.wrong a e)=.bad a e:=rfl
theorem Ju(size:Int)(rest:List fF)(d:Nat)(x:bA):vD size rest d (.bare x)=.one x 1:=rfl
structure JJ(w W:World)(s:Value)(stop:Int)(last:Bool)(nm:ByteArray)(v:Value)(pre:List ByteArray):Prop where
 b:Below w.heap.size w W
 k0:ae W w.heap.size (bz 0 0) 56
 k1:ae W (w.heap.size+1) #[s,.int .i64 stop,.bool last] 137
 k2:ae W (w.heap.size+2) #[.bool true,.string nm,.string ⟨#[]⟩,.string ⟨#[]⟩,.slice none 0 0,v,.slice none 0 0] 54
 own:aT Value.string 9 (w.heap.size+3) W v pre
 le:w.heap.size+3<=W.heap.size
theorem JJ.step{w W W':World}{s:Value}{stop:Int}{last:Bool}{nm:ByteArray}{v:Value}{pre:List ByteArray}(h:JJ w W s stop last nm v pre)(hb:Below W.heap.size W W'):JJ w W' s stop last nm v pre:=
 ⟨h.b.trans (hb.mono h.b.size),h.k0.below hb h.k0.lt,h.k1.below hb h.k1.lt,h.k2.below hb h.k2.lt,h.own.below hb lz,Nat.le_trans h.le hb.size⟩
theorem JJ.start(w:World)(s:Value)(stop:Int)(last:Bool)(nm:ByteArray):JJ w (((w.alloc (.cells (bz 0 0) 56)).alloc (.cells #[s,.int .i64 stop,.bool last] 137)).alloc (.cells #[.bool true,.string nm,.string ⟨#[]⟩,.string ⟨#[]⟩,.slice none 0 0,.slice none 0 0,.slice none 0 0] 54)) s stop last nm (.slice none 0 0) []:=by
 have k0:=((ae.new w (bz 0 0) 56).alloc (.cells #[s,.int .i64 stop,.bool last] 137)).alloc (.cells #[.bool true,.string nm,.string ⟨#[]⟩,.string ⟨#[]⟩,.slice none 0 0,.slice none 0 0,.slice none 0 0] 54);have k1:=(ae.new (w.alloc (.cells (bz 0 0) 56)) #[s,.int .i64 stop,.bool last] 137).alloc (.cells #[.bool true,.string nm,.string ⟨#[]⟩,.string ⟨#[]⟩,.slice none 0 0,.slice none 0 0,.slice none 0 0] 54);have k2:=ae.new ((w.alloc (.cells (bz 0 0) 56)).alloc (.cells #[s,.int .i64 stop,.bool last] 137)) #[.bool true,.string nm,.string ⟨#[]⟩,.string ⟨#[]⟩,.slice none 0 0,.slice none 0 0,.slice none 0 0] 54;simp only[World.size_alloc] at k1 k2;exact⟨(((Below.refl _ w).alloc lz _).alloc (by simp) _).alloc (by simp only[World.size_alloc];omega) _,k0,k1,k2,aT.nil,by simp⟩
theorem JJ.label{w W w3:World}{s:Value}{stop:Int}{last:Bool}{nm:ByteArray}{v v3:Value}{pre pre3:List ByteArray}(h:JJ w W s stop last nm v pre)(hb:Below (w.heap.size+3) W w3)(ho:aT Value.string 9 (w.heap.size+3) w3 v3 pre3) :
  JJ w (w3.setCell ⟨w.heap.size+2,5,none⟩ v3) s stop last nm v3 pre3:=by
 have k0:=h.k0.below hb (by omega);have k1:=h.k1.below hb (by omega);have k2:=h.k2.below hb (by omega);refine⟨(h.b.trans (hb.mono (by omega))).setCell (by show w.heap.size<=w.heap.size+2;omega) _,k0.setOther _ _ (by show w.heap.size+2≠_;omega),k1.setOther _ _ (by show w.heap.size+2≠_;omega),k2.setI 5 _,?_,by rw[World.size_setCell];exact Nat.le_trans h.le hb.size⟩;exact ho.setOther ⟨w.heap.size+2,5,none⟩ v3 (fun h=>by have h9:w.heap.size+3<=w.heap.size+2:=(World.ownsRow.lt ho _ h).1;omega)
end Go.Proofs.YtbcdaaobbebooaaGreatDoor
