import Derived.Test.YtbcdaaobbebooaaGreatDoorMgs
set_option linter.unusedSimpArgs false
set_option linter.unusedVariables false
set_option maxRecDepth 100000
set_option maxHeartbeats 20000000
namespace Go.Proofs.YtbcdaaobbebooaaGreatDoor
open Go.RowKit Go.Tab
theorem CV:∀(m:Nat) (s:ByteArray) (L:List gu) (r:List ag) (d:Nat),(aj m (.mloop s L) r d).2.2=0->∃ks,(aj m (.mloop s L) r d).1=.mk iU iU ks
 |0,s,L,r,d,h=>by rw[aj] at h;cases h
 | m+1,s,L,r,d,h=>by
  rw[aj] at h ⊢
  by_cases h1:(aj m .choice r (d+1)).2.2=0
  ·rw[bL h1] at h ⊢
   by_cases h2:bO (r.drop (aj m .choice r (d+1)).2.1) jM=true
   ·rw[if_pos h2] at h ⊢
    exact CV m s _ _ _ h
   ·rw[if_neg h2] at h ⊢
    by_cases h3:bO (r.drop (aj m .choice r (d+1)).2.1) s=true
    ·rw[if_pos h3];exact⟨_,rfl⟩
    ·rw[if_neg h3] at h
     unfold cO at h;split at h<;>cases h
  ·rw[bf h1] at h
   exact absurd h h1
theorem Gg(m:Nat)(s:ByteArray)(r:List ag)(d:Nat)(h:(aj m (.many s) r d).2.2=0):∃ks,(aj m (.many s) r d).1=.mk iU iU ks:=by
 cases m with
 |zero=>rw[aj] at h;cases h
 |succ m=>
  rw[aj] at h ⊢
  by_cases h1:64<=d
  ·rw[if_pos h1] at h;cases h
  ·rw[if_neg h1] at h ⊢
   by_cases h2:bO (r.drop 1) s=true
   ·rw[if_pos h2];exact⟨_,rfl⟩
   ·rw[if_neg h2] at h ⊢
    exact CV m s _ _ _ h
theorem ae.named{P:Nat->Prop}{w:World}{o t o1 t1:ByteArray}{ks:List gu}{sl:Value}(h:ae P w (.mk o t ks) (dQ o1 t1 sl))(o2 t2:ByteArray):ae P w (.mk o2 t2 ks) (dQ o2 t2 sl):=by
 simp only[ae] at h ⊢;obtain⟨a,Aa,h1,h2⟩:=h;simp only[List.cons.injEq,and_true] at h1;obtain⟨-,-,rfl⟩:=h1;exact⟨a,Aa,rfl,h2⟩
theorem ae.words{P:Nat->Prop}{w:World}{o t o1 t1:ByteArray}{ks:List gu}{sl:Value}(h:ae P w (.mk o t ks) (dQ o1 t1 sl)):o1=o/\t1=t:=by
 simp only[ae] at h;obtain⟨a,Aa,h1,h2⟩:=h;simp only[List.cons.injEq,and_true,Value.string.injEq] at h1;exact⟨h1.1,h1.2.1⟩
theorem Cx(s x:ByteArray)(h:jP s=some x):∃p e:Int,bN (aV (bs s))=.agg #[.string x,.int .i64 p,.int .i64 e]:=by
 unfold jP at h;unfold bN;rw[show bs s=nb s.data.toList from rfl];split at h
 ·simp only[Option.some.injEq] at h
  subst h;exact⟨_,_,rfl⟩
 ·cases h
theorem AL(m:Nat)(hM:MC m)(hC:CC m):QC (m+1):=by
 intro w lv l k d h hk hd hne;obtain⟨a,c,rfl,B4,Bv⟩:=h.sl;have A5:=h.few;unfold maxLen at Bv;have AN:=wh.start h;obtain⟨R,hR⟩:=exq (aj (m+1) .prime (l.drop k) d);rw[<-hR] at hne ⊢;have Aa:=lM (w.alloc (.cells nz 163)) (.slice a l.length c) l k AN.l.toks A5 hk;have AV:Hid ((cO (l.drop k) 0).2.2≠0):=Hh (by unfold cO;split<;>simp)
 by_cases hkl:k<l.length
 ·have AW:l.drop k=l[k]::l.drop (k+1):=List.drop_eq_getElem_cons hkl
  have Ab:=fun s=>fM (w.alloc (.cells nz 163)) (.slice a l.length c) l k s AN.l.toks A5 (by omega);have Ac:=fun s=>fM (w.alloc (.cells nz 163)) (.slice a l.length c) l (k+1) s AN.l.toks A5 (by omega);rw[show ((k+1:Nat):Int)=(k:Int)+1 by omega] at Ac;obtain⟨bb,Be,rfl,By,q0,q1,q2⟩:=h.toks.get hkl;have As:=h.quo l[k] (List.getElem_mem hkl);have A8:=h.short l[k] (List.getElem_mem hkl);have Ay:∀s,bO (l.drop k) s=(decide (l[k].kind=4)&&decide (l[k].text=s)):=fun s=>by rw[AW];rfl
  rw[AW,aj,<-AW] at hR;obtain⟨kd,Bf⟩:∃z,l[k].kind=z:=⟨_,rfl⟩;obtain⟨tx,Bt⟩:∃z,l[k].text=z:=⟨_,rfl⟩;simp only[Bf,Bt] at hR Ay As A8 q0 q1;clear q2 Bf Bt AW;have Aw:=Hh AN;clear h AN
  by_cases k1:kd=1
  ·subst k1
   have Az:bO (l.drop k) AC=false:=by rw[Ay];rfl
   have Ax:bO (l.drop k) AJ=false:=by rw[Ay];rfl
   rw[if_pos rfl] at hR
   by_cases hp1:bO (l.drop (k+1)) AC=true
   ·rw[if_pos hp1] at hR
    have Bw:=oF hp1
    have A2:(aj m (.many ql) (l.drop (k+1)) d).2.2≠-1:=by
     rw[hR] at hne;exact gT (g:=dL 1 (aj m (.many ql) (l.drop (k+1)) d)) hne
    have AO:=Gg m ql (l.drop (k+1)) d;have A7:=hM _ _ l (k+1) d ql Aw.out.l Bw hd (.inl rfl) A2;rw[show ((k+1:Nat):Int)=(k:Int)+1 by omega] at A7;generalize aj m (.many ql) (l.drop (k+1)) d=R2 at *;obtain⟨x2,n2,e2⟩:=R2;simp only at AO A2;have HR:=Hh hR;have AX:=Hh AO;clear hR AO A2 hne Aa Ay As A8;go_enter Tryz.func237,Tryz.ntmps237;go_wp2_with (go_at_call 194;(first|with_reducible refine (Ab _).mono ?_|with_reducible refine (Ac _).mono ?_);rintro _ _ ⟨rfl,rfl⟩;simp only[Az,Ax,hp1])
    clear Ab Ac;refine (A7).mono ?_;clear A7;rintro _ w6 ⟨hbX,o2,t2,a2,m2,c2,heX,hXX⟩;simp only at heX hXX;obtain⟨p2,A1⟩:∃pz:Nat,pz=k+1+n2:=⟨_,rfl⟩;rw[<-A1] at heX;subst heX;have A3:=Hh A1;clear A1;have A0:=Aw.out.go hbX;have Av:=A0.q;have Bg:=Av.lt;have q6:=(hbX.cell (p:=⟨bb,Be+k*3+1,none⟩) (by simp only[World.size_alloc];omega)).trans ((World.cell?_alloc_past _ _ _ By).trans q1);have Bz:bb<w6.heap.size:=by have:=A0.b.size;omega
    have AP:=Hh (fun h=>Aw.out.exp (hXX h));have H6:=Hh A0;clear hbX hXX Aw A0 q0 q1
    by_cases he2:e2=0
    ·subst he2
     obtain⟨ks,AZ⟩:=AX.out (by first|trivial|rfl);subst AZ;have At:Hid (R=(.mk kK tx ks,1+n2,0)):=Hh (by rw[HR.out,bL (by rfl)];rfl);have AR:=(AP.out (by first|trivial|rfl)).named kK tx;have AQ:=Hh AR;clear HR AR;obtain⟨Ai,An,Aj,Ao,Ak,Ap,Al,Aq,Am,Ar⟩:=Av.n5 rfl;clear Av;go_wp2_with fail;have hq:=(((((H6.out.q.setI 0 (.string kK)).setI 1 (.string tx)).setI 2 (.slice a2 m2 c2)).setI 3 (.int .i64 p2)).setI 4 (.int .i64 0)).alloc (.cells (aT kK tx (.slice a2 m2 c2) p2 0) 163);have Au:=fJ (vs:=[.string kK,.string tx,.slice a2 m2 c2,.int .i64 p2,.int .i64 0]) H6.out.b (.cells (aT kK tx (.slice a2 m2 c2) p2 0) 163);obtain⟨Ad,Ae,Af,Ag,Ah⟩:=hq.m5 rfl;refine bodyPost_ret (v:=.agg (#[.string kK,.string tx,.slice a2 m2 c2,.int .i64 p2,.int .i64 0])) (by simp[results,Tryz.results237,go_sem,Ad,Ae,Af,Ag,Ah]) rfl ?_;rw[At.out];have AT:=ug (vs:=[.string kK,.string tx,.slice a2 m2 c2,.int .i64 p2,.int .i64 0]) AQ.out (.cells (aT kK tx (.slice a2 m2 c2) p2 0) 163);exact cK (r:=(.mk kK tx ks,1+n2,0)) (by simp only;have:=A3.out;omega) rfl Au (fun _=>AT)
    ·have e0:(e2==0)=false:=by simpa using he2
     have At:Hid (R=(aQ,1+n2,e2)):=Hh (by rw[HR.out,bf (by exact he2)];rfl);clear HR;obtain⟨Ai,An,Aj,Ao,Ak,Ap,Al,Aq,Am,Ar⟩:=Av.n5 rfl;clear Av;go_wp2_with fail;have hq:=(((((H6.out.q.setI 0 (.string o2)).setI 1 (.string t2)).setI 2 (.slice a2 m2 c2)).setI 3 (.int .i64 p2)).setI 4 (.int .i64 e2)).alloc (.cells (aT o2 t2 (.slice a2 m2 c2) p2 e2) 163);have Au:=fJ (vs:=[.string o2,.string t2,.slice a2 m2 c2,.int .i64 p2,.int .i64 e2]) H6.out.b (.cells (aT o2 t2 (.slice a2 m2 c2) p2 e2) 163);obtain⟨Ad,Ae,Af,Ag,Ah⟩:=hq.m5 rfl;refine bodyPost_ret (v:=.agg (#[.string o2,.string t2,.slice a2 m2 c2,.int .i64 p2,.int .i64 e2])) (by simp[results,Tryz.results237,go_sem,Ad,Ae,Af,Ag,Ah]) rfl ?_;rw[At.out];exact cK (r:=(aQ,1+n2,e2)) (by simp only;have:=A3.out;omega) rfl Au (fun h=>absurd h he2)
   ·have hp1:bO (l.drop (k+1)) AC=false:=by simpa using hp1
    rw[if_neg (by rw[hp1];decide)] at hR;have HR:=Hh hR;clear hR hne Aa Ay As A8;go_enter Tryz.func237,Tryz.ntmps237;go_wp2_with (go_at_call 194;(first|with_reducible refine (Ab _).mono ?_|with_reducible refine (Ac _).mono ?_);rintro _ _ ⟨rfl,rfl⟩;simp only[Az,Ax,hp1])
    have hq:=aa.new w (aT qW tx (.slice none 0 0) ((k:Int)+1) 0) 163;obtain⟨Ad,Ae,Af,Ag,Ah⟩:=hq.m5 rfl;refine bodyPost_ret (v:=.agg (aT qW tx (.slice none 0 0) ((k:Int)+1) 0)) (by simp[results,Tryz.results237,go_sem,Ad,Ae,Af,Ag,Ah]) rfl ?_;rw[HR.out];exact cK (r:=(.mk qW tx [],1,0)) (by simp only;omega) rfl ((Below.refl _ w).alloc lz _) (fun _=>ae.leaf _ _ _ _)
  ·rw[if_neg k1] at hR
   have Bu:(kd==1)=false:=by simpa using k1
   by_cases k2:kd=2
   ·subst k2
    have Az:bO (l.drop k) AC=false:=by rw[Ay];rfl
    have Ax:bO (l.drop k) AJ=false:=by rw[Ay];rfl
    rw[if_pos rfl] at hR;have HR:=Hh hR;clear hR hne Aa Ay As A8 Ac Bu k1;go_enter Tryz.func237,Tryz.ntmps237;go_wp2_with (go_at_call 194;(first|with_reducible refine (Ab _).mono ?_|with_reducible refine (Ac _).mono ?_);rintro _ _ ⟨rfl,rfl⟩;simp only[Az,Ax])
    have hq:=aa.new w (aT y8 tx (.slice none 0 0) ((k:Int)+1) 0) 163;obtain⟨Ad,Ae,Af,Ag,Ah⟩:=hq.m5 rfl;refine bodyPost_ret (v:=.agg (aT y8 tx (.slice none 0 0) ((k:Int)+1) 0)) (by simp[results,Tryz.results237,go_sem,Ad,Ae,Af,Ag,Ah]) rfl ?_;rw[HR.out];exact cK (r:=(.mk y8 tx [],1,0)) (by simp only;omega) rfl ((Below.refl _ w).alloc lz _) (fun _=>ae.leaf _ _ _ _)
   ·rw[if_neg k2] at hR
    have B1:(kd==2)=false:=by simpa using k2
    by_cases k3:kd=3
    ·subst k3
     have Az:bO (l.drop k) AC=false:=by rw[Ay];rfl
     have Ax:bO (l.drop k) AJ=false:=by rw[Ay];rfl
     rw[if_pos rfl] at hR
     obtain⟨x,hx⟩:∃x,jP tx=some x:=by
      cases hq:jP tx with
      |none=>exact absurd hq (As rfl)
      |some x=>exact⟨x,rfl⟩
     rw[hx] at hR;simp only at hR;obtain⟨pp,ee,Bi⟩:=Cx tx x hx;have Bc:=rO tx (w.alloc (.cells nz 163)) A8;rw[Bi] at Bc;have HR:=Hh hR;clear hR hne Aa Ay As A8 Ac Bu k1 B1 k2 hx Bi;go_enter Tryz.func237,Tryz.ntmps237;go_wp2_with (go_at_call 194;(first|with_reducible refine (Ab _).mono ?_|with_reducible refine (Ac _).mono ?_);rintro _ _ ⟨rfl,rfl⟩;simp only[Az,Ax])
     refine Bc.mono ?_;clear Bc Ab;have B2:∀w:World,(Instr.field 126 (.agg #[.string x,.int .i64 pp,.int .i64 ee]) 0).run Tryz.prog w=.ok (.string x) w:=fun _=>by kernel_rfl
     rintro _ w4 ⟨rfl,hbX⟩;have AY:=Aw.out.go hbX;have Bb:=AY.q;have B3:=Bb.lt;have H4:=Hh AY;clear AY hbX q0 q1 Aw;obtain⟨Bj,Bo,Bk,Bp,Bl,Bq,Bm,Br,Bn,Bs⟩:=Bb.n5 rfl;clear Bb;go_wp2_with fail;have hq:=((((H4.out.q.setI 0 (.string pM)).setI 1 (.string x)).setI 2 (.slice none 0 0)).setI 3 (.int .i64 ((k:Int)+1))).setI 4 (.int .i64 0);have Au:=cZ H4.out.b [.string pM,.string x,.slice none 0 0,.int .i64 ((k:Int)+1),.int .i64 0];obtain⟨Ad,Ae,Af,Ag,Ah⟩:=hq.m5 rfl;refine bodyPost_ret (v:=.agg (#[.string pM,.string x,.slice none 0 0,.int .i64 ((k:Int)+1),.int .i64 0])) (by simp[results,Tryz.results237,go_sem,Ad,Ae,Af,Ag,Ah]) rfl ?_;rw[HR.out];exact cK (r:=(.mk pM x [],1,0)) (by simp only;omega) rfl Au (fun _=>ae.leaf _ _ _ _)
    ·rw[if_neg k3] at hR
     have B5:(kd==3)=false:=by simpa using k3
     clear Ac
     by_cases Ax:bO (l.drop k) AJ=true
     ·have Az:bO (l.drop k) AC=false:=by
       rw[Ay] at Ax ⊢;simp only[Bool.and_eq_true,decide_eq_true_eq] at Ax;rw[Ax.2,Ax.1];decide
      rw[if_pos Ax] at hR
      have A2:(aj m (.many pq) (l.drop k) d).2.2≠-1:=by
       rw[hR] at hne;exact gT hne
      have AO:=Gg m pq (l.drop k) d;have A7:=hM _ _ l k d pq Aw.out.l hkl hd (.inr rfl) A2;generalize aj m (.many pq) (l.drop k) d=R2 at *;obtain⟨x2,n2,e2⟩:=R2;simp only at AO A2;have HR:=Hh hR;have AX:=Hh AO;clear hR AO A2 hne Aa Ay As A8;go_enter Tryz.func237,Tryz.ntmps237;go_wp2_with (go_at_call 194;(first|with_reducible refine (Ab _).mono ?_|with_reducible refine (Ac _).mono ?_);rintro _ _ ⟨rfl,rfl⟩;simp only[Az,Ax])
      clear Ab;refine (A7).mono ?_;clear A7;rintro _ w6 ⟨hbX,o2,t2,a2,m2,c2,heX,hXX⟩;simp only at heX hXX;obtain⟨p2,A1⟩:∃pz:Nat,pz=k+n2:=⟨_,rfl⟩;rw[<-A1] at heX;subst heX;have A3:=Hh A1;clear A1;have A0:=Aw.out.go hbX;have Av:=A0.q;have Bg:=Av.lt;have AP:=Hh (fun h=>Aw.out.exp (hXX h));have H6:=Hh A0;clear hbX hXX Aw A0 q0 q1
      by_cases he2:e2=0
      ·subst he2
       obtain⟨ks,AZ⟩:=AX.out (by first|trivial|rfl);subst AZ;obtain⟨-,B0⟩:=(AP.out (by first|trivial|rfl)).words;subst B0;have At:Hid (R=(.mk kJ iU ks,n2,0)):=Hh (by rw[HR.out,bL (by rfl)];rfl);have AR:=(AP.out (by first|trivial|rfl)).named kJ iU;have AQ:=Hh AR;clear HR AR;obtain⟨Ai,An,Aj,Ao,Ak,Ap,Al,Aq,Am,Ar⟩:=Av.n5 rfl;clear Av;go_wp2_with fail;have hq:=(((((H6.out.q.setI 0 (.string kJ)).setI 1 (.string iU)).setI 2 (.slice a2 m2 c2)).setI 3 (.int .i64 p2)).setI 4 (.int .i64 0)).alloc (.cells (aT kJ iU (.slice a2 m2 c2) p2 0) 163);have Au:=fJ (vs:=[.string kJ,.string iU,.slice a2 m2 c2,.int .i64 p2,.int .i64 0]) H6.out.b (.cells (aT kJ iU (.slice a2 m2 c2) p2 0) 163);obtain⟨Ad,Ae,Af,Ag,Ah⟩:=hq.m5 rfl;refine bodyPost_ret (v:=.agg (#[.string kJ,.string iU,.slice a2 m2 c2,.int .i64 p2,.int .i64 0])) (by simp[results,Tryz.results237,go_sem,Ad,Ae,Af,Ag,Ah]) rfl ?_;rw[At.out];have AT:=ug (vs:=[.string kJ,.string iU,.slice a2 m2 c2,.int .i64 p2,.int .i64 0]) AQ.out (.cells (aT kJ iU (.slice a2 m2 c2) p2 0) 163)
       exact cK (r:=(.mk kJ iU ks,n2,0)) (by simp only;have:=A3.out;omega) rfl Au (fun _=>AT)
      ·have e0:(e2==0)=false:=by simpa using he2
       have At:Hid (R=(aQ,n2,e2)):=Hh (by rw[HR.out,bf (by exact he2)]);clear HR;obtain⟨Ai,An,Aj,Ao,Ak,Ap,Al,Aq,Am,Ar⟩:=Av.n5 rfl;clear Av;go_wp2_with fail;have hq:=(((((H6.out.q.setI 0 (.string o2)).setI 1 (.string t2)).setI 2 (.slice a2 m2 c2)).setI 3 (.int .i64 p2)).setI 4 (.int .i64 e2)).alloc (.cells (aT o2 t2 (.slice a2 m2 c2) p2 e2) 163);have Au:=fJ (vs:=[.string o2,.string t2,.slice a2 m2 c2,.int .i64 p2,.int .i64 e2]) H6.out.b (.cells (aT o2 t2 (.slice a2 m2 c2) p2 e2) 163);obtain⟨Ad,Ae,Af,Ag,Ah⟩:=hq.m5 rfl;refine bodyPost_ret (v:=.agg (#[.string o2,.string t2,.slice a2 m2 c2,.int .i64 p2,.int .i64 e2])) (by simp[results,Tryz.results237,go_sem,Ad,Ae,Af,Ag,Ah]) rfl ?_;rw[At.out];exact cK (r:=(aQ,n2,e2)) (by simp only;have:=A3.out;omega) rfl Au (fun h=>absurd h he2)
     ·have Ax:bO (l.drop k) AJ=false:=by simpa using Ax
      rw[if_neg (by rw[Ax];decide)] at hR
      by_cases Az:bO (l.drop k) AC=true
      ·rw[if_pos Az] at hR
       by_cases hd64:64<=d
       ·have At:Hid (R=(aQ,0,5)):=Hh (by rw[hR,if_pos hd64];rfl)
        clear hR hne Aa Ay As A8;go_enter Tryz.func237,Tryz.ntmps237;go_wp2_with (go_at_call 194;(first|with_reducible refine (Ab _).mono ?_|with_reducible refine (Ac _).mono ?_);rintro _ _ ⟨rfl,rfl⟩;simp only[Az])
        have hq:=aa.new w (aT ⟨#[]⟩ ⟨#[]⟩ (.slice none 0 0) (k:Int) 5) 163;obtain⟨Ad,Ae,Af,Ag,Ah⟩:=hq.m5 rfl;refine bodyPost_ret (v:=.agg (aT ⟨#[]⟩ ⟨#[]⟩ (.slice none 0 0) (k:Int) 5)) (by simp[results,Tryz.results237,go_sem,Ad,Ae,Af,Ag,Ah]) rfl ?_;rw[At.out];exact cK (r:=(aQ,0,5)) (by simp) rfl ((Below.refl _ w).alloc lz _) (fun h=>by cases h)
       ·rw[if_neg hd64] at hR
        have A2:(aj m .choice (l.drop (k+1)) (d+1)).2.2≠-1:=by
         rw[hR] at hne;exact gT (g:=dL 1 (aj m .choice (l.drop (k+1)) (d+1))) hne
        have AS:=(fq m .choice (l.drop (k+1)) (d+1) trivial A2).1;rw[List.length_drop] at AS;have A7:=hC _ _ l (k+1) (d+1) Aw.out.l (by omega) (by omega) A2;rw[show ((k+1:Nat):Int)=(k:Int)+1 by omega,show ((d+1:Nat):Int)=(d:Int)+1 by omega] at A7;generalize aj m .choice (l.drop (k+1)) (d+1)=R2 at *;obtain⟨x2,n2,e2⟩:=R2;simp only at A2 AS;have HR:=Hh hR;clear hR A2 hne Aa Ay As A8;go_enter Tryz.func237,Tryz.ntmps237;go_wp2_with (go_at_call 194;(first|with_reducible refine (Ab _).mono ?_|with_reducible refine (Ac _).mono ?_);rintro _ _ ⟨rfl,rfl⟩;simp only[Az])
        clear Ab;refine (A7).mono ?_;clear A7;rintro _ w6 ⟨hbX,o2,t2,a2,m2,c2,heX,hXX⟩;simp only at heX hXX;obtain⟨p2,A1⟩:∃pz:Nat,pz=k+1+n2:=⟨_,rfl⟩;rw[<-A1] at heX;subst heX;have A3:=Hh A1;clear A1;have A0:=Aw.out.go hbX;have Av:=A0.q;have Bg:=Av.lt;have AP:=Hh (fun h=>Aw.out.exp (hXX h));have H6:=Hh A0;clear hbX hXX Aw A0 q0 q1
        by_cases he2:e2=0
        ·subst he2
         have Ba:p2<=l.length:=by have:=A3.out;omega
         have Bd:=fun s=>fM (w6.alloc (.cells (aT o2 t2 (.slice a2 m2 c2) p2 0) 163)) (.slice (some ⟨bb,Be,none⟩) l.length c) l p2 s (H6.out.next _).l.toks A5 (by omega);have Aa:=lM (w6.alloc (.cells (aT o2 t2 (.slice a2 m2 c2) p2 0) 163)) (.slice (some ⟨bb,Be,none⟩) l.length c) l p2 (H6.out.next _).l.toks A5 Ba
         have AU:Hid (R=if bO (l.drop p2) ql=false then cO (l.drop p2) (1+n2) else (x2,1+n2+1,0)):=Hh (by
          have A1:=A3.out;rw[HR.out,bL (by rfl)];simp only[List.drop_drop,dL]
          rw[show k+(1+n2)=p2 by omega])
         clear HR
         by_cases hrp:bO (l.drop p2) ql=false
         ·have At:Hid (R=(aQ,1+n2,(cO (l.drop p2) 0).2.2)):=Hh (by rw[AU.out,if_pos hrp,rZ])
          have AV:Hid ((cO (l.drop p2) 0).2.2≠0):=Hh (by unfold cO;split<;>simp);generalize (cO (l.drop p2) 0).2.2=eb at *;clear AU;obtain⟨Ai,An,Aj,Ao,Ak,Ap,Al,Aq,Am,Ar⟩:=Av.n5 rfl;clear Av;go_wp2_with (go_at_call 194;refine (Bd _).mono ?_;rintro _ _ ⟨rfl,rfl⟩;simp only[hrp])
          refine Aa.mono ?_;clear Aa Bd Ai Aj Ak Al Am An Ao Ap Aq Ar;rintro _ w8 ⟨rfl,hb8⟩;have A4:=(H6.out.next (.cells (aT o2 t2 (.slice a2 m2 c2) p2 0) 163)).go hb8;have A6:=A4.q;have Bh:=A6.lt;have A9:=Hh A4;clear A4 hb8;obtain⟨AA,AG,AB,AH,AD,AI,AE,AK,AF,AM⟩:=A6.n5 rfl;clear A6;go_wp2_with fail;have hq:=((((A9.out.q.setI 0 (.string ⟨#[]⟩)).setI 1 (.string ⟨#[]⟩)).setI 2 (.slice none 0 0)).setI 3 (.int .i64 p2)).setI 4 (.int .i64 eb);have Au:=cZ A9.out.b [.string ⟨#[]⟩,.string ⟨#[]⟩,.slice none 0 0,.int .i64 p2,.int .i64 eb];obtain⟨Ad,Ae,Af,Ag,Ah⟩:=hq.m5 rfl;refine bodyPost_ret (v:=.agg (#[.string ⟨#[]⟩,.string ⟨#[]⟩,.slice none 0 0,.int .i64 p2,.int .i64 eb])) (by simp[results,Tryz.results237,go_sem,Ad,Ae,Af,Ag,Ah]) rfl ?_;rw[At.out];exact cK (r:=(aQ,1+n2,eb)) (by simp only;have:=A3.out;omega) rfl Au (fun h=>absurd h AV.out)
         ·have hrp:bO (l.drop p2) ql=true:=by simpa using hrp
          have At:Hid (R=(x2,1+n2+1,0)):=Hh (by rw[AU.out,if_neg (by rw[hrp];decide)]);have AQ:=Hh (AP.out (by first|trivial|rfl));clear AU Aa;obtain⟨Ai,An,Aj,Ao,Ak,Ap,Al,Aq,Am,Ar⟩:=Av.n5 rfl;clear Av;go_wp2_with (go_at_call 194;refine (Bd _).mono ?_;rintro _ _ ⟨rfl,rfl⟩;simp only[hrp])
          have hq:=(((((H6.out.q.setI 0 (.string o2)).setI 1 (.string t2)).setI 2 (.slice a2 m2 c2)).setI 3 (.int .i64 ((p2:Int)+1))).setI 4 (.int .i64 0)).alloc (.cells (aT o2 t2 (.slice a2 m2 c2) p2 0) 163);have Au:=fJ (vs:=[.string o2,.string t2,.slice a2 m2 c2,.int .i64 ((p2:Int)+1),.int .i64 0]) H6.out.b (.cells (aT o2 t2 (.slice a2 m2 c2) p2 0) 163);obtain⟨Ad,Ae,Af,Ag,Ah⟩:=hq.m5 rfl;refine bodyPost_ret (v:=.agg (#[.string o2,.string t2,.slice a2 m2 c2,.int .i64 ((p2:Int)+1),.int .i64 0])) (by simp[results,Tryz.results237,go_sem,Ad,Ae,Af,Ag,Ah]) rfl ?_;rw[At.out];have AT:=ug (vs:=[.string o2,.string t2,.slice a2 m2 c2,.int .i64 ((p2:Int)+1),.int .i64 0]) AQ.out (.cells (aT o2 t2 (.slice a2 m2 c2) p2 0) 163);exact cK (r:=(x2,1+n2+1,0)) (by simp only;have:=A3.out;omega) rfl Au (fun _=>AT)
        ·have e0:(e2 != 0)=true:=by simpa using he2
         have At:Hid (R=(aQ,1+n2,e2)):=Hh (by rw[HR.out,bf (by exact he2)];rfl);clear HR;obtain⟨Ai,An,Aj,Ao,Ak,Ap,Al,Aq,Am,Ar⟩:=Av.n5 rfl;clear Av;go_wp2_with fail;have hq:=(((((H6.out.q.setI 0 (.string o2)).setI 1 (.string t2)).setI 2 (.slice a2 m2 c2)).setI 3 (.int .i64 p2)).setI 4 (.int .i64 e2)).alloc (.cells (aT o2 t2 (.slice a2 m2 c2) p2 e2) 163);have Au:=fJ (vs:=[.string o2,.string t2,.slice a2 m2 c2,.int .i64 p2,.int .i64 e2]) H6.out.b (.cells (aT o2 t2 (.slice a2 m2 c2) p2 e2) 163);obtain⟨Ad,Ae,Af,Ag,Ah⟩:=hq.m5 rfl;refine bodyPost_ret (v:=.agg (#[.string o2,.string t2,.slice a2 m2 c2,.int .i64 p2,.int .i64 e2])) (by simp[results,Tryz.results237,go_sem,Ad,Ae,Af,Ag,Ah]) rfl ?_;rw[At.out];exact cK (r:=(aQ,1+n2,e2)) (by simp only;have:=A3.out;omega) rfl Au (fun h=>absurd h he2)
      ·have Az:bO (l.drop k) AC=false:=by simpa using Az
       rw[if_neg (by rw[Az];decide)] at hR;have At:Hid (R=(aQ,0,(cO (l.drop k) 0).2.2)):=Hh (by rw[hR,rZ]);generalize (cO (l.drop k) 0).2.2=eb at *;clear hR hne Ay As A8;go_enter Tryz.func237,Tryz.ntmps237;go_wp2_with (go_at_call 194;(first|with_reducible refine (Ab _).mono ?_|with_reducible refine (Ac _).mono ?_);rintro _ _ ⟨rfl,rfl⟩;simp only[Az,Ax])
       refine Aa.mono ?_;clear Aa Ab;rintro _ w8 ⟨rfl,hb8⟩;have A4:=Aw.out.go hb8;have A6:=A4.q;have Bh:=A6.lt;have A9:=Hh A4;clear A4 hb8 q0 q1;obtain⟨AA,AG,AB,AH,AD,AI,AE,AK,AF,AM⟩:=A6.n5 rfl;clear A6;go_wp2_with fail;have hq:=((((A9.out.q.setI 0 (.string ⟨#[]⟩)).setI 1 (.string ⟨#[]⟩)).setI 2 (.slice none 0 0)).setI 3 (.int .i64 (k:Nat))).setI 4 (.int .i64 eb);have Au:=cZ A9.out.b [.string ⟨#[]⟩,.string ⟨#[]⟩,.slice none 0 0,.int .i64 (k:Nat),.int .i64 eb];obtain⟨Ad,Ae,Af,Ag,Ah⟩:=hq.m5 rfl;refine bodyPost_ret (v:=.agg (#[.string ⟨#[]⟩,.string ⟨#[]⟩,.slice none 0 0,.int .i64 (k:Nat),.int .i64 eb])) (by simp[results,Tryz.results237,go_sem,Ad,Ae,Af,Ag,Ah]) rfl ?_;rw[At.out];exact cK (r:=(aQ,0,eb)) (by simp) rfl Au (fun h=>absurd h AV.out)
 ·have Bx:l.drop k=[]:=List.drop_eq_nil_of_le (by omega)
  have At:Hid (R=(aQ,0,(cO (l.drop k) 0).2.2)):=Hh (by rw[hR,Bx,aj,rZ]);generalize (cO (l.drop k) 0).2.2=eb at *;have Aw:=Hh AN;clear hR hne AN h;go_enter Tryz.func237,Tryz.ntmps237;go_wp2_with fail;refine Aa.mono ?_;clear Aa;rintro _ w8 ⟨rfl,hb8⟩;have A4:=Aw.out.go hb8;have A6:=A4.q;have Bh:=A6.lt;have A9:=Hh A4;clear A4 hb8;obtain⟨AA,AG,AB,AH,AD,AI,AE,AK,AF,AM⟩:=A6.n5 rfl;clear A6;go_wp2_with fail;have hq:=((((A9.out.q.setI 0 (.string ⟨#[]⟩)).setI 1 (.string ⟨#[]⟩)).setI 2 (.slice none 0 0)).setI 3 (.int .i64 (k:Nat))).setI 4 (.int .i64 eb);have Au:=cZ A9.out.b [.string ⟨#[]⟩,.string ⟨#[]⟩,.slice none 0 0,.int .i64 (k:Nat),.int .i64 eb];obtain⟨Ad,Ae,Af,Ag,Ah⟩:=hq.m5 rfl;refine bodyPost_ret (v:=.agg (#[.string ⟨#[]⟩,.string ⟨#[]⟩,.slice none 0 0,.int .i64 (k:Nat),.int .i64 eb])) (by simp[results,Tryz.results237,go_sem,Ad,Ae,Af,Ag,Ah]) rfl ?_;rw[At.out];exact cK (r:=(aQ,0,eb)) (by simp) rfl Au (fun h=>absurd h AV.out)
theorem J3:∀m,CC m/\TC m/\XC m/\PC m/\QC m/\MC m:=by
 intro m
 induction m using Nat.strongRecOn with
 |ind m ih=>
  cases m with
  |zero=>
   refine⟨?_,?_,?_,?_,?_,?_⟩
   ·intro w lv l k d _ _ _ hne;exact absurd (lm _ _ _) hne
   ·intro w lv l k d n _ _ _ _ _ hne;exact absurd (lm _ _ _) hne
   ·intro w lv l k d _ _ _ hne;exact absurd (lm _ _ _) hne
   ·intro w lv l k d _ _ _ hne;exact absurd (lm _ _ _) hne
   ·intro w lv l k d _ _ _ hne;exact absurd (lm _ _ _) hne
   ·intro w lv l k d s _ _ _ _ hne;exact absurd (lm _ _ _) hne
  |succ m=>
   have hm:=ih m (Nat.lt_succ_self m);have hc:∀j,j<=m->CC j:=fun j hj=>(ih j (by omega)).1;have ht:∀j,j<=m->TC j:=fun j hj=>(ih j (by omega)).2.1;exact⟨yX m hm.2.1 hm.1,Ce m hm.2.2.1 ht,yV m hm.2.2.2.1 hm.2.2.1,Cf m hm.2.2.2.2.1 hc,AL m hm.2.2.2.2.2 hm.1,Ci m hc⟩
theorem Cg(w:World)(lv:Value)(l:List ag)(h:aH w lv l)(hsh:∀t∈l,t.text.size<=1048576)(hq:∀t∈l,t.kind=3->jP t.text≠none) :
  Calls Tryz.prog 135 #[lv] w (GP 0 (gH l) w):=by
 obtain⟨a0,c0,rfl,Ay,Ax,-⟩:=h.len;unfold maxLen at Ax
 by_cases hbig:1000<l.length
 ·have hR:gH l=(aQ,1000,4):=by unfold gH;rw[if_pos hbig]
  have HR:=Hh hR;clear hR h hsh hq;go_enter Tryz.func135,Tryz.ntmps135;go_wp2_with fail;have hq:=aa.new w (aT ⟨#[]⟩ ⟨#[]⟩ (.slice none 0 0) 1000 4) 163;obtain⟨Af,Ag,Ah,Ai,Aj⟩:=hq.m5 rfl;refine bodyPost_ret (v:=.agg (aT ⟨#[]⟩ ⟨#[]⟩ (.slice none 0 0) 1000 4)) (by simp[results,Tryz.results135,go_sem,Af,Ag,Ah,Ai,Aj]) rfl ?_;rw[HR.out];exact cK (r:=(aQ,1000,4)) (by simp) rfl ((Below.refl _ w).alloc lz _) (fun h=>by cases h)
 ·have hf:=nO (ib .choice l) .choice l 0 lz (by simp only[Nt.okX])
  have hR:gH l=if (aj (ib .choice l) .choice l 0).2.2=0 then aj (ib .choice l) .choice l 0 else (aQ,(aj (ib .choice l) .choice l 0).2):=by unfold gH;rw[if_neg hbig]
  have Ab:=wh.start (w:=w) (lv:=.slice a0 l.length c0) (l:=l) ⟨h,by omega,hsh,hq⟩;have Ad:=(J3 (ib .choice l)).1 _ _ l 0 0 Ab.l (by omega) (by omega) (by rw[List.drop_zero];exact hf.1);rw[List.drop_zero] at Ad;generalize aj (ib .choice l) .choice l 0=r at *;obtain⟨x1,n1,e1⟩:=r;simp only at hR;have HR:=Hh hR;have Aa:=Hh Ab;clear hR hf h hsh hq Ab;go_enter Tryz.func135,Tryz.ntmps135;go_wp2_with fail;refine Ad.mono ?_;clear Ad;rintro _ w4 ⟨hbX,o1,t1,a1,m1,c1,heX,hXX⟩;simp only[Nat.zero_add] at heX hXX;subst heX;have Ac:=Aa.out.go hbX;have Aw:=Hh (fun h=>Aa.out.exp (hXX h));have Ae:=Ac.q;have Az:=Ae.lt;have Ak:=Hh Ac;clear hbX hXX Aa Ac;obtain⟨Am,Ar,An,As,Ao,At,Ap,Au,Aq,Av⟩:=Ae.n5 rfl;clear Ae;go_wp2_with fail;have hq:=((((Ak.out.q.setI 0 (.string o1)).setI 1 (.string t1)).setI 2 (.slice a1 m1 c1)).setI 3 (.int .i64 n1)).setI 4 (.int .i64 e1);have Al:=cZ Ak.out.b [.string o1,.string t1,.slice a1 m1 c1,.int .i64 n1,.int .i64 e1];obtain⟨Af,Ag,Ah,Ai,Aj⟩:=hq.m5 rfl;refine bodyPost_ret (v:=.agg (#[.string o1,.string t1,.slice a1 m1 c1,.int .i64 n1,.int .i64 e1])) (by simp[results,Tryz.results135,go_sem,Af,Ag,Ah,Ai,Aj]) rfl ?_
  rw[HR.out]
  by_cases he:e1=0
  ·rw[if_pos he]
   exact cK (r:=(x1,n1,e1)) (by simp) rfl Al (fun h=>mO (vs:=[.string o1,.string t1,.slice a1 m1 c1,.int .i64 n1,.int .i64 e1]) (Aw.out h))
  ·rw[if_neg he]
   exact cK (r:=(aQ,n1,e1)) (by simp) rfl Al (fun h=>absurd h he)
abbrev gotY(v:Value)(a b c:Int):Array Value:=#[v,.int .i64 a,.int .i64 b,.int .i64 c,.bool false,.string ⟨#[]⟩,.string ⟨#[]⟩,.string ⟨#[]⟩,.slice none 0 0,.slice none 0 0,.slice none 0 0]
abbrev bz(a e:Int):Array Value:=#[.slice none 0 0,.int .i64 0,.int .i64 a,.int .i64 e,.bool false,.string ⟨#[]⟩,.string ⟨#[]⟩,.string ⟨#[]⟩,.slice none 0 0,.slice none 0 0,.slice none 0 0]
abbrev Pf(n:Int)(b:Bool)(nm vo vt:ByteArray)(vk lv iv:Value):Array Value:=#[.slice none 0 0,.int .i64 n,.int .i64 0,.int .i64 0,.bool b,.string nm,.string vo,.string vt,vk,lv,iv]
def cB(row:List ag)(stop:Int)(last:Bool)(i:Nat):Int×Int:=match row[i]? with
 |some t=>(t.pos,3)
 |none=>if last then (stop,2) else (stop,3)
theorem mQ(row:List ag)(stop:Int)(last:Bool)(i:Nat):eU row stop last i=.wrong (cB row stop last i).1 (cB row stop last i).2:=by
 unfold eU cB
 cases row[i]? with
 |some t=>rfl
 |none=>cases last<;>rfl
theorem jZ(a0:Option Addr)(n0 c0:Nat)(x1 x2 x3:Int)(b:Bool)(s1 s2 s3:ByteArray)(a1:Option Addr)(n1 c1:Nat)(a2:Option Addr)(n2 c2:Nat)(a3:Option Addr)(n3 c3:Nat) :
  ∀v∈(#[.slice a0 n0 c0,.int .i64 x1,.int .i64 x2,.int .i64 x3,.bool b,.string s1,.string s2,.string s3,.slice a1 n1 c1,.slice a2 n2 c2,.slice a3 n3 c3]:Array Value).toList,v.oneCell'=true:=by
 intro v hv;simp at hv
 rcases hv with rfl|rfl|rfl|rfl|rfl|rfl|rfl|rfl|rfl|rfl|rfl<;>rfl
theorem lW(w:World)(lv:Value)(l:List ag)(stop:Int)(last:Bool)(k:Nat)(s:ByteArray)(h:aH w lv l)(hl:l.length<=1000000)(hk:k<=2000000) :
  Calls Tryz.prog 91 #[.agg #[lv,.int .i64 stop,.bool last],.int .i64 (k:Nat),.string s] w fun e w'=>e=.returned (.bool (bO (l.drop k) s))/\Below w.heap.size w w':=by
 obtain⟨a,c,rfl,h1,h2,-⟩:=h.len;unfold maxLen at h2;have HB:=Hh ((Below.refl _ w).alloc lz (.cells #[.slice a l.length c,.int .i64 stop,.bool last] 137))
 by_cases hkl:k<l.length
 ·obtain⟨b,Ab,rfl,Aa,q0,q1,q2⟩:=h.get hkl
  have HD:Hid (bO (l.drop k) s=(decide (l[k].kind=4)&&decide (l[k].text=s))):=Hh (by rw[List.drop_eq_getElem_cons hkl];rfl);generalize l[k]=t at *;obtain⟨kd,tx,ps⟩:=t;simp only at q0 q1 HD;clear h q2
  have ek:(kd==4)=decide (kd=4):=by
   by_cases h:kd=4
   ·subst h;simp
   ·rw[decide_eq_false h];simpa using h
  have et:=zA tx s;generalize decide (kd=4)=bk at *;generalize decide (tx=s)=bt at *;go_enter Tryz.func91,Tryz.ntmps91;cases bk<;>cases bt
  all_goals
   go_wp2;go_ret;exact⟨by rw[HD.out];rfl,HB.out⟩
 ·have HD:Hid (bO (l.drop k) s=false):=Hh (by rw[List.drop_eq_nil_of_le (by omega)];rfl)
  clear h;go_enter Tryz.func91,Tryz.ntmps91;go_wp2;go_ret;exact⟨by rw[HD.out];rfl,HB.out⟩
theorem fH(w:World)(lv:Value)(l:List ag)(stop:Int)(last:Bool)(k:Nat)(h:aH w lv l)(hl:l.length<=1000000)(hk:k<=2000000) :
  Calls Tryz.prog 92 #[.agg #[lv,.int .i64 stop,.bool last],.int .i64 (k:Nat)] w fun e w'=>e=.returned (.agg (bz (cB l stop last k).1 (cB l stop last k).2))/\Below w.heap.size w w':=by
 obtain⟨a,c,rfl,h1,h2,-⟩:=h.len;unfold maxLen at h2;have HB:Hid (∀cs,Below w.heap.size w ((w.alloc (.cells #[.slice a l.length c,.int .i64 stop,.bool last] 137)).alloc (.cells cs 56))):=Hh (fun cs=>((Below.refl _ w).alloc lz _).alloc (by simp) _)
 by_cases hkl:k<l.length
 ·obtain⟨b,Al,rfl,Am,q0,q1,q2⟩:=h.get hkl
  have HD:Hid (cB l stop last k=(l[k].pos,3)):=Hh (by unfold cB;rw[List.getElem?_eq_getElem hkl]);generalize l[k]=t at *;obtain⟨kd,tx,ps⟩:=t;simp only at q2 HD;clear h q0 q1;go_enter Tryz.func92,Tryz.ntmps92;go_wp2;have hq:=aa.new (w.alloc (.cells #[.slice (some ⟨b,Al,none⟩) l.length c,.int .i64 stop,.bool last] 137)) (bz ps 3) 56;simp only[World.size_alloc] at hq;obtain⟨Ab,Ac,Ad,Ae,Af,Ag,Ah,Ai,Aj,Ak,Aa⟩:=hq.m11 rfl
  (try simp only[ai] at Ab Ac Ad Ae Af Ag Ah Ai Aj Ak Aa)
  refine bodyPost_ret (v:=.agg (bz ps 3)) (by simp[results,Tryz.results92,go_sem,Ab,Ac,Ad,Ae,Af,Ag,Ah,Ai,Aj,Ak,Aa]) rfl ?_;exact⟨by rw[HD.out],HB.out _⟩
 ·have HD:Hid (cB l stop last k=if last then (stop,2) else (stop,3)):=Hh (by unfold cB;rw[List.getElem?_eq_none (by omega)])
  clear h
  cases last with
  |true=>
   go_enter Tryz.func92,Tryz.ntmps92;go_wp2;have hq:=aa.new (w.alloc (.cells #[.slice a l.length c,.int .i64 stop,.bool true] 137)) (bz stop 2) 56;simp only[World.size_alloc] at hq;obtain⟨Ab,Ac,Ad,Ae,Af,Ag,Ah,Ai,Aj,Ak,Aa⟩:=hq.m11 rfl
   (try simp only[ai] at Ab Ac Ad Ae Af Ag Ah Ai Aj Ak Aa)
   refine bodyPost_ret (v:=.agg (bz stop 2)) (by simp[results,Tryz.results92,go_sem,Ab,Ac,Ad,Ae,Af,Ag,Ah,Ai,Aj,Ak,Aa]) rfl ?_;exact⟨by rw[HD.out];rfl,HB.out _⟩
  |false=>
   go_enter Tryz.func92,Tryz.ntmps92;go_wp2;have hq:=aa.new (w.alloc (.cells #[.slice a l.length c,.int .i64 stop,.bool false] 137)) (bz stop 3) 56;simp only[World.size_alloc] at hq;obtain⟨Ab,Ac,Ad,Ae,Af,Ag,Ah,Ai,Aj,Ak,Aa⟩:=hq.m11 rfl
   (try simp only[ai] at Ab Ac Ad Ae Af Ag Ah Ai Aj Ak Aa)
   refine bodyPost_ret (v:=.agg (bz stop 3)) (by simp[results,Tryz.results92,go_sem,Ab,Ac,Ad,Ae,Af,Ag,Ah,Ai,Aj,Ak,Aa]) rfl ?_;exact⟨by rw[HD.out];rfl,HB.out _⟩
inductive Jo where
 |bad (a e:Int):Jo
 |one (x:bP) (n:Nat):Jo
def Px:oW->Jo
 |.wrong a e=>.bad a e
 |.attr x=>.one x 1
 |.bare x=>.one x 1
 |_=>.bad 0 0
def Oz(w:World)(r:Jo)(e:Ending)(w':World):Prop:=Below w.heap.size w w'/\match r with
 |.bad a er=>e=.returned (.agg (bz a er))
 |.one x n=>∃b nm vo vt va vn vc la ln lc ia im ic,e=.returned (.agg (Pf (n:Nat) b nm vo vt (.slice va vn vc) (.slice la ln lc) (.slice ia im ic)))/\aN (fun q=>w.heap.size<=q) w' x [.bool b,.string nm,.string vo,.string vt,.slice va vn vc,.slice la ln lc,.slice ia im ic]
theorem Oz.bad{w w':World}{a er:Int}(hb:Below w.heap.size w w'):Oz w (.bad a er) (.returned (.agg (bz a er))) w':=⟨hb,rfl⟩
theorem La{w w1 w2 W:World}{q B:Nat}{x:gu}{o t:ByteArray}{a:Option Addr}{n c:Nat}{vals:Array Value}(hq:q<B)(hB:w.heap.size<=q)(hX:ae (fun b=>w1.heap.size<=b) w2 x [.string o,.string t,.slice a n c])(hal:Below w2.heap.size w2 W)(hz:w1.heap.size=B) :
  ae (fun b=>w.heap.size<=b) (W.drew.setRow q vals) x [.string o,.string t,.slice a n c]:=
 ae.move (w:=w2) (by rw[setRow_size];exact hal.size) (fun b hb hl=>by
  rw[setRow_other _ _ _ _ (by omega)]
  exact hal.block b hl) (fun b hb _=>by omega) _ _ hX
theorem Ez(w:World)(t t2:ag)(row:List ag)(lv:Value)(stop:Int)(last:Bool)(hr:aH w lv (t::t2::row))(hn:row.length<=900000)(hsh:∀t∈row,t.text.size<=1048576)(hq:∀t∈row,t.kind=3->jP t.text≠none) :
  Calls Tryz.prog 93 #[.agg #[lv,.int .i64 stop,.bool last]] w (Oz w (Px (j3 (t::t2::row) stop last t.text))):=by
 obtain⟨ra,rc,rfl,AI,AJ,-⟩:=hr.len;obtain⟨N,hN⟩:=exq ((t::t2::row).length);have AE:N=row.length+2:=by rw[hN];simp
 rw[<-hN] at hr AI ⊢;unfold maxLen at AJ;have AF:N<=row.length+2/\row.length+2<=N:=by omega
 have HN:=Hh hN;clear hN AE;obtain⟨R,hR⟩:=exq (j3 (t::t2::row) stop last t.text);have HR:=Hh hR;rw[<-hR];clear hR;have A8:Below w.heap.size w ((w.alloc (.cells #[.slice ra N rc,.int .i64 stop,.bool last] 137)).alloc (.cells (bz 0 0) 56)):=((Below.refl _ w).alloc lz _).alloc (by simp) _;have k0:=(aa.new w #[.slice ra N rc,.int .i64 stop,.bool last] 137).alloc (.cells (bz 0 0) 56);have k1:=aa.new (w.alloc (.cells #[.slice ra N rc,.int .i64 stop,.bool last] 137)) (bz 0 0) 56;simp only[World.size_alloc] at k1;have A4:=hr.below A8 lz;have AD:((w.alloc (.cells #[.slice ra N rc,.int .i64 stop,.bool last] 137)).alloc (.cells (bz 0 0) 56)).heap.size=w.heap.size+2:=by simp
 have HB:=Hh A8;have HK:=Jh k0 (And.intro k1 A4);clear hr A8 k0 k1 A4;go_enter Tryz.func93,Tryz.ntmps93;go_wp2_with (with_reducible first|refine jm ?_)
 refine Stop.out ?_;obtain⟨k0,k1,A4⟩:=HK.out;generalize (w.alloc (.cells #[.slice ra N rc,.int .i64 stop,.bool last] 137)).alloc (.cells (bz 0 0) 56)=w1 at *;refine nD rfl _ _ _ rfl Tryz.underlying22 (by kernel_rfl) (t::t2::row) (by exact A4) .i64 2 2 rfl rfl (by simp) ?_;intro v' hv' hvb;simp only[List.drop_succ_cons,List.drop_zero] at hv';obtain⟨va,vc,rfl,-⟩:=hv'.len;have hE:=Cg w1 _ row hv' hsh hq;clear hv' hvb;have HZ:=Hh AD;clear AD;go_wp2_with fail;refine hE.mono ?_;clear hE;rintro _ w2 ⟨hb2,o,tt,a,n,c,heq,hX⟩;simp only[aT] at heq;subst heq;have A2:=AR row;have AB:=CK row;obtain⟨⟨x,k,e⟩,hg⟩:∃q,gH row=q:=⟨_,rfl⟩;have Aa:=HR.out;unfold j3 at Aa;simp only[List.drop_succ_cons,List.drop_zero] at Aa;rw[hg] at hX A2 AB Aa ⊢;simp only[Nat.zero_add] at hX A2 AB Aa ⊢;rw[<-HN.out] at Aa;clear HR hg;have A7:Below w2.heap.size w2 (w2.alloc (.cells #[.string o,.string tt,.slice a n c,.int .i64 (k:Nat),.int .i64 e] 163)):=(Below.refl _ _).alloc lz _;have A5:=hb2.trans (A7.mono hb2.size);have k3:=k0.below A5 k0.lt;have q3:=k1.below A5 k1.lt;have r3:=A4.below A5 lz;have e3:=aa.new w2 #[.string o,.string tt,.slice a n c,.int .i64 (k:Nat),.int .i64 e] 163;have AC:=HB.out.trans (A5.mono HB.out.size);have AZ:w.heap.size+2<=w2.heap.size:=by rw[<-HZ.out];exact hb2.size
 have HX:=Jh hX A7;have AH:=k3.lt;have A9:=q3.lt;have AG:=e3.lt;have HW:=Jh k3 (And.intro q3 (And.intro r3 (And.intro e3 AC)));clear HK k0 k1 A4 hb2 A5 A7 hX AC;go_upto_region 2 with fail
 generalize w2.alloc (.cells #[.string o,.string tt,.slice a n c,.int .i64 (k:Nat),.int .i64 e] 163)=w3 at *
 by_cases hc1:e=2\/(e=0/\2+k<N)
 focus
  rw[if_pos hc1,mQ] at Aa;have hL:=fH _ (.slice ra N rc) (t::t2::row) stop last (2+k) r3 (by simp;omega) (by omega);rw[show ((2+k:Nat):Int)=(k:Int)+2 by omega] at hL;have A3:=Hh Aa;clear Aa r3 q3 A2;obtain⟨Am,Ap,An,Aq,Ao,Ar⟩:=k3.n3 rfl;obtain⟨Ac,Ah,Ad,Ai,Ae,Aj,Af,Ak,Ag,Al⟩:=e3.n5 rfl;clear k3 e3;rcases hc1 with rfl|⟨rfl,hlt⟩
  rotate_left
  have hd:decide ((k:Int)+2<(N:Int))=true:=by rw[decide_eq_true_iff];omega
 rotate_left 2
 focus
  rw[if_neg hc1] at Aa;have A6:e≠2:=fun h=>hc1 (.inl h)
  by_cases he:e=0
  ·subst he
   have hk:k=row.length:=by
    have:¬2+k<N:=fun h=>hc1 (.inr ⟨rfl,h⟩);omega
   rw[if_pos rfl] at Aa;have hd:decide ((k:Int)+2<(N:Int))=false:=by rw[decide_eq_false_iff_not];omega
   obtain⟨b,AM,rfl,hlt,c0,c1,c2⟩:=r3.get (j:=0) (by simp);simp only[Nat.zero_mul,Nat.add_zero,List.getElem_cons_zero] at c0 c1 c2;have A3:=Hh Aa;clear Aa hk hc1 r3 A2 A6;obtain⟨Am,Ap,An,Aq,Ao,Ar⟩:=k3.n3 rfl;obtain⟨Ac,Ah,Ad,Ai,Ae,Aj,Af,Ak,Ag,Al⟩:=e3.n5 rfl;clear k3 q3 e3;go_wp2_with fail;have AQ:0<N:=by omega
   have AS:(0:Int)<(N:Int):=by omega
   go_still_tail 9,(by kernel_rfl)
   change wpList _ _ _ _ _ w3.drew;refine az rfl 56 _ _ rfl rfl _ rfl (#[.slice none 0 0,.int .i64 1,.int .i64 0,.int .i64 0,.bool false,.string t.text,.string o,.string tt,.slice a n c,.slice none 0 0,.slice none 0 0]) rfl _ _ (aa.drew HW.out.2.1) rfl (by kernel_rfl) (jZ _ _ _ _ _ _ _ _ _ _ _ _ _ _ _ _ _ _ _) ?_;have hq:aa (w3.drew.setRow (w.heap.size+1) (#[.slice none 0 0,.int .i64 1,.int .i64 0,.int .i64 0,.bool false,.string t.text,.string o,.string tt,.slice a n c,.slice none 0 0,.slice none 0 0])) (w.heap.size+1) (#[.slice none 0 0,.int .i64 1,.int .i64 0,.int .i64 0,.bool false,.string t.text,.string o,.string tt,.slice a n c,.slice none 0 0,.slice none 0 0]) 56:=setRow_heap _ _ _ _ _ _ (aa.drew HW.out.2.1);go_wp2_with fail;obtain⟨As,At,Au,Av,Aw,Ax,Ay,Az,A0,A1,Ab⟩:=hq.m11 rfl
   (try simp only[ai] at As At Au Av Aw Ax Ay Az A0 A1 Ab)
   refine bodyPost_ret (v:=.agg (#[.slice none 0 0,.int .i64 1,.int .i64 0,.int .i64 0,.bool false,.string t.text,.string o,.string tt,.slice a n c,.slice none 0 0,.slice none 0 0])) (by simp[results,Tryz.results93,go_sem,As,At,Au,Av,Aw,Ax,Ay,Az,A0,A1,Ab]) rfl ?_;rw[A3.out];refine⟨below_setRow HW.out.2.2.2.2.drew (by omega) _,false,t.text,o,tt,a,n,c,none,0,0,none,0,0,rfl,?_⟩;refine aN.leaf ?_ mo.nil;exact La (q:=w.heap.size+1) (B:=w.heap.size+2) (by omega) (by omega) (HX.out.1 (by first|trivial|rfl)) HX.out.2 HZ.out
  focus
   rw[if_neg he] at Aa;have AU:=A2 he A6;have hlt:2+k<(t::t2::row).length:=by simp;omega
   rw[List.getElem?_eq_getElem hlt] at Aa;simp only at Aa
   by_cases he3:e=3
   focus
    subst he3;have hV:cB (t::t2::row) stop last (2+k)=((t::t2::row)[2+k].pos,3):=by unfold cB;rw[List.getElem?_eq_getElem hlt]
    have hL:=fH _ (.slice ra N rc) (t::t2::row) stop last (2+k) r3 (by simp;omega) (by omega);rw[show ((2+k:Nat):Int)=(k:Int)+2 by omega] at hL;have Aa:R=.wrong (cB (t::t2::row) stop last (2+k)).1 (cB (t::t2::row) stop last (2+k)).2:=by rw[hV];exact Aa
    have A3:=Hh Aa;clear Aa r3 q3 A2 hc1 he A6 hV;obtain⟨Am,Ap,An,Aq,Ao,Ar⟩:=k3.n3 rfl;obtain⟨Ac,Ah,Ad,Ai,Ae,Aj,Af,Ak,Ag,Al⟩:=e3.n5 rfl;clear k3 e3
   rotate_left
   ·obtain⟨b,AM,rfl,AK,c0,c1,c2⟩:=r3.get (j:=2+k) hlt
    generalize (t::t2::row)[2+k]=tk at *;obtain⟨K,AA⟩:=exq (2+k);rw[<-AA] at c0 c1 c2;have AT:(k:Int)+2=(K:Int):=by omega
    have AN:(0:Int)<=(K:Int):=by omega
    have AO:(K:Int)<(N:Int):=by omega
    have AP:K<N:=by omega
    have AY:IntKind.i64.wrap (K:Int)=(K:Int):=IntWalk.i64_in _ (by omega);have AV:(e==0)=false:=by simpa using he
    have AX:(e != 0)=true:=by simpa using he
    have AW:(e==2)=false:=by simpa using A6
    have AL:(e==3)=false:=by simpa using he3
    have A3:=Hh Aa;clear Aa r3 A2 hc1 he A6 he3 hlt;obtain⟨Am,Ap,An,Aq,Ao,Ar⟩:=k3.n3 rfl;obtain⟨Ac,Ah,Ad,Ai,Ae,Aj,Af,Ak,Ag,Al⟩:=e3.n5 rfl;clear k3 q3 e3;clear AA;go_wp2_with fail;go_still_tail 11,(by kernel_rfl)
    change wpList _ _ _ _ _ w3.drew;refine az rfl 56 _ _ rfl rfl _ rfl (bz tk.pos e) rfl _ _ (aa.drew HW.out.2.1) rfl (by kernel_rfl) (jZ _ _ _ _ _ _ _ _ _ _ _ _ _ _ _ _ _ _ _) ?_;have hq:aa (w3.drew.setRow (w.heap.size+1) (bz tk.pos e)) (w.heap.size+1) (bz tk.pos e) 56:=setRow_heap _ _ _ _ _ _ (aa.drew HW.out.2.1);go_wp2_with fail;obtain⟨As,At,Au,Av,Aw,Ax,Ay,Az,A0,A1,Ab⟩:=hq.m11 rfl
    (try simp only[ai] at As At Au Av Aw Ax Ay Az A0 A1 Ab)
    refine bodyPost_ret (v:=.agg (bz tk.pos e)) (by simp[results,Tryz.results93,go_sem,As,At,Au,Av,Aw,Ax,Ay,Az,A0,A1,Ab]) rfl ?_;rw[A3.out];exact .bad (below_setRow HW.out.2.2.2.2.drew (by omega) _)
 all_goals
  generalize (cB (t::t2::row) stop last (2+k)).1=pa at *;generalize (cB (t::t2::row) stop last (2+k)).2=pe at *;simp only[bz] at hL;go_wp2_with fail;refine hL.mono ?_;clear hL Am An Ao Ap Aq Ar Ac Ad Ae Af Ag Ah Ai Aj Ak Al;rintro _ w4 ⟨rfl,hb4⟩;have HQ:=Jh (HW.out.2.1.below hb4 A9) (HW.out.2.2.2.2.trans (hb4.mono HW.out.2.2.2.2.size));clear hb4;go_wp2_with (with_reducible first|refine bC ?_)
  refine Stop.out ?_;refine az rfl 56 _ _ rfl rfl _ rfl (bz pa pe) rfl _ _ HQ.out.1 rfl (by kernel_rfl) (jZ _ _ _ _ _ _ _ _ _ _ _ _ _ _ _ _ _ _ _) ?_;have hq:aa (w4.setRow (w.heap.size+1) (bz pa pe)) (w.heap.size+1) (bz pa pe) 56:=setRow_heap _ _ _ _ _ _ HQ.out.1;go_wp2_with fail;obtain⟨As,At,Au,Av,Aw,Ax,Ay,Az,A0,A1,Ab⟩:=hq.m11 rfl
  (try simp only[ai] at As At Au Av Aw Ax Ay Az A0 A1 Ab)
  refine bodyPost_ret (v:=.agg (bz pa pe)) (by simp[results,Tryz.results93,go_sem,As,At,Au,Av,Aw,Ax,Ay,Az,A0,A1,Ab]) rfl ?_;rw[A3.out];exact .bad (below_setRow HQ.out.2 (by omega) _)
theorem jE(size:Int):∀(f f':Nat) (l:List fO) (d:Nat) (out:List bP) (n:Nat),l.length<f->l.length<f'->bG size f l d out n=bG size f' l d out n
 |0,_,l,_,_,_,h,_=>by omega
 |_+1,0,l,_,_,_,_,h=>by omega
 |f+1,f'+1,[],d,out,n,_,_=>rfl
 | f+1,f'+1,r::l,d,out,n,h1,h2=>by
  simp only[List.length_cons] at h1 h2;rw[mR,mR]
  cases bn (d+1) r.toks r.stop r.last with
  |wrong a e=>rfl
  |empty=>exact jE size f f' l d _ _ (by omega) (by omega)
  |attr x=>exact jE size f f' l d _ _ (by omega) (by omega)
  |bare x=>exact jE size f f' l d _ _ (by omega) (by omega)
  |fin=>rfl
  |begins x=>
   simp only;rw[jE size f f' l (d+1) [] 0 (by omega) (by omega)];split
   ·rfl
   ·exact jE size f f' _ d _ _ (by rw[List.length_drop];omega) (by rw[List.length_drop];omega)
def dm(size:Int)(l:List fO)(d:Nat)(out:List bP)(n:Nat):FJ:=bG size (l.length+1) l d out n
def iT(P:Nat->Prop)(w:World)(v:Value)(l:List bP):Prop:=∃a cap,v=.slice a l.length cap/\l.length<=cap/\cap<=maxLen/\(a=none->cap=0)/\
 ∀x,a=some x->l≠[]->x.spot=none/\(x.block<w.heap.size/\P x.block)/\jH (ae P w) (mo P w) (fun b=>b<w.heap.size/\P b) w x.block x.off l
theorem iT.move{P Q:Nat->Prop}{w w':World}(hs:w.heap.size<=w'.heap.size)(hb:∀k,P k->k<w.heap.size->w'.heap[k]?=w.heap[k]?)(hq:∀k,P k->k<w.heap.size->Q k){v:Value}{l:List bP}(h:iT P w v l):iT Q w' v l:=by
 obtain⟨a,Aa,h1,h2,h3,h4,h5⟩:=h;refine⟨a,Aa,h1,h2,h3,h4,fun x hx hl=>?_⟩;obtain⟨g1,g2,g3⟩:=h5 x hx hl;exact⟨g1,⟨Nat.lt_of_lt_of_le g2.1 hs,hq _ g2.2 g2.1⟩,jH.map (fun e cs h=>ae.move hs hb hq e cs h) (fun _ _ h=>h.move hs hb hq) (fun b h=>⟨Nat.lt_of_lt_of_le h.1 hs,hq b h.2 h.1⟩) (fun b h off u hu=>(iH (hb b h.2 h.1) off).trans hu) g2 _ _ g3⟩
theorem aN.whole{P:Nat->Prop}{w:World}{b:Bool}{n:ByteArray}{v:gu}{ls:List ByteArray}{its:List bP}{vo vt:ByteArray}{vk lv iv:Value}(hv:ae P w v [.string vo,.string vt,vk])(hl:mo P w lv ls)(hi:iT P w iv its) :
  aN P w (.mk b n v ls its) [.bool b,.string n,.string vo,.string vt,vk,lv,iv]:=by
 obtain⟨a,Aa,rfl,h2,h3,h4,h5⟩:=hi;unfold aN;simp only[mI];exact⟨vo,vt,vk,lv,a,Aa,rfl,hv,hl,h2,h3,h4,h5⟩
def PQ(w:World)(g:FJ)(e:Ending)(w':World):Prop:=Below w.heap.size w w'/\(g.e≠0->e=.returned (.agg (bz g.at_ g.e)))/\
 (g.e=0->∃ia ic,e=.returned (.agg (gotY (.slice ia g.l.length ic) (g.n:Nat) 0 0))/\iT (fun q=>w.heap.size<=q) w' (.slice ia g.l.length ic) g.l)
def BG(R:List fO)(size:Int)(i d:Nat):Prop:=∀(w:World) (v:Value) (B:Nat),DZ B w v R->Calls Tryz.prog 52 #[v,.int .i64 (i:Nat),.int .i64 (d:Nat)] w (PQ w (dm size (R.drop i) d [] 0))
def vX(size:Int)(rest:List fO)(d:Nat):oW->Jo
 |.begins x=>if (dm size rest (d+1) [] 0).e≠0 then .bad (dm size rest (d+1) [] 0).at_ (dm size rest (d+1) [] 0).e else .one (.mk x.block x.name x.value x.labels (dm size rest (d+1) [] 0).l) ((dm size rest (d+1) [] 0).n+1)
 |k=>Px k
theorem DK(size:Int)(rest:List fO)(d:Nat)(a e:Int):vX size rest d (.wrong a e)=.bad a e:=rfl
theorem Je(size:Int)(rest:List fO)(d:Nat)(x:bP):vX size rest d (.bare x)=.one x 1:=rfl
structure Jq(w W:World)(s:Value)(stop:Int)(last:Bool)(nm:ByteArray)(v:Value)(pre:List ByteArray):Prop where
 b:Below w.heap.size w W
 k0:aa W w.heap.size (bz 0 0) 56
 k1:aa W (w.heap.size+1) #[s,.int .i64 stop,.bool last] 137
 k2:aa W (w.heap.size+2) #[.bool true,.string nm,.string ⟨#[]⟩,.string ⟨#[]⟩,.slice none 0 0,v,.slice none 0 0] 54
 own:aX Value.string 9 (w.heap.size+3) W v pre
 le:w.heap.size+3<=W.heap.size
theorem Jq.step{w W W':World}{s:Value}{stop:Int}{last:Bool}{nm:ByteArray}{v:Value}{pre:List ByteArray}(h:Jq w W s stop last nm v pre)(hb:Below W.heap.size W W'):Jq w W' s stop last nm v pre:=
 ⟨h.b.trans (hb.mono h.b.size),h.k0.below hb h.k0.lt,h.k1.below hb h.k1.lt,h.k2.below hb h.k2.lt,h.own.below hb lz,Nat.le_trans h.le hb.size⟩
theorem Jq.start(w:World)(s:Value)(stop:Int)(last:Bool)(nm:ByteArray):Jq w (((w.alloc (.cells (bz 0 0) 56)).alloc (.cells #[s,.int .i64 stop,.bool last] 137)).alloc (.cells #[.bool true,.string nm,.string ⟨#[]⟩,.string ⟨#[]⟩,.slice none 0 0,.slice none 0 0,.slice none 0 0] 54)) s stop last nm (.slice none 0 0) []:=by
 have k0:=((aa.new w (bz 0 0) 56).alloc (.cells #[s,.int .i64 stop,.bool last] 137)).alloc (.cells #[.bool true,.string nm,.string ⟨#[]⟩,.string ⟨#[]⟩,.slice none 0 0,.slice none 0 0,.slice none 0 0] 54);have k1:=(aa.new (w.alloc (.cells (bz 0 0) 56)) #[s,.int .i64 stop,.bool last] 137).alloc (.cells #[.bool true,.string nm,.string ⟨#[]⟩,.string ⟨#[]⟩,.slice none 0 0,.slice none 0 0,.slice none 0 0] 54);have k2:=aa.new ((w.alloc (.cells (bz 0 0) 56)).alloc (.cells #[s,.int .i64 stop,.bool last] 137)) #[.bool true,.string nm,.string ⟨#[]⟩,.string ⟨#[]⟩,.slice none 0 0,.slice none 0 0,.slice none 0 0] 54;simp only[World.size_alloc] at k1 k2;exact⟨(((Below.refl _ w).alloc lz _).alloc (by simp) _).alloc (by simp only[World.size_alloc];omega) _,k0,k1,k2,aX.nil,by simp⟩
theorem Jq.label{w W w3:World}{s:Value}{stop:Int}{last:Bool}{nm:ByteArray}{v v3:Value}{pre pre3:List ByteArray}(h:Jq w W s stop last nm v pre)(hb:Below (w.heap.size+3) W w3)(ho:aX Value.string 9 (w.heap.size+3) w3 v3 pre3) :
  Jq w (w3.setCell ⟨w.heap.size+2,5,none⟩ v3) s stop last nm v3 pre3:=by
 have k0:=h.k0.below hb (by omega);have k1:=h.k1.below hb (by omega);have k2:=h.k2.below hb (by omega);refine⟨(h.b.trans (hb.mono (by omega))).setCell (by show w.heap.size<=w.heap.size+2;omega) _,k0.setOther _ _ (by show w.heap.size+2≠_;omega),k1.setOther _ _ (by show w.heap.size+2≠_;omega),k2.setI 5 _,?_,by rw[World.size_setCell];exact Nat.le_trans h.le hb.size⟩;exact ho.setOther ⟨w.heap.size+2,5,none⟩ v3 (fun h=>by have h9:w.heap.size+3<=w.heap.size+2:=(World.ownsRow.lt ho _ h).1;omega)
end Go.Proofs.YtbcdaaobbebooaaGreatDoor
