import Derived.Test.YtbcdaaobbebooaaGreatDoorMgr
set_option linter.unusedSimpArgs false
set_option linter.unusedVariables false
set_option maxRecDepth 100000
set_option maxHeartbeats 20000000
namespace Go.Proofs.YtbcdaaobbebooaaGreatDoor
open Go.RowKit Go.Tab
theorem rZ(r:List ag)(n:Nat):cO r n=(aQ,n,(cO r 0).2.2):=by unfold cO;split<;>rfl
theorem oF{l:List ag}{k:Nat}{s:ByteArray}(h:bO (l.drop k) s=true):k<l.length:=by
 by_cases hk:k<l.length
 ·exact hk
 ·rw[List.drop_eq_nil_of_le (by omega)] at h;cases h
theorem cZ{w W:World}(hb:Below w.heap.size w W)(vs:List Value):Below w.heap.size w (ai W w.heap.size 0 vs):=aL w.heap.size w.heap.size lz vs 0 _ _ hb
theorem mO{w W:World}{x:gu}{cs vs:List Value}(hX:ae (fun b=>w.heap.size+1<=b) W x cs):ae (fun b=>w.heap.size+1<=b) (ai W w.heap.size 0 vs) x cs:=
 ae.move (by rw[aB];exact Nat.le_refl _) (fun b hb _=>aK _ _ _ _ _ (by omega)) (fun b hb _=>hb) _ _ hX
theorem qH{w W:World}{x:gu}{cs:List Value}(hX:ae (fun b=>w.heap.size+1<=b) W x cs)(A:Obj):ae (fun b=>w.heap.size+1<=b) (W.alloc A) x cs:=
 ae.move (by simp) (fun b _ hl=>Below.heap_alloc _ _ _ hl) (fun b hb _=>hb) _ _ hX
theorem Ea{w W W':World}{x:gu}{cs:List Value}(hX:ae (fun b=>w.heap.size+1<=b) W x cs)(hb:Below W.heap.size W W'):ae (fun b=>w.heap.size+1<=b) W' x cs:=
 ae.move hb.size (fun b _ hl=>hb.block b hl) (fun b hb _=>hb) _ _ hX
theorem ug{w w4:World}{vs:List Value}{x:gu}{cs:List Value}(hX:ae (fun b=>w.heap.size+1<=b) w4 x cs)(A:Obj):ae (fun b=>w.heap.size+1<=b) ((ai w4 w.heap.size 0 vs).alloc A) x cs:=
 qH (mO hX) A
structure wh(w W:World)(lv:Value)(l:List ag):Prop where
 b:Below w.heap.size w W
 q:aa W w.heap.size nz 163
 l:Ls W lv l
theorem wh.go{w W W':World}{lv:Value}{l:List ag}(h:wh w W lv l)(hb:Below W.heap.size W W'):wh w W' lv l:=⟨h.b.trans (hb.mono h.b.size),h.q.below hb h.q.lt,h.l.below hb⟩
theorem wh.start{w:World}{lv:Value}{l:List ag}(h:Ls w lv l):wh w (w.alloc (.cells nz 163)) lv l:=⟨(Below.refl _ w).alloc lz _,aa.new w nz _,h.alloc _⟩
theorem wh.next{w W:World}{lv:Value}{l:List ag}(h:wh w W lv l)(o:Obj):wh w (W.alloc o) lv l:=h.go ((Below.refl _ W).alloc lz _)
theorem wh.exp{w W W':World}{lv:Value}{l:List ag}{x:gu}{cs:List Value}(h:wh w W lv l)(hX:ae (fun b=>W.heap.size<=b) W' x cs):ae (fun b=>w.heap.size+1<=b) W' x cs:=
 ae.move lz (fun _ _ _=>rfl) (fun b hb _=>by have:=h.q.lt;omega) _ _ hX
theorem yX(m:Nat)(hT:TC m)(hC:CC m):CC (m+1):=by
 intro w lv l k d h hk hd hne;obtain⟨a,c,rfl,Cd,BV⟩:=h.sl;have AV:=h.few;unfold maxLen at BV;rw[aj] at hne ⊢;have Bo:=wh.start h;have Bg:=gT hne;have Bc:=(fq m (.term 1) (l.drop k) d (by simp only[Nt.okX];omega) Bg).1;rw[List.length_drop] at Bc;have B1:=hT _ _ l k d 1 Bo.l hk hd (by omega) (by omega) Bg
 obtain⟨R,hR⟩:∃R,R=(iE (aj m (.term 1) (l.drop k) d) fun a k2=>
   if bO ((l.drop k).drop k2) sQ=false then (a,k2,0) else if 64<=d then mh k2 else
   iE (dL (k2+1) (aj m .choice ((l.drop k).drop (k2+1)) (d+1))) fun b k3=>
   if bO ((l.drop k).drop k3) LP=false then cO ((l.drop k).drop k3) k3 else
   iE (dL (k3+1) (aj m .choice ((l.drop k).drop (k3+1)) (d+1))) fun c k4=>(.mk sQ iU [a,b,c],k4,0)):=⟨_,rfl⟩
 rw[<-hR] at hne ⊢;generalize aj m (.term 1) (l.drop k) d=R1 at *;obtain⟨x1,n1,e1⟩:=R1;simp only at Bc Bg;have HR:=Hh hR;have HN:=Hh hne;clear hne hR Bg;have Bl:=Hh Bo;have By:=Hh hC;clear h Bo hC;go_enter Tryz.func164,Tryz.ntmps164;go_wp2_with fail;refine (B1).mono ?_;clear B1;rintro _ w4 ⟨hbX,o1,t1,a1,m1,c1,heX,hXX⟩;simp only at heX hXX;obtain⟨p1,AI⟩:∃pz:Nat,pz=k+n1:=⟨_,rfl⟩;rw[<-AI] at heX;subst heX;have AD:=Hh AI;clear AI;have Bp:=Bl.out.go hbX;have Bn:=Hh (fun h=>Bl.out.exp (hXX h));have AE:=Bp.q;have Cb:=AE.lt;have AH:=Hh Bp;clear hbX hXX Bl Bp
 by_cases he1:e1=0
 ·subst he1
  simp only[bL (g:=(x1,n1,(0:Int))) rfl,List.drop_drop] at HR;have AI:=AD.out;rw[<-AI] at HR;have AG:=fun s=>fM (w4.alloc (.cells (aT o1 t1 (.slice a1 m1 c1) p1 0) 163)) (.slice a l.length c) l p1 s (AH.out.next _).l.toks AV (by omega)
  by_cases hqs:bO (l.drop p1) sQ=false
  ·have Au:Hid (R=(x1,n1,0)):=Hh (by rw[HR.out,if_pos hqs])
   obtain⟨Aa,Af,Ab,Ag,Ac,Ah,Ad,Ai,Ae,Aj⟩:=AE.n5 rfl;clear AE AI;go_wp2_with (go_at_call 194;refine (AG _).mono ?_;rintro _ _ ⟨rfl,rfl⟩;simp only[hqs])
   have hq:=(((((AH.out.q.setI 0 (.string o1)).setI 1 (.string t1)).setI 2 (.slice a1 m1 c1)).setI 3 (.int .i64 p1)).setI 4 (.int .i64 0)).alloc (.cells (aT o1 t1 (.slice a1 m1 c1) p1 0) 163);have Av:=fJ (vs:=[.string o1,.string t1,.slice a1 m1 c1,.int .i64 p1,.int .i64 0]) AH.out.b (.cells (aT o1 t1 (.slice a1 m1 c1) p1 0) 163);obtain⟨Aw,Ax,Ay,Az,A0⟩:=hq.m5 rfl;refine bodyPost_ret (v:=.agg (#[.string o1,.string t1,.slice a1 m1 c1,.int .i64 p1,.int .i64 0])) (by simp[results,Tryz.results164,go_sem,Aw,Ax,Ay,Az,A0]) rfl ?_;rw[Au.out];have BY:=ug (vs:=[.string o1,.string t1,.slice a1 m1 c1,.int .i64 p1,.int .i64 0]) (Bn.out (by first|trivial|rfl)) (.cells (aT o1 t1 (.slice a1 m1 c1) p1 0) 163);exact cK (r:=(x1,n1,0)) (by simp only;rw[AD.out]) rfl Av (fun h=>BY)
  ·have hqs:bO (l.drop p1) sQ=true:=by simpa using hqs
   have BZ:p1<l.length:=oF hqs
   by_cases hd64:64<=d
   ·have Au:Hid (R=(aQ,n1,5)):=Hh (by rw[HR.out,if_neg (by rw[hqs];decide),if_pos hd64];rfl)
    clear HR HN;obtain⟨Aa,Af,Ab,Ag,Ac,Ah,Ad,Ai,Ae,Aj⟩:=AE.n5 rfl;clear AE AI;go_wp2_with (go_at_call 194;refine (AG _).mono ?_;rintro _ _ ⟨rfl,rfl⟩;simp only[hqs])
    have hq:=(((((AH.out.q.setI 0 (.string ⟨#[]⟩)).setI 1 (.string ⟨#[]⟩)).setI 2 (.slice none 0 0)).setI 3 (.int .i64 p1)).setI 4 (.int .i64 5)).alloc (.cells (aT o1 t1 (.slice a1 m1 c1) p1 0) 163);have Av:=fJ (vs:=[.string ⟨#[]⟩,.string ⟨#[]⟩,.slice none 0 0,.int .i64 p1,.int .i64 5]) AH.out.b (.cells (aT o1 t1 (.slice a1 m1 c1) p1 0) 163);obtain⟨Aw,Ax,Ay,Az,A0⟩:=hq.m5 rfl;refine bodyPost_ret (v:=.agg (#[.string ⟨#[]⟩,.string ⟨#[]⟩,.slice none 0 0,.int .i64 p1,.int .i64 5])) (by simp[results,Tryz.results164,go_sem,Aw,Ax,Ay,Az,A0]) rfl ?_;rw[Au.out];exact cK (r:=(aQ,n1,5)) (by simp only;rw[AD.out]) rfl Av (fun h=>by cases h)
   ·simp only[if_neg (show ¬bO (l.drop p1) sQ=false by rw[hqs];decide),if_neg hd64] at HR
    rw[show k+(n1+1)=p1+1 by omega] at HR
    have Bh:(aj m .choice (l.drop (p1+1)) (d+1)).2.2≠-1:=by
     have:=HN.out;rw[HR.out] at this;have h9:=gT this;exact h9
    have Bd:=(fq m .choice (l.drop (p1+1)) (d+1) trivial Bh).1;rw[List.length_drop] at Bd;have Br:=AH.out.next (.cells (aT o1 t1 (.slice a1 m1 c1) p1 0) 163);have Bt:=By.out _ _ l (p1+1) (d+1) Br.l (by omega) (by omega) Bh;rw[show ((p1+1:Nat):Int)=(p1:Int)+1 by omega,show ((d+1:Nat):Int)=(d:Int)+1 by omega] at Bt;generalize aj m .choice (l.drop (p1+1)) (d+1)=R2 at *;obtain⟨x2,n2,e2⟩:=R2;simp only at Bd Bh;have B2:=aa.new w4 (aT o1 t1 (.slice a1 m1 c1) p1 0) 163;have Be:=Jh B2 (qH (Bn.out (by first|trivial|rfl)) (.cells (aT o1 t1 (.slice a1 m1 c1) p1 0) 163));have Bm:=Hh Br;clear Br B2 Bh;obtain⟨Aa,Af,Ab,Ag,Ac,Ah,Ad,Ai,Ae,Aj⟩:=AE.n5 rfl;clear AE AI;go_wp2_with (go_at_call 194;refine (AG _).mono ?_;rintro _ _ ⟨rfl,rfl⟩;simp only[hqs])
    clear Aa Ab Ac Ad Ae Af Ag Ah Ai Aj AG;refine (Bt).mono ?_;clear Bt;rintro _ w6 ⟨hbX,o2,t2,a2,m2,c2,heX,hXX⟩;simp only at heX hXX;obtain⟨p2,AZ⟩:∃pz:Nat,pz=p1+1+n2:=⟨_,rfl⟩;rw[<-AZ] at heX;subst heX;have Bb:=Hh AZ;clear AZ;have Bs:=Bm.out.go hbX;have AX:=Be.out.1.below hbX Be.out.1.lt;have Bi:=Ea Be.out.2 hbX;have B0:=Hh (fun h=>Bm.out.exp (hXX h));have AW:=Bs.q;have Cc:=AW.lt;have Ce:=AX.lt;have AY:=Jh Bs (And.intro AX Bi);clear hbX hXX Bm Bs Be;have B5:w.heap.size≠w4.heap.size:=by omega
    by_cases he2:e2=0
    ·subst he2
     simp only[bL (g:=dL (n1+1) (x2,n2,(0:Int))) rfl] at HR;have AZ:=Bb.out;have hu:(dL (n1+1) (x2,n2,(0:Int))).2.1=n1+1+n2:=rfl;have Bx:(dL (n1+1) (x2,n2,(0:Int))).1=x2:=rfl;have Ba:=AD.out;rw[hu,Bx,show k+(n1+1+n2)=p2 by omega,show k+(n1+1+n2+1)=p2+1 by omega] at HR;have Bf:=AY.out.1.next (.cells (aT o2 t2 (.slice a2 m2 c2) p2 0) 163);have B3:=aa.new w6 (aT o2 t2 (.slice a2 m2 c2) p2 0) 163;have A1:=Jh Bf (And.intro (AY.out.2.1.alloc (.cells (aT o2 t2 (.slice a2 m2 c2) p2 0) 163)) (And.intro B3 (And.intro (qH AY.out.2.2 (.cells (aT o2 t2 (.slice a2 m2 c2) p2 0) 163)) (qH (B0.out (by first|trivial|rfl)) (.cells (aT o2 t2 (.slice a2 m2 c2) p2 0) 163)))));have AG:=fun s=>fM (w6.alloc (.cells (aT o2 t2 (.slice a2 m2 c2) p2 0) 163)) (.slice a l.length c) l p2 s Bf.l.toks AV (by omega);have AU:=lM (w6.alloc (.cells (aT o2 t2 (.slice a2 m2 c2) p2 0) 163)) (.slice a l.length c) l p2 Bf.l.toks AV (by omega);clear Bf B3 AY B0 Bn
     by_cases hcs:bO (l.drop p2) LP=false
     ·have Au:Hid (R=(aQ,n1+1+n2,(cO (l.drop p2) 0).2.2)):=Hh (by rw[HR.out,if_pos hcs,rZ])
      have BU:Hid ((cO (l.drop p2) 0).2.2≠0):=Hh (by unfold cO;split<;>simp);generalize (cO (l.drop p2) 0).2.2=eb at *;clear HR HN AZ Ba hu Bx;obtain⟨Ak,Ap,Al,Aq,Am,Ar,An,As,Ao,At⟩:=AW.n5 rfl;obtain⟨A2,A7,A3,A8,A4,A9,A5,AA,A6,AB⟩:=AX.n5 rfl;clear AW AX;go_wp2_with (go_at_call 194;refine (AG _).mono ?_;rintro _ _ ⟨rfl,rfl⟩;simp only[hcs])
      refine AU.mono ?_;clear AU AG Ak Al Am An Ao Ap Aq Ar As At A2 A3 A4 A5 A6 A7 A8 A9 AA AB;rintro _ w8 ⟨rfl,hb8⟩;have AT:=A1.out.1.go hb8;have AF:=AT.q;have B4:=AF.lt;have AC:=Hh AT;clear AT hb8 A1;obtain⟨AJ,AO,AK,AP,AL,AQ,AM,AR,AN,AS⟩:=AF.n5 rfl;clear AF;go_wp2_with fail;have hq:=((((AC.out.q.setI 0 (.string ⟨#[]⟩)).setI 1 (.string ⟨#[]⟩)).setI 2 (.slice none 0 0)).setI 3 (.int .i64 p2)).setI 4 (.int .i64 eb);have Av:=cZ AC.out.b [.string ⟨#[]⟩,.string ⟨#[]⟩,.slice none 0 0,.int .i64 p2,.int .i64 eb];obtain⟨Aw,Ax,Ay,Az,A0⟩:=hq.m5 rfl;refine bodyPost_ret (v:=.agg (#[.string ⟨#[]⟩,.string ⟨#[]⟩,.slice none 0 0,.int .i64 p2,.int .i64 eb])) (by simp[results,Tryz.results164,go_sem,Aw,Ax,Ay,Az,A0]) rfl ?_;rw[Au.out];exact cK (r:=(aQ,n1+1+n2,eb)) (by simp only;have:=Bb.out;have:=AD.out;omega) rfl Av (fun h=>absurd h BU.out)
     ·have hcs:bO (l.drop p2) LP=true:=by simpa using hcs
      have Ca:p2<l.length:=oF hcs;rw[if_neg (by rw[hcs];decide)] at HR
      have Bv:(aj m .choice (l.drop (p2+1)) (d+1)).2.2≠-1:=by
       have:=HN.out;rw[HR.out] at this;have h9:=gT this;exact h9
      have Bu:=By.out _ _ l (p2+1) (d+1) A1.out.1.l (by omega) (by omega) Bv;rw[show ((p2+1:Nat):Int)=(p2:Int)+1 by omega,show ((d+1:Nat):Int)=(d:Int)+1 by omega] at Bu;generalize aj m .choice (l.drop (p2+1)) (d+1)=R3 at *;obtain⟨x3,n3,e3⟩:=R3;simp only at Bv;clear Bv AU AZ Ba hu Bx;obtain⟨Ak,Ap,Al,Aq,Am,Ar,An,As,Ao,At⟩:=AW.n5 rfl;obtain⟨A2,A7,A3,A8,A4,A9,A5,AA,A6,AB⟩:=AX.n5 rfl;clear AW AX;go_wp2_with (go_at_call 194;refine (AG _).mono ?_;rintro _ _ ⟨rfl,rfl⟩;simp only[hcs])
      clear AG Ak Al Am An Ao Ap Aq Ar As At A2 A3 A4 A5 A6 A7 A8 A9 AA AB;refine (Bu).mono ?_;clear Bu;rintro _ w8 ⟨hbX,o3,t3,a3,m3,c3,heX,hXX⟩;simp only at heX hXX;obtain⟨p3,Bw⟩:∃pz:Nat,pz=p2+1+n3:=⟨_,rfl⟩;rw[<-Bw] at heX;subst heX;have Bz:=Hh Bw;clear Bw;have AT:=A1.out.1.go hbX;have Bj:=A1.out.2.1.below hbX A1.out.2.1.lt;have Bk:=A1.out.2.2.1.below hbX A1.out.2.2.1.lt;have Bi:=Ea A1.out.2.2.2.1 hbX;have B7:=Ea A1.out.2.2.2.2 hbX;have BS:=Hh (fun h=>A1.out.1.exp (hXX h));have AF:=AT.q;have B4:=AF.lt;have BW:=Bj.lt;have BX:=Bk.lt;have AC:=Jh AT (And.intro Bi B7);clear hbX hXX A1 AT Bi B7;have B6:w.heap.size≠w6.heap.size:=by omega
      by_cases he3:e3=0
      ·subst he3
       have Au:Hid (R=(.mk sQ iU [x1,x2,x3],n1+1+n2+1+n3,0)):=Hh (by rw[HR.out,bL (by rfl)];rfl);clear HR HN;obtain⟨AJ,AO,AK,AP,AL,AQ,AM,AR,AN,AS⟩:=AF.n5 rfl;obtain⟨B8,BD,B9,BE,BA,BF,BB,BG,BC,BH⟩:=Bj.n5 rfl;obtain⟨BI,BN,BJ,BO,BK,BP,BL,BQ,BM,BR⟩:=Bk.n5 rfl;clear AF Bj Bk;go_wp2_with fail;have BT:=BS.out (by first|trivial|rfl);have hq:=((((((AC.out.1.q.setI 0 (.string sQ)).setI 1 (.string ⟨#[]⟩)).setI 2 (.slice (some ⟨w8.heap.size+1,0,none⟩) 3 3)).setI 3 (.int .i64 p3)).setI 4 (.int .i64 0)).alloc (.cells (aT o3 t3 (.slice a3 m3 c3) p3 0) 163)).alloc (.cells #[.string o1,.string t1,.slice a1 m1 c1,.string o2,.string t2,.slice a2 m2 c2,.string o3,.string t3,.slice a3 m3 c3] 52)
       have hn:ae (fun b=>w.heap.size+1<=b) (((ai w8 w.heap.size 0 [.string sQ,.string ⟨#[]⟩,.slice (some ⟨w8.heap.size+1,0,none⟩) 3 3,.int .i64 p3,.int .i64 0]).alloc (.cells (aT o3 t3 (.slice a3 m3 c3) p3 0) 163)).alloc (.cells #[.string o1,.string t1,.slice a1 m1 c1,.string o2,.string t2,.slice a2 m2 c2,.string o3,.string t3,.slice a3 m3 c3] 52)) (.mk sQ iU [x1,x2,x3]) [.string sQ,.string iU,.slice (some ⟨w8.heap.size+1,0,none⟩) 3 3]:=
        yt B4 _ [(x1,dQ o1 t1 (.slice a1 m1 c1)),(x2,dQ o2 t2 (.slice a2 m2 c2)),(x3,dQ o3 t3 (.slice a3 m3 c3))] (fun s hs=>by
         simp only[List.mem_cons,List.not_mem_nil,or_false] at hs;rcases hs with rfl|rfl|rfl
         ·exact AC.out.2.1
         ·exact AC.out.2.2
         ·exact BT) (by simp[maxLen])
       have Av:=Bq (vs:=[.string sQ,.string ⟨#[]⟩,.slice (some ⟨w8.heap.size+1,0,none⟩) 3 3,.int .i64 p3,.int .i64 0]) AC.out.1.b (.cells (aT o3 t3 (.slice a3 m3 c3) p3 0) 163) (.cells #[.string o1,.string t1,.slice a1 m1 c1,.string o2,.string t2,.slice a2 m2 c2,.string o3,.string t3,.slice a3 m3 c3] 52);obtain⟨Aw,Ax,Ay,Az,A0⟩:=hq.m5 rfl;refine bodyPost_ret (v:=.agg (#[.string sQ,.string ⟨#[]⟩,.slice (some ⟨w8.heap.size+1,0,none⟩) 3 3,.int .i64 p3,.int .i64 0])) (by simp[results,Tryz.results164,go_sem,Aw,Ax,Ay,Az,A0]) rfl ?_;rw[Au.out];exact cK (r:=(.mk sQ iU [x1,x2,x3],n1+1+n2+1+n3,0)) (by simp only;have:=Bz.out;have:=Bb.out;have:=AD.out;omega) rfl Av (fun _=>hn)
      ·have e0:(e3 != 0)=true:=by simpa using he3
       have Au:Hid (R=(aQ,n1+1+n2+1+n3,e3)):=Hh (by rw[HR.out,bf (by exact he3)];rfl);clear HR HN;obtain⟨AJ,AO,AK,AP,AL,AQ,AM,AR,AN,AS⟩:=AF.n5 rfl;clear AF Bj Bk;go_wp2_with fail;have hq:=(((((AC.out.1.q.setI 0 (.string o3)).setI 1 (.string t3)).setI 2 (.slice a3 m3 c3)).setI 3 (.int .i64 p3)).setI 4 (.int .i64 e3)).alloc (.cells (aT o3 t3 (.slice a3 m3 c3) p3 e3) 163);have Av:=fJ (vs:=[.string o3,.string t3,.slice a3 m3 c3,.int .i64 p3,.int .i64 e3]) AC.out.1.b (.cells (aT o3 t3 (.slice a3 m3 c3) p3 e3) 163);obtain⟨Aw,Ax,Ay,Az,A0⟩:=hq.m5 rfl;refine bodyPost_ret (v:=.agg (#[.string o3,.string t3,.slice a3 m3 c3,.int .i64 p3,.int .i64 e3])) (by simp[results,Tryz.results164,go_sem,Aw,Ax,Ay,Az,A0]) rfl ?_;rw[Au.out];exact cK (r:=(aQ,n1+1+n2+1+n3,e3)) (by simp only;have:=Bz.out;have:=Bb.out;have:=AD.out;omega) rfl Av (fun h=>absurd h he3)
    ·have e0:(e2 != 0)=true:=by simpa using he2
     have Au:Hid (R=(aQ,n1+1+n2,e2)):=Hh (by rw[HR.out,bf (by exact he2)];rfl);clear HR HN;obtain⟨Ak,Ap,Al,Aq,Am,Ar,An,As,Ao,At⟩:=AW.n5 rfl;clear AW AX;go_wp2_with fail;have hq:=(((((AY.out.1.q.setI 0 (.string o2)).setI 1 (.string t2)).setI 2 (.slice a2 m2 c2)).setI 3 (.int .i64 p2)).setI 4 (.int .i64 e2)).alloc (.cells (aT o2 t2 (.slice a2 m2 c2) p2 e2) 163);have Av:=fJ (vs:=[.string o2,.string t2,.slice a2 m2 c2,.int .i64 p2,.int .i64 e2]) AY.out.1.b (.cells (aT o2 t2 (.slice a2 m2 c2) p2 e2) 163);obtain⟨Aw,Ax,Ay,Az,A0⟩:=hq.m5 rfl;refine bodyPost_ret (v:=.agg (#[.string o2,.string t2,.slice a2 m2 c2,.int .i64 p2,.int .i64 e2])) (by simp[results,Tryz.results164,go_sem,Aw,Ax,Ay,Az,A0]) rfl ?_;rw[Au.out];exact cK (r:=(aQ,n1+1+n2,e2)) (by simp only;have:=Bb.out;have:=AD.out;omega) rfl Av (fun h=>absurd h he2)
 ·have e0:(e1 != 0)=true:=by simpa using he1
  have Au:Hid (R=(aQ,n1,e1)):=Hh (by rw[HR.out,bf (by exact he1)]);clear HR HN;obtain⟨Aa,Af,Ab,Ag,Ac,Ah,Ad,Ai,Ae,Aj⟩:=AE.n5 rfl;clear AE;go_wp2_with fail;have hq:=(((((AH.out.q.setI 0 (.string o1)).setI 1 (.string t1)).setI 2 (.slice a1 m1 c1)).setI 3 (.int .i64 p1)).setI 4 (.int .i64 e1)).alloc (.cells (aT o1 t1 (.slice a1 m1 c1) p1 e1) 163);have Av:=fJ (vs:=[.string o1,.string t1,.slice a1 m1 c1,.int .i64 p1,.int .i64 e1]) AH.out.b (.cells (aT o1 t1 (.slice a1 m1 c1) p1 e1) 163);obtain⟨Aw,Ax,Ay,Az,A0⟩:=hq.m5 rfl;refine bodyPost_ret (v:=.agg (#[.string o1,.string t1,.slice a1 m1 c1,.int .i64 p1,.int .i64 e1])) (by simp[results,Tryz.results164,go_sem,Aw,Ax,Ay,Az,A0]) rfl ?_;rw[Au.out];exact cK (r:=(aQ,n1,e1)) (by simp only;rw[AD.out]) rfl Av (fun h=>absurd h he1)
def y7(w:World)(g:Nat):Nat:=match w.cell? ⟨g,3,none⟩ with
 |some (.int _ n)=>n.toNat
 |_=>0
theorem sZ{w:World}{g:Nat}{o t:ByteArray}{kv:Value}{p:Nat}{e:Int}(h:aa w g (aT o t kv (p:Nat) e) 163):y7 w g=p:=by
 unfold y7;rw[h.cell 3 (.int .i64 (p:Nat)) rfl];simp
def PH(w:World)(q2:Nat)(lv:Value)(l:List ag)(k d n m:Nat)(R:fw)(wr:World):Prop:=
 wh w wr lv l/\∃(o t:ByteArray) (a:Option Addr) (nn c p:Nat) (e:Int),aa wr q2 (aT o t (.slice a nn c) (p:Nat) e) 163/\k<=p/\
  ((e=0/\p<=l.length/\∃j x,j<=m/\R=dL (p-k) (aj j (.tloop n x) (l.drop p) d)/\ae (fun b=>w.heap.size+1<=b/\b≠q2) wr x (dQ o t (.slice a nn c)))\/(e≠0/\R=(aQ,p-k,e)))
theorem oJ{P:Nat->Prop}{W:World}{x:gu}{cs:List Value}(hX:ae P W x cs)(A:Obj):ae P (W.alloc A) x cs:=
 ae.move (by simp) (fun b _ hl=>Below.heap_alloc _ _ _ hl) (fun b hb _=>hb) _ _ hX
theorem uO{w w7:World}{q:Nat}{vs:List Value}(hq:q<w7.heap.size){op text:ByteArray}(kids:List (gu×List Value))(hk:∀s∈kids,ae (fun b=>w.heap.size+1<=b/\b≠q) w7 s.1 s.2)(hm:kids.length<=maxLen)(hw:w.heap.size+1<=w7.heap.size) :
  ae (fun b=>w.heap.size+1<=b/\b≠q) ((ai w7 q 0 vs).alloc (.cells (kids.flatMap (·.2)).toArray 52)) (.mk op text (kids.map (·.1))) [.string op,.string text,.slice (some ⟨w7.heap.size,0,none⟩) kids.length kids.length]:=by
 have hc:=aa.new (ai w7 q 0 vs) (kids.flatMap (·.2)).toArray 52;rw[aB] at hc;refine qw (P:=fun b=>w.heap.size+1<=b/\b≠q) kids hc ⟨hw,by omega⟩ (fun s hs=>?_) hm;exact ae.move (by rw[World.size_alloc,aB];omega) (fun b hb hl=>by rw[Below.heap_alloc _ _ _ (by rw[aB];exact hl),aK _ _ _ _ _ hb.2]) (fun b hb _=>hb) _ _ (hk s hs)
theorem wh.put{w W:World}{lv:Value}{l:List ag}(h:wh w W lv l){q:Nat}(hq:w.heap.size<q)(vs:List Value)(hb:∀b,lv.ownBlock=some b->b<w.heap.size):wh w (ai W q 0 vs) lv l:=by
 refine⟨aL q w.heap.size (by omega) vs 0 _ _ h.b,h.q.setAllOther (by omega),⟨?_,h.l.few,h.l.short,h.l.quo⟩⟩;refine h.l.toks.moved (by rw[aB];exact Nat.le_refl _) (fun b off hl hv=>?_);exact iH (aK _ _ _ _ _ (by have:=hb b hv;omega)) off
theorem Ce(m:Nat)(hX:XC m)(hT:∀j,j<=m->TC j):TC (m+1):=by
 intro w lv l k d n h hk hd hn1 hn7 hne;obtain⟨a,c,rfl,Cq,Ca⟩:=h.sl;have Cb:=h.few;unfold maxLen at Ca;rw[aj] at hne ⊢;have A9:=wh.start h;have HL:=Hh h.toks
 by_cases h7:n=7
 ·subst h7
  rw[if_pos (by omega)] at hne ⊢;have AA:=hX _ _ l k d A9.l hk hd hne;generalize aj m .tight (l.drop k) d=R1 at *;obtain⟨x1,n1,e1⟩:=R1;have A6:=Hh A9;clear h A9 hne;go_enter Tryz.func193,Tryz.ntmps193;go_wp2_with fail;refine (AA).mono ?_;clear AA;rintro _ w4 ⟨hbX,o1,t1,a1,m1,c1,heX,hXX⟩;simp only at heX hXX;obtain⟨p1,A3⟩:∃pz:Nat,pz=k+n1:=⟨_,rfl⟩;rw[<-A3] at heX;subst heX;have AT:=Hh A3;clear A3;have A7:=A6.out.go hbX;have BX:=Hh (fun h=>A6.out.exp (hXX h));have Bh:=A7.q;have Bo:=Bh.lt;have Bk:=Hh A7;clear hbX hXX A6 A7;obtain⟨Bq,Bv,Br,Bw,Bs,Bx,Bt,By,Bu,Bz⟩:=Bh.n5 rfl;clear Bh;go_wp2_with fail;have hq:=((((Bk.out.q.setI 0 (.string o1)).setI 1 (.string t1)).setI 2 (.slice a1 m1 c1)).setI 3 (.int .i64 p1)).setI 4 (.int .i64 e1);have Aw:=cZ Bk.out.b [.string o1,.string t1,.slice a1 m1 c1,.int .i64 p1,.int .i64 e1];obtain⟨Ay,Az,A0,A1,A2⟩:=hq.m5 rfl;refine bodyPost_ret (v:=.agg (#[.string o1,.string t1,.slice a1 m1 c1,.int .i64 p1,.int .i64 e1])) (by simp[results,Tryz.results193,go_sem,Ay,Az,A0,A1,A2]) rfl ?_
  exact cK (r:=(x1,n1,e1)) (by simp only;rw[AT.out]) rfl Aw (fun h=>mO (vs:=[.string o1,.string t1,.slice a1 m1 c1,.int .i64 p1,.int .i64 e1]) (BX.out h))
 ·have Cs:n<7:=by omega
  have Ct:((n:Int)==7)=false:=by rw[beq_eq_false_iff_ne];omega
  rw[if_neg (by omega)] at hne ⊢;have AX:=gT hne;have A8:=(fq m (.term (n+1)) (l.drop k) d (by simp only[Nt.okX];omega) AX).1;rw[List.length_drop] at A8;have AA:=hT m lz _ _ l k d (n+1) A9.l hk hd (by omega) (by omega) AX;rw[show ((n+1:Nat):Int)=(n:Int)+1 by omega] at AA;obtain⟨R,hR⟩:=exq ((iE (aj m (.term (n+1)) (l.drop k) d) fun a k2=>dL k2 (aj m (.tloop n a) ((l.drop k).drop k2) d)));rw[<-hR] at hne ⊢;generalize aj m (.term (n+1)) (l.drop k) d=R1 at *;obtain⟨x1,n1,e1⟩:=R1;simp only at A8 AX;have HR:=Hh hR;have HN:=Hh hne;have HT:=Hh hT;have A6:=Hh A9;clear h A9 hne hR hT AX h7;go_enter Tryz.func193,Tryz.ntmps193;go_wp2_with fail;refine (AA).mono ?_;clear AA;rintro _ w4 ⟨hbX,o1,t1,a1,m1,c1,heX,hXX⟩;simp only at heX hXX;obtain⟨p1,A3⟩:∃pz:Nat,pz=k+n1:=⟨_,rfl⟩;rw[<-A3] at heX;subst heX;have AT:=Hh A3;clear A3;have A7:=A6.out.go hbX
  have AZ:PH w w4.heap.size (.slice a l.length c) l k d n m R (w4.alloc (.cells (aT o1 t1 (.slice a1 m1 c1) p1 e1) 163)):=by
   have A3:=AT.out;refine⟨A7.next _,o1,t1,a1,m1,c1,p1,e1,aa.new _ _ _,by omega,?_⟩
   by_cases he:e1=0
   ·left
    refine⟨he,by omega,m,x1,Nat.le_refl _,?_,?_⟩
    ·rw[HR.out,bL (by exact he),List.drop_drop,A3,show k+n1-k=n1 by omega]
    ·exact ae.move (by simp) (fun b _ hl=>Below.heap_alloc _ _ _ hl) (fun b hb hl=>⟨hb,by omega⟩) _ _ (A6.out.exp (hXX he))
   ·right
    exact⟨he,by rw[HR.out,bf (by exact he),A3,show k+n1-k=n1 by omega]⟩
  have Bo:w.heap.size<w4.heap.size:=A7.q.lt;have Bl:=Hh AZ;clear hbX hXX A6 A7 AZ HR A8 AT;go_wp2_with fail;go_loopw [10] (fun _ wr=>PH w w4.heap.size (.slice a l.length c) l k d n m R wr) (fun _ wr=>l.length+1-y7 wr w4.heap.size)
  case atStart=>exact Bl.out
  case round=>
   clear Bl;obtain⟨hA,o5,t5,a5,Aa,c5,p,e,Av,Co,AZ⟩:=hrel;have Ax:=hA.q;have Cr:=Ax.lt;have Cd:=Av.lt;have BW:=Hh (sZ Av);rcases AZ with ⟨rfl,hpl,j,x,hj,hRe,hXx⟩|⟨he,hRe⟩
   ·have HH:=Jh hA hXx
    by_cases hpl2:p<l.length
    ·obtain⟨bb,BU,rfl,Bp,q0,q1,q2⟩:=hA.l.toks.get hpl2
     have Bg:l.drop p=l[p]::l.drop (p+1):=List.drop_eq_getElem_cons hpl2;obtain⟨kd,AV⟩:∃z,l[p].kind=z:=⟨_,rfl⟩;obtain⟨tx,Ba⟩:∃z,l[p].text=z:=⟨_,rfl⟩;rw[AV] at q0;rw[Ba] at q1;have AD:Gl (l.drop p) n=if kd=4/\CX tx=(n:Int) then some tx else none:=by rw[Bg];simp only[Gl,AV,Ba]
     clear q2 hA hXx
     by_cases hgo:kd=4/\CX tx=(n:Int)
     ·obtain⟨h4,A4⟩:=hgo
      rw[if_pos ⟨h4,A4⟩] at AD
      cases j with
      |zero=>exact absurd (by rw[hRe];rfl) HN.out
      |succ j=>
      rw[aj,AD] at hRe;simp only at hRe;rw[List.drop_drop] at hRe
      have AY:(aj j (.term (n+1)) (l.drop (p+1)) d).2.2≠-1:=by
       have:=HN.out;rw[hRe] at this;have h9:(iE (dL 1 (aj j (.term (n+1)) (l.drop (p+1)) d)) fun b k2=>dL k2 (aj j (.tloop n (.mk tx iU [x,b])) ((l.drop p).drop k2) d)).2.2≠-1:=this;have h8:=gT h9;exact h8
      have AE:=(fq j (.term (n+1)) (l.drop (p+1)) d (by simp only[Nt.okX];omega) AY).1;rw[List.length_drop] at AE;have Bf:=HT.out j (by omega) _ _ l (p+1) d (n+1) HH.out.1.l (by omega) hd (by omega) (by omega) AY;rw[show ((n+1:Nat):Int)=(n:Int)+1 by omega,show ((p+1:Nat):Int)=(p:Int)+1 by omega] at Bf;generalize aj j (.term (n+1)) (l.drop (p+1)) d=R2 at *;obtain⟨x2,n2,e2⟩:=R2;simp only at AE AY;have Bd:=Hh hRe;have Cg:(CX tx==(n:Int))=true:=by rw[beq_iff_eq];exact A4
      have e4:(kd==4)=true:=by simpa using h4
      have AU:=fun W=>xG tx W;have Cm:=Hh A4;generalize CX tx=L at *;clear hRe AD Bg AV Ba AY A4 h4;have AH:=Av;obtain⟨Al,Aq,Am,Ar,An,As,Ao,At,Ap,Au⟩:=Ax.n5 rfl;obtain⟨Ab,Ag,Ac,Ah,Ad,Ai,Ae,Aj,Af,Ak⟩:=Av.n5 rfl;clear Ax Av;go_wp2_with (go_at_call 223;refine (AU _).mono ?_;rintro _ _ ⟨rfl,rfl⟩)
      clear AU Al Am An Ao Ap Aq Ar As At Au Ab Ac Ad Ae Af Ag Ah Ai Aj Ak;refine (Bf).mono ?_;clear Bf;rintro _ w6 ⟨hbX,o2,t2,a2,m2,c2,heX,hXX⟩;simp only at heX hXX;obtain⟨p2,AG⟩:∃pz:Nat,pz=p+1+n2:=⟨_,rfl⟩;rw[<-AG] at heX;subst heX;have Bc:=Hh AG;clear AG;have Be:=HH.out.1.go hbX;have AW:=Be.q;have Cp:=AW.lt;have AB:=AH.below hbX Cd;have Ch:=AB.lt;have BV:=(hbX.cell (p:=⟨bb,BU+p*3+1,none⟩) Bp).trans q1;have AF:=Nat.lt_of_lt_of_le Bp hbX.size;have Bn:ae (fun b=>w.heap.size+1<=b/\b≠w4.heap.size) w6 x (dQ o5 t5 (.slice a5 Aa c5)):=ae.move hbX.size (fun b _ hl=>hbX.block b hl) (fun b hb _=>hb) _ _ HH.out.2;have Bm:Hid (e2=0->ae (fun b=>w.heap.size+1<=b/\b≠w4.heap.size) w6 x2 (dQ o2 t2 (.slice a2 m2 c2))):=Hh (fun he=>ae.move lz (fun _ _ _=>rfl) (fun b hb _=>⟨by omega,by omega⟩) _ _ (hXX he));have H6:=Jh Be (And.intro AB Bn);have hne:w.heap.size≠w4.heap.size:=by omega
      clear hbX hXX HH AH Be Bn q0 q1
      by_cases he2:e2=0
      ·subst he2
       have AC:Below w6.heap.size w6 (w6.alloc (.cells (aT o2 t2 (.slice a2 m2 c2) p2 0) 163)):=(Below.refl _ w6).alloc lz _;have Bb:=AB.below AC Ch;have Bj:=aa.new w6 (aT o2 t2 (.slice a2 m2 c2) p2 0) 163;have q7:=(AC.cell (p:=⟨bb,BU+p*3+1,none⟩) AF).trans BV;have Cf:=Nat.lt_of_lt_of_le AF AC.size;have H7:=Jh (H6.out.1.go AC) (And.intro Bb (And.intro (oJ H6.out.2.2 (.cells (aT o2 t2 (.slice a2 m2 c2) p2 0) 163)) (oJ (Bm.out (by first|trivial|rfl)) (.cells (aT o2 t2 (.slice a2 m2 c2) p2 0) 163))));have Cc:w4.heap.size≠w6.heap.size:=by omega
       obtain⟨AJ,AO,AK,AP,AL,AQ,AM,AR,AN,AS⟩:=AB.n5 rfl;clear AB AW BV;go_wp2_with fail;clear AJ AK AL AM AN AO AP AQ AR AS AC H6 Bm;have Ci:=Bb.lt;have Cj:=Bj.lt;generalize w6.alloc (.cells (aT o2 t2 (.slice a2 m2 c2) p2 0) 163)=w7 at *;obtain⟨BA,BF,BB,BG,BC,BH,BD,BI,BE,BJ⟩:=Bb.n5 rfl;obtain⟨BK,BP,BL,BQ,BM,BR,BN,BS,BO,BT⟩:=Bj.n5 rfl;clear Bb Bj;go_region
       all_goals
        go_wp2_with fail;go_roundw
        case rel=>
         have hn:ae (fun b=>w.heap.size+1<=b/\b≠w4.heap.size) ((ai w7 w4.heap.size 0 [.string tx,.string ⟨#[]⟩,.slice (some ⟨w7.heap.size,0,none⟩) 2 2,.int .i64 p2,.int .i64 0]).alloc (.cells #[.string o5,.string t5,.slice a5 Aa c5,.string o2,.string t2,.slice a2 m2 c2] 52)) (.mk tx iU [x,x2]) [.string tx,.string iU,.slice (some ⟨w7.heap.size,0,none⟩) 2 2]:=
          uO (by omega) [(x,dQ o5 t5 (.slice a5 Aa c5)),(x2,dQ o2 t2 (.slice a2 m2 c2))] (fun s hs=>by
           simp only[List.mem_cons,List.not_mem_nil,or_false] at hs;rcases hs with rfl|rfl
           ·exact H7.out.2.2.1
           ·exact H7.out.2.2.2) (by simp[maxLen]) (by have:=H7.out.1.q.lt;omega)
         obtain⟨b0,Cl,BZ,Cn,-⟩:=HL.out.get hpl2;cases BZ
         have BY:=(H7.out.1.put (q:=w4.heap.size) Bo [.string tx,.string ⟨#[]⟩,.slice (some ⟨w7.heap.size,0,none⟩) 2 2,.int .i64 p2,.int .i64 0] (fun b hb=>by simp only[Value.ownBlock,Option.some.injEq] at hb;omega)).next (.cells #[.string o5,.string t5,.slice a5 Aa c5,.string o2,.string t2,.slice a2 m2 c2] 52);have Bi:=(H7.out.2.1.put [.string tx,.string ⟨#[]⟩,.slice (some ⟨w7.heap.size,0,none⟩) 2 2,.int .i64 p2,.int .i64 0] 0).alloc (.cells #[.string o5,.string t5,.slice a5 Aa c5,.string o2,.string t2,.slice a2 m2 c2] 52);have AG:=Bc.out;refine⟨BY.go (Below.drew (Below.refl _ _)),tx,⟨#[]⟩,_,2,2,p2,0,Bi.drew,by omega,.inl ⟨rfl,by omega,j,.mk tx iU [x,x2],by omega,?_,ae.below (Below.drew (Below.refl _ _)) _ _ hn⟩⟩;rw[Bd.out,bL (by rfl)];show dL (p-k) (dL (1+n2) (aj j (.tloop n (.mk tx iU [x,x2])) ((l.drop p).drop (1+n2)) d))=_;rw[mM,List.drop_drop,show p+(1+n2)=p2 by omega,show p-k+(1+n2)=p2-k by omega]
        case measure=>
         have Bi:=((H7.out.2.1.put [.string tx,.string ⟨#[]⟩,.slice (some ⟨w7.heap.size,0,none⟩) 2 2,.int .i64 p2,.int .i64 0] 0).alloc (.cells #[.string o5,.string t5,.slice a5 Aa c5,.string o2,.string t2,.slice a2 m2 c2] 52)).drew;have Ck:=sZ (p:=p2) (e:=0) Bi;have AG:=Bc.out;show l.length+1-y7 (((ai w7 w4.heap.size 0 [.string tx,.string ⟨#[]⟩,.slice (some ⟨w7.heap.size,0,none⟩) 2 2,.int .i64 p2,.int .i64 0]).alloc (.cells #[.string o5,.string t5,.slice a5 Aa c5,.string o2,.string t2,.slice a2 m2 c2] 52)).drew) w4.heap.size<l.length+1-y7 wr w4.heap.size;rw[BW.out,Ck];omega
      ·have e0:(e2 != 0)=true:=by simpa using he2
       have A5:Hid (R=(aQ,p-k+(1+n2),e2)):=Hh (by rw[Bd.out,bf (by exact he2)];rfl);clear Bd;obtain⟨B0,B5,B1,B6,B2,B7,B3,B8,B4,B9⟩:=AW.n5 rfl;clear AW AB;go_wp2_with fail;have hq:=(((((H6.out.1.q.setI 0 (.string o2)).setI 1 (.string t2)).setI 2 (.slice a2 m2 c2)).setI 3 (.int .i64 p2)).setI 4 (.int .i64 e2)).alloc (.cells (aT o2 t2 (.slice a2 m2 c2) p2 e2) 163);have Aw:=fJ (vs:=[.string o2,.string t2,.slice a2 m2 c2,.int .i64 p2,.int .i64 e2]) H6.out.1.b (.cells (aT o2 t2 (.slice a2 m2 c2) p2 e2) 163);obtain⟨Ay,Az,A0,A1,A2⟩:=hq.m5 rfl;refine bodyPost_ret (v:=.agg (#[.string o2,.string t2,.slice a2 m2 c2,.int .i64 p2,.int .i64 e2])) (by simp[results,Tryz.results193,go_sem,Ay,Az,A0,A1,A2]) rfl ?_;rw[A5.out];exact cK (r:=(aQ,p-k+(1+n2),e2)) (by simp only;have:=Bc.out;omega) rfl Aw (fun h=>absurd h he2)
     ·have A5:Hid (R=(x,p-k,0)):=Hh (by
       rw[hRe]
       cases j with
       |zero=>exact absurd (by rw[hRe];rfl) HN.out
       |succ j=>rw[aj,AD,if_neg hgo];rfl)
      clear hRe AD Bg AV Ba
      by_cases h4:kd=4
      ·have Cg:(CX tx==(n:Int))=false:=by rw[beq_eq_false_iff_ne];exact fun q=>hgo ⟨h4,q⟩
       have e4:(kd==4)=true:=by simpa using h4
       have AU:=fun W=>xG tx W;generalize CX tx=L at *;clear hgo h4;obtain⟨Al,Aq,Am,Ar,An,As,Ao,At,Ap,Au⟩:=Ax.n5 rfl;obtain⟨Ab,Ag,Ac,Ah,Ad,Ai,Ae,Aj,Af,Ak⟩:=Av.n5 rfl;clear Ax Av;go_wp2_with (go_at_call 223;refine (AU _).mono ?_;rintro _ _ ⟨rfl,rfl⟩)
       have hq:=((((HH.out.1.q.setI 0 (.string o5)).setI 1 (.string t5)).setI 2 (.slice a5 Aa c5)).setI 3 (.int .i64 p)).setI 4 (.int .i64 0);have Aw:=cZ HH.out.1.b [.string o5,.string t5,.slice a5 Aa c5,.int .i64 p,.int .i64 0];obtain⟨Ay,Az,A0,A1,A2⟩:=hq.m5 rfl;refine bodyPost_ret (v:=.agg (#[.string o5,.string t5,.slice a5 Aa c5,.int .i64 p,.int .i64 0])) (by simp[results,Tryz.results193,go_sem,Ay,Az,A0,A1,A2]) rfl ?_;rw[A5.out];have AI:=mO (vs:=[.string o5,.string t5,.slice a5 Aa c5,.int .i64 p,.int .i64 0]) (ae.move lz (fun _ _ _=>rfl) (fun b hb _=>hb.1) _ _ HH.out.2);exact cK (r:=(x,p-k,0)) (by simp only;omega) rfl Aw (fun _=>AI)
      ·have e4:(kd==4)=false:=by simpa using h4
       clear hgo h4;obtain⟨Al,Aq,Am,Ar,An,As,Ao,At,Ap,Au⟩:=Ax.n5 rfl;obtain⟨Ab,Ag,Ac,Ah,Ad,Ai,Ae,Aj,Af,Ak⟩:=Av.n5 rfl;clear Ax Av;go_wp2_with fail;have hq:=((((HH.out.1.q.setI 0 (.string o5)).setI 1 (.string t5)).setI 2 (.slice a5 Aa c5)).setI 3 (.int .i64 p)).setI 4 (.int .i64 0);have Aw:=cZ HH.out.1.b [.string o5,.string t5,.slice a5 Aa c5,.int .i64 p,.int .i64 0];obtain⟨Ay,Az,A0,A1,A2⟩:=hq.m5 rfl;refine bodyPost_ret (v:=.agg (#[.string o5,.string t5,.slice a5 Aa c5,.int .i64 p,.int .i64 0])) (by simp[results,Tryz.results193,go_sem,Ay,Az,A0,A1,A2]) rfl ?_;rw[A5.out];have AI:=mO (vs:=[.string o5,.string t5,.slice a5 Aa c5,.int .i64 p,.int .i64 0]) (ae.move lz (fun _ _ _=>rfl) (fun b hb _=>hb.1) _ _ HH.out.2);exact cK (r:=(x,p-k,0)) (by simp only;omega) rfl Aw (fun _=>AI)
    ·have A5:Hid (R=(x,p-k,0)):=Hh (by
      rw[hRe]
      cases j with
      |zero=>exact absurd (by rw[hRe];rfl) HN.out
      |succ j=>rw[aj,List.drop_eq_nil_of_le (by omega)];rfl)
     clear hRe hA hXx;obtain⟨Al,Aq,Am,Ar,An,As,Ao,At,Ap,Au⟩:=Ax.n5 rfl;obtain⟨Ab,Ag,Ac,Ah,Ad,Ai,Ae,Aj,Af,Ak⟩:=Av.n5 rfl;clear Ax Av;go_wp2_with fail;have hq:=((((HH.out.1.q.setI 0 (.string o5)).setI 1 (.string t5)).setI 2 (.slice a5 Aa c5)).setI 3 (.int .i64 p)).setI 4 (.int .i64 0);have Aw:=cZ HH.out.1.b [.string o5,.string t5,.slice a5 Aa c5,.int .i64 p,.int .i64 0];obtain⟨Ay,Az,A0,A1,A2⟩:=hq.m5 rfl;refine bodyPost_ret (v:=.agg (#[.string o5,.string t5,.slice a5 Aa c5,.int .i64 p,.int .i64 0])) (by simp[results,Tryz.results193,go_sem,Ay,Az,A0,A1,A2]) rfl ?_;rw[A5.out];have AI:=mO (vs:=[.string o5,.string t5,.slice a5 Aa c5,.int .i64 p,.int .i64 0]) (ae.move lz (fun _ _ _=>rfl) (fun b hb _=>hb.1) _ _ HH.out.2);exact cK (r:=(x,p-k,0)) (by simp only;omega) rfl Aw (fun _=>AI)
   ·have e0:(e==0)=false:=by simpa using he
    have HH:=Hh hA;have A5:=Hh hRe;clear hA hRe;obtain⟨Al,Aq,Am,Ar,An,As,Ao,At,Ap,Au⟩:=Ax.n5 rfl;obtain⟨Ab,Ag,Ac,Ah,Ad,Ai,Ae,Aj,Af,Ak⟩:=Av.n5 rfl;clear Ax Av;go_wp2_with fail;have hq:=((((HH.out.q.setI 0 (.string o5)).setI 1 (.string t5)).setI 2 (.slice a5 Aa c5)).setI 3 (.int .i64 p)).setI 4 (.int .i64 e);have Aw:=cZ HH.out.b [.string o5,.string t5,.slice a5 Aa c5,.int .i64 p,.int .i64 e];obtain⟨Ay,Az,A0,A1,A2⟩:=hq.m5 rfl;refine bodyPost_ret (v:=.agg (#[.string o5,.string t5,.slice a5 Aa c5,.int .i64 p,.int .i64 e])) (by simp[results,Tryz.results193,go_sem,Ay,Az,A0,A1,A2]) rfl ?_;rw[A5.out];exact cK (r:=(aQ,p-k,e)) (by simp only;omega) rfl Aw (fun h=>absurd h he)
def Ps(w:World)(q2:Nat)(lv:Value)(l:List ag)(k d m:Nat)(R:fw)(wr:World):Prop:=
 wh w wr lv l/\∃(o t:ByteArray) (a:Option Addr) (nn c p:Nat) (e:Int),aa wr q2 (aT o t (.slice a nn c) (p:Nat) e) 163/\k<=p/\
  ((e=0/\p<=l.length/\∃j x,j<=m/\R=dL (p-k) (aj j (.ploop x) (l.drop p) d)/\ae (fun b=>w.heap.size+1<=b/\b≠q2) wr x (dQ o t (.slice a nn c)))\/(e≠0/\R=(aQ,p-k,e)))
theorem Cf(m:Nat)(hQ:QC m)(hC:∀j,j<=m->CC j):PC (m+1):=by
 intro w lv l k d h hk hd hne;obtain⟨a,c,rfl,Cv,Ch⟩:=h.sl;have A7:=h.few;unfold maxLen at Ch;rw[aj] at hne ⊢;have BD:=wh.start h;have HL:=Hh h.toks;have B8:=gT hne;have AL:=(fq m .prime (l.drop k) d trivial B8).1;rw[List.length_drop] at AL;have BS:=hQ _ _ l k d BD.l hk hd B8;obtain⟨R,hR⟩:=exq ((iE (aj m .prime (l.drop k) d) fun a k2=>dL k2 (aj m (.ploop a) ((l.drop k).drop k2) d)));rw[<-hR] at hne ⊢;generalize aj m .prime (l.drop k) d=R1 at *;obtain⟨x1,n1,e1⟩:=R1;simp only at AL B8;have HR:=Hh hR;have HN:=Hh hne;have HC:=Hh hC;have BC:=Hh BD;clear h BD hne hR hC B8;go_enter Tryz.func234,Tryz.ntmps234;go_wp2_with fail;refine (BS).mono ?_;clear BS;rintro _ w4 ⟨hbX,o1,t1,a1,m1,c1,heX,hXX⟩;simp only at heX hXX;obtain⟨p1,A5⟩:∃pz:Nat,pz=k+n1:=⟨_,rfl⟩;rw[<-A5] at heX;subst heX;have BO:=Hh A5;clear A5;have BE:=BC.out.go hbX
 have BA:Ps w w4.heap.size (.slice a l.length c) l k d m R (w4.alloc (.cells (aT o1 t1 (.slice a1 m1 c1) p1 e1) 163)):=by
  have A5:=BO.out;refine⟨BE.next _,o1,t1,a1,m1,c1,p1,e1,aa.new _ _ _,by omega,?_⟩
  by_cases he:e1=0
  ·left
   refine⟨he,by omega,m,x1,Nat.le_refl _,?_,?_⟩
   ·rw[HR.out,bL (by exact he),List.drop_drop,A5,show k+n1-k=n1 by omega]
   ·exact ae.move (by simp) (fun b _ hl=>Below.heap_alloc _ _ _ hl) (fun b hb hl=>⟨hb,by omega⟩) _ _ (BC.out.exp (hXX he))
  ·right
   exact⟨he,by rw[HR.out,bf (by exact he),A5,show k+n1-k=n1 by omega]⟩
 have BU:w.heap.size<w4.heap.size:=BE.q.lt;have BQ:=Hh BA;clear hbX hXX BC BE BA HR AL BO;go_wp2_with fail;go_loopw [8] (fun _ wr=>Ps w w4.heap.size (.slice a l.length c) l k d m R wr) (fun _ wr=>l.length+1-y7 wr w4.heap.size)
 case atStart=>exact BQ.out
 case round=>
  clear BQ;obtain⟨hA,o5,t5,a5,Aa,c5,p,e,Ax,Cu,BA⟩:=hrel;have Ay:=hA.q;have Cw:=Ay.lt;have Ck:=Ax.lt;have BP:=Hh (sZ Ax);rcases BA with ⟨rfl,hpl,j,x,hj,hRe,hXx⟩|⟨he,hRe⟩
  ·have HH:=Jh hA hXx
   have A6:=fun s=>fM wr (.slice a l.length c) l p s hA.l.toks A7 (by omega)
   cases j with
   |zero=>exact absurd (by rw[hRe];rfl) HN.out
   |succ j=>
   rw[aj] at hRe
   by_cases hdot:bO (l.drop p) rG=true
   ·have BL:=oF hdot
    rw[if_pos hdot] at hRe;have B7:(l.drop p).drop 1=l.drop (p+1):=by rw[List.drop_drop]
    have Ci:(l.drop p).drop 2=l.drop (p+2):=by rw[List.drop_drop]
    rw[B7,Ci] at hRe;have Av:=lM wr (.slice a l.length c) l (p+1) hA.l.toks A7 (by omega);rw[show ((p+1:Nat):Int)=(p:Int)+1 by omega] at Av;have B6:Hid ((cO (l.drop (p+1)) 0).2.2≠0):=Hh (by unfold cO;split<;>simp)
    by_cases A5:p+1<l.length
    focus
     obtain⟨bb,Cz,rfl,Cx,q0,q1,q2⟩:=hA.l.toks.get A5;have AT:l.drop (p+1)=l[p+1]::l.drop (p+1+1):=List.drop_eq_getElem_cons A5;obtain⟨kd,AU⟩:∃z,l[p+1].kind=z:=⟨_,rfl⟩;obtain⟨tx,BB⟩:∃z,l[p+1].text=z:=⟨_,rfl⟩;rw[AU] at q0;rw[BB] at q1;clear q2
     by_cases h1:kd=1
     ·have Aw:Hid (R=dL (p-k+2) (aj j (.ploop (.mk nR tx [x])) (l.drop (p+2)) d)):=Hh (by
       rw[hRe,AT];simp only;rw[AU,if_pos h1,mM,BB])
      have e1:(kd != 1)=false:=by simpa using h1
      have A8:=Ax;clear hRe AT AU BB Av B6 h1 hA hXx;obtain⟨Al,Aq,Am,Ar,An,As,Ao,At,Ap,Au⟩:=Ay.n5 rfl;obtain⟨Ab,Ag,Ac,Ah,Ad,Ai,Ae,Aj,Af,Ak⟩:=Ax.n5 rfl;clear Ay Ax;go_wp2_with (go_at_call 194;refine (A6 _).mono ?_;rintro _ _ ⟨rfl,rfl⟩;simp only[hdot])
      have Cy:=HH.out.1.q.lt;go_region
      all_goals
       go_wp2_with fail;go_roundw
       case rel=>
        obtain⟨b0,BN,BI,Cg,-⟩:=HL.out.get A5;cases BI
        have hn:ae (fun b=>w.heap.size+1<=b/\b≠w4.heap.size) ((ai wr w4.heap.size 0 [.string nR,.string tx,.slice (some ⟨wr.heap.size,0,none⟩) 1 1,.int .i64 ((p:Int)+2),.int .i64 0]).alloc (.cells #[.string o5,.string t5,.slice a5 Aa c5] 52)) (.mk nR tx [x]) [.string nR,.string tx,.slice (some ⟨wr.heap.size,0,none⟩) 1 1]:=
         uO (by omega) [(x,dQ o5 t5 (.slice a5 Aa c5))] (fun s hs=>by simp only[List.mem_singleton] at hs;subst hs;exact HH.out.2) (by simp[maxLen]) (by omega)
        have BG:=(HH.out.1.put (q:=w4.heap.size) BU [.string nR,.string tx,.slice (some ⟨wr.heap.size,0,none⟩) 1 1,.int .i64 ((p:Int)+2),.int .i64 0] (fun b hb=>by simp only[Value.ownBlock,Option.some.injEq] at hb;omega)).next (.cells #[.string o5,.string t5,.slice a5 Aa c5] 52);have AP:=(A8.put [.string nR,.string tx,.slice (some ⟨wr.heap.size,0,none⟩) 1 1,.int .i64 ((p:Int)+2),.int .i64 0] 0).alloc (.cells #[.string o5,.string t5,.slice a5 Aa c5] 52);refine⟨BG.go (Below.drew (Below.refl _ _)),nR,tx,_,1,1,p+2,0,AP.drew,by omega,.inl ⟨rfl,by omega,j,.mk nR tx [x],by omega,?_,ae.below (Below.drew (Below.refl _ _)) _ _ hn⟩⟩;rw[Aw.out,show p-k+2=p+2-k by omega]
       case measure=>
        have AP:=((A8.put [.string nR,.string tx,.slice (some ⟨wr.heap.size,0,none⟩) 1 1,.int .i64 ((p:Int)+2),.int .i64 0] 0).alloc (.cells #[.string o5,.string t5,.slice a5 Aa c5] 52)).drew;have BK:=sZ (p:=p+2) (e:=0) AP;show l.length+1-y7 (((ai wr w4.heap.size 0 [.string nR,.string tx,.slice (some ⟨wr.heap.size,0,none⟩) 1 1,.int .i64 ((p:Int)+2),.int .i64 0]).alloc (.cells #[.string o5,.string t5,.slice a5 Aa c5] 52)).drew) w4.heap.size<l.length+1-y7 wr w4.heap.size;rw[BP.out,BK];omega
     focus
      have Aw:Hid (R=(aQ,p-k+1,(cO (l.drop (p+1)) 0).2.2)):=Hh (by
       rw[hRe]
       conv=>lhs;rw[AT]
       simp only
       rw[AU,if_neg h1,<-AT,rZ];rfl)
      have e1:(kd != 1)=true:=by simpa using h1
      generalize (cO (l.drop (p+1)) 0).2.2=eb at *;clear hRe AT AU BB h1 hA hXx
    rotate_left
    focus
     have Aw:Hid (R=(aQ,p-k+1,(cO (l.drop (p+1)) 0).2.2)):=Hh (by
      have BJ:l.drop (p+1)=[]:=List.drop_eq_nil_of_le (by omega)
      rw[hRe,BJ];rfl)
     generalize (cO (l.drop (p+1)) 0).2.2=eb at *;clear hRe hA hXx
    all_goals
     obtain⟨Al,Aq,Am,Ar,An,As,Ao,At,Ap,Au⟩:=Ay.n5 rfl;obtain⟨Ab,Ag,Ac,Ah,Ad,Ai,Ae,Aj,Af,Ak⟩:=Ax.n5 rfl;clear Ay Ax;go_wp2_with (go_at_call 194;refine (A6 _).mono ?_;rintro _ _ ⟨rfl,rfl⟩;simp only[hdot])
     refine Av.mono ?_;clear Av;rintro _ w8 ⟨rfl,hb8⟩;have AK:=(HH.out.1).go hb8;have AN:=AK.q;have Cm:=AN.lt;have AR:=Hh AK;clear AK hb8;obtain⟨AY,Bd,AZ,Be,Ba,Bf,Bb,Bg,Bc,Bh⟩:=AN.n5 rfl;clear AN;go_wp2_with fail;have hq:=((((AR.out.q.setI 0 (.string ⟨#[]⟩)).setI 1 (.string ⟨#[]⟩)).setI 2 (.slice none 0 0)).setI 3 (.int .i64 ((p:Int)+1))).setI 4 (.int .i64 eb);have Az:=cZ AR.out.b [.string ⟨#[]⟩,.string ⟨#[]⟩,.slice none 0 0,.int .i64 ((p:Int)+1),.int .i64 eb];obtain⟨A0,A1,A2,A3,A4⟩:=hq.m5 rfl;refine bodyPost_ret (v:=.agg (#[.string ⟨#[]⟩,.string ⟨#[]⟩,.slice none 0 0,.int .i64 ((p:Int)+1),.int .i64 eb])) (by simp[results,Tryz.results234,go_sem,A0,A1,A2,A3,A4]) rfl ?_;rw[Aw.out];exact cK (r:=(aQ,p-k+1,eb)) (by simp only;omega) rfl Az (fun h=>absurd h B6.out)
   ·have hdot:bO (l.drop p) rG=false:=by simpa using hdot
    rw[if_neg (by rw[hdot];decide)] at hRe
    by_cases hlb:bO (l.drop p) AJ=true
    ·have BL:=oF hlb
     rw[if_pos hlb] at hRe
     by_cases hd64:64<=d
     ·have Aw:Hid (R=(aQ,p-k,5)):=Hh (by rw[hRe,if_pos hd64];rfl)
      clear hRe hA hXx;obtain⟨Al,Aq,Am,Ar,An,As,Ao,At,Ap,Au⟩:=Ay.n5 rfl;obtain⟨Ab,Ag,Ac,Ah,Ad,Ai,Ae,Aj,Af,Ak⟩:=Ax.n5 rfl;clear Ay Ax;go_wp2_with (go_at_call 194;refine (A6 _).mono ?_;rintro _ _ ⟨rfl,rfl⟩;simp only[hdot,hlb])
      have hq:=((((HH.out.1.q.setI 0 (.string ⟨#[]⟩)).setI 1 (.string ⟨#[]⟩)).setI 2 (.slice none 0 0)).setI 3 (.int .i64 p)).setI 4 (.int .i64 5);have Az:=cZ HH.out.1.b [.string ⟨#[]⟩,.string ⟨#[]⟩,.slice none 0 0,.int .i64 p,.int .i64 5];obtain⟨A0,A1,A2,A3,A4⟩:=hq.m5 rfl;refine bodyPost_ret (v:=.agg (#[.string ⟨#[]⟩,.string ⟨#[]⟩,.slice none 0 0,.int .i64 p,.int .i64 5])) (by simp[results,Tryz.results234,go_sem,A0,A1,A2,A3,A4]) rfl ?_;rw[Aw.out];exact cK (r:=(aQ,p-k,5)) (by simp only;omega) rfl Az (fun h=>by cases h)
     ·rw[if_neg hd64] at hRe
      have B7:(l.drop p).drop 1=l.drop (p+1):=by rw[List.drop_drop]
      rw[B7] at hRe
      have B9:(aj j .choice (l.drop (p+1)) (d+1)).2.2≠-1:=by
       have:=HN.out;rw[hRe] at this;have h9:(iE (dL 1 (aj j .choice (l.drop (p+1)) (d+1))) fun b k2=>if bO ((l.drop p).drop k2) pq=false then cO ((l.drop p).drop k2) k2 else dL (k2+1) (aj j (.ploop (.mk vV iU [x,b])) ((l.drop p).drop (k2+1)) d)).2.2≠-1:=this;have h8:=gT h9;exact h8
      have AV:=(fq j .choice (l.drop (p+1)) (d+1) trivial B9).1;rw[List.length_drop] at AV;have BH:=HC.out j (by omega) _ _ l (p+1) (d+1) HH.out.1.l (by omega) (by omega) B9;rw[show ((d+1:Nat):Int)=(d:Int)+1 by omega,show ((p+1:Nat):Int)=(p:Int)+1 by omega] at BH;generalize aj j .choice (l.drop (p+1)) (d+1)=R2 at *;obtain⟨x2,n2,e2⟩:=R2;simp only at AV B9;have B4:=Hh hRe;have AX:=Ax;clear hRe B9 B7 hA hXx;obtain⟨Al,Aq,Am,Ar,An,As,Ao,At,Ap,Au⟩:=Ay.n5 rfl;obtain⟨Ab,Ag,Ac,Ah,Ad,Ai,Ae,Aj,Af,Ak⟩:=Ax.n5 rfl;clear Ay Ax;go_wp2_with (go_at_call 194;refine (A6 _).mono ?_;rintro _ _ ⟨rfl,rfl⟩;simp only[hdot,hlb])
      clear A6 Al Am An Ao Ap Aq Ar As At Au Ab Ac Ad Ae Af Ag Ah Ai Aj Ak;refine (BH).mono ?_;clear BH;rintro _ w6 ⟨hbX,o2,t2,a2,m2,c2,heX,hXX⟩;simp only at heX hXX;obtain⟨p2,AW⟩:∃pz:Nat,pz=p+1+n2:=⟨_,rfl⟩;rw[<-AW] at heX;subst heX;have AS:=Hh AW;clear AW;have BF:=HH.out.1.go hbX;have AO:=BF.q;have Cl:=AO.lt;have A8:=AX.below hbX Ck;have Co:=A8.lt;have BT:ae (fun b=>w.heap.size+1<=b/\b≠w4.heap.size) w6 x (dQ o5 t5 (.slice a5 Aa c5)):=ae.move hbX.size (fun b _ hl=>hbX.block b hl) (fun b hb _=>hb) _ _ HH.out.2;have BR:Hid (e2=0->ae (fun b=>w.heap.size+1<=b/\b≠w4.heap.size) w6 x2 (dQ o2 t2 (.slice a2 m2 c2))):=Hh (fun he=>ae.move lz (fun _ _ _=>rfl) (fun b hb _=>⟨by omega,by omega⟩) _ _ (hXX he));have H6:=Jh BF (And.intro A8 BT);have hne:w.heap.size≠w4.heap.size:=by omega
      clear hbX hXX HH AX BF BT
      by_cases he2:e2=0
      ·subst he2
       have B5:Below w6.heap.size w6 (w6.alloc (.cells (aT o2 t2 (.slice a2 m2 c2) p2 0) 163)):=(Below.refl _ w6).alloc lz _;have AQ:=A8.below B5 Co;have Bs:=aa.new w6 (aT o2 t2 (.slice a2 m2 c2) p2 0) 163;have BM:=AO.below B5 Cl;have H7:=Jh (H6.out.1.go B5) (And.intro AQ (And.intro (oJ H6.out.2.2 (.cells (aT o2 t2 (.slice a2 m2 c2) p2 0) 163)) (oJ (BR.out (by first|trivial|rfl)) (.cells (aT o2 t2 (.slice a2 m2 c2) p2 0) 163))));have Cj:w4.heap.size≠w6.heap.size:=by omega
       have AM:p2<=l.length:=by have:=AS.out;omega
       have A6:=fun s=>fM (w6.alloc (.cells (aT o2 t2 (.slice a2 m2 c2) p2 0) 163)) (.slice a l.length c) l p2 s H7.out.1.l.toks A7 (by omega);have Av:=lM (w6.alloc (.cells (aT o2 t2 (.slice a2 m2 c2) p2 0) 163)) (.slice a l.length c) l p2 H7.out.1.l.toks A7 AM;have hu:(dL 1 (x2,n2,(0:Int))).2.1=1+n2:=rfl
       have B3:Hid (R=dL (p-k) (if bO (l.drop p2) pq=false then cO (l.drop p2) (1+n2) else dL (1+n2+1) (aj j (.ploop (.mk vV iU [x,x2])) (l.drop (p2+1)) d))):=Hh (by
        have AW:=AS.out;rw[B4.out,bL (by rfl)];simp only[hu,List.drop_drop]
        rw[show p+(1+n2)=p2 by omega,show p+(1+n2+1)=p2+1 by omega];rfl)
       clear B4 hu H6 BR;have Cp:=AQ.lt;have Cq:=Bs.lt;have Cn:=BM.lt;obtain⟨A9,AE,AA,AF,AB,AG,AC,AH,AD,AI⟩:=AO.n5 rfl;obtain⟨Bi,Bn,Bj,Bo,Bk,Bp,Bl,Bq,Bm,Br⟩:=A8.n5 rfl;clear AO A8;go_wp2_with fail;clear A9 AA AB AC AD AE AF AG AH AI Bi Bj Bk Bl Bm Bn Bo Bp Bq Br B5;generalize w6.alloc (.cells (aT o2 t2 (.slice a2 m2 c2) p2 0) 163)=w7 at *;refine (A6 _).mono ?_;rintro _ _ ⟨rfl,rfl⟩
       by_cases hrb:bO (l.drop p2) pq=false
       ·have Aw:Hid (R=(aQ,p-k+(1+n2),(cO (l.drop p2) 0).2.2)):=Hh (by rw[B3.out,if_pos hrb,rZ];rfl)
        have B6:Hid ((cO (l.drop p2) 0).2.2≠0):=Hh (by unfold cO;split<;>simp);generalize (cO (l.drop p2) 0).2.2=eb at *;simp only[hrb];clear B3 A6;obtain⟨Bt,By,Bu,Bz,Bv,B0,Bw,B1,Bx,B2⟩:=Bs.n5 rfl;clear AQ BM Bs;go_wp2_with fail;refine Av.mono ?_;clear Av;rintro _ w8 ⟨rfl,hb8⟩;have AK:=(H7.out.1).go hb8;have AN:=AK.q;have Cm:=AN.lt;have AR:=Hh AK;clear AK hb8;obtain⟨AY,Bd,AZ,Be,Ba,Bf,Bb,Bg,Bc,Bh⟩:=AN.n5 rfl;clear AN;go_wp2_with fail;have hq:=((((AR.out.q.setI 0 (.string ⟨#[]⟩)).setI 1 (.string ⟨#[]⟩)).setI 2 (.slice none 0 0)).setI 3 (.int .i64 p2)).setI 4 (.int .i64 eb);have Az:=cZ AR.out.b [.string ⟨#[]⟩,.string ⟨#[]⟩,.slice none 0 0,.int .i64 p2,.int .i64 eb];obtain⟨A0,A1,A2,A3,A4⟩:=hq.m5 rfl;refine bodyPost_ret (v:=.agg (#[.string ⟨#[]⟩,.string ⟨#[]⟩,.slice none 0 0,.int .i64 p2,.int .i64 eb])) (by simp[results,Tryz.results234,go_sem,A0,A1,A2,A3,A4]) rfl ?_
        rw[Aw.out];exact cK (r:=(aQ,p-k+(1+n2),eb)) (by simp only;have:=AS.out;omega) rfl Az (fun h=>absurd h B6.out)
       ·have hrb:bO (l.drop p2) pq=true:=by simpa using hrb
        have AM:=oF hrb;have Aw:Hid (R=dL (p-k+(1+n2+1)) (aj j (.ploop (.mk vV iU [x,x2])) (l.drop (p2+1)) d)):=Hh (by rw[B3.out,if_neg (by rw[hrb];decide),mM]);simp only[hrb];clear B3 A6 Av;have Ct:=AQ;obtain⟨Bt,By,Bu,Bz,Bv,B0,Bw,B1,Bx,B2⟩:=Bs.n5 rfl;obtain⟨BV,Ca,BW,Cb,BX,Cc,BY,Cd,BZ,Ce⟩:=AQ.n5 rfl;clear AQ BM Bs;go_wp2_with fail;show Ps w w4.heap.size _ l k d m R ((ai w7 w4.heap.size 0 [.string vV,.string ⟨#[]⟩,.slice (some ⟨w7.heap.size,0,none⟩) 2 2,.int .i64 ((p2:Int)+1),.int .i64 0]).alloc (.cells #[.string o5,.string t5,.slice a5 Aa c5,.string o2,.string t2,.slice a2 m2 c2] 52))/\l.length+1-y7 ((ai w7 w4.heap.size 0 [.string vV,.string ⟨#[]⟩,.slice (some ⟨w7.heap.size,0,none⟩) 2 2,.int .i64 ((p2:Int)+1),.int .i64 0]).alloc (.cells #[.string o5,.string t5,.slice a5 Aa c5,.string o2,.string t2,.slice a2 m2 c2] 52)) w4.heap.size<l.length+1-y7 wr w4.heap.size
        have hn:ae (fun b=>w.heap.size+1<=b/\b≠w4.heap.size) ((ai w7 w4.heap.size 0 [.string vV,.string ⟨#[]⟩,.slice (some ⟨w7.heap.size,0,none⟩) 2 2,.int .i64 ((p2:Int)+1),.int .i64 0]).alloc (.cells #[.string o5,.string t5,.slice a5 Aa c5,.string o2,.string t2,.slice a2 m2 c2] 52)) (.mk vV iU [x,x2]) [.string vV,.string iU,.slice (some ⟨w7.heap.size,0,none⟩) 2 2]:=
         uO (by omega) [(x,dQ o5 t5 (.slice a5 Aa c5)),(x2,dQ o2 t2 (.slice a2 m2 c2))] (fun s hs=>by
          simp only[List.mem_cons,List.not_mem_nil,or_false] at hs;rcases hs with rfl|rfl
          ·exact H7.out.2.2.1
          ·exact H7.out.2.2.2) (by simp[maxLen]) (by omega)
        have Cr:∀b,(Value.slice a l.length c).ownBlock=some b->b<w.heap.size:=fun b hb=>by
         obtain⟨b0,BN,BI,Cg,-⟩:=HL.out.get AM;subst BI;simp only[Value.ownBlock,Option.some.injEq] at hb;omega
        have BG:=(H7.out.1.put (q:=w4.heap.size) BU [.string vV,.string ⟨#[]⟩,.slice (some ⟨w7.heap.size,0,none⟩) 2 2,.int .i64 ((p2:Int)+1),.int .i64 0] Cr).next (.cells #[.string o5,.string t5,.slice a5 Aa c5,.string o2,.string t2,.slice a2 m2 c2] 52);have AP:=(H7.out.2.1.put [.string vV,.string ⟨#[]⟩,.slice (some ⟨w7.heap.size,0,none⟩) 2 2,.int .i64 ((p2:Int)+1),.int .i64 0] 0).alloc (.cells #[.string o5,.string t5,.slice a5 Aa c5,.string o2,.string t2,.slice a2 m2 c2] 52);have BK:=sZ (p:=p2+1) (e:=0) AP;have AW:=AS.out;generalize (ai w7 w4.heap.size 0 [.string vV,.string ⟨#[]⟩,.slice (some ⟨w7.heap.size,0,none⟩) 2 2,.int .i64 ((p2:Int)+1),.int .i64 0]).alloc (.cells #[.string o5,.string t5,.slice a5 Aa c5,.string o2,.string t2,.slice a2 m2 c2] 52)=w9 at *;refine⟨⟨BG,vV,⟨#[]⟩,_,2,2,p2+1,0,AP,by omega,.inl ⟨rfl,by omega,j,.mk vV iU [x,x2],by omega,?_,hn⟩⟩,?_⟩
        ·rw[Aw.out,show p-k+(1+n2+1)=p2+1-k by omega]
        ·rw[BP.out,BK]
         omega
      ·have e0:(e2 != 0)=true:=by simpa using he2
       have Aw:Hid (R=(aQ,p-k+(1+n2),e2)):=Hh (by rw[B4.out,bf (by exact he2)];rfl);clear B4;obtain⟨A9,AE,AA,AF,AB,AG,AC,AH,AD,AI⟩:=AO.n5 rfl;clear AO A8;go_wp2_with fail;have hq:=(((((H6.out.1.q.setI 0 (.string o2)).setI 1 (.string t2)).setI 2 (.slice a2 m2 c2)).setI 3 (.int .i64 p2)).setI 4 (.int .i64 e2)).alloc (.cells (aT o2 t2 (.slice a2 m2 c2) p2 e2) 163);have Az:=fJ (vs:=[.string o2,.string t2,.slice a2 m2 c2,.int .i64 p2,.int .i64 e2]) H6.out.1.b (.cells (aT o2 t2 (.slice a2 m2 c2) p2 e2) 163);obtain⟨A0,A1,A2,A3,A4⟩:=hq.m5 rfl;refine bodyPost_ret (v:=.agg (#[.string o2,.string t2,.slice a2 m2 c2,.int .i64 p2,.int .i64 e2])) (by simp[results,Tryz.results234,go_sem,A0,A1,A2,A3,A4]) rfl ?_;rw[Aw.out];exact cK (r:=(aQ,p-k+(1+n2),e2)) (by simp only;have:=AS.out;omega) rfl Az (fun h=>absurd h he2)
    ·have hlb:bO (l.drop p) AJ=false:=by simpa using hlb
     have Aw:Hid (R=(x,p-k,0)):=Hh (by rw[hRe,if_neg (by rw[hlb];decide)];rfl);clear hRe hA hXx;obtain⟨Al,Aq,Am,Ar,An,As,Ao,At,Ap,Au⟩:=Ay.n5 rfl;obtain⟨Ab,Ag,Ac,Ah,Ad,Ai,Ae,Aj,Af,Ak⟩:=Ax.n5 rfl;clear Ay Ax;go_wp2_with (go_at_call 194;refine (A6 _).mono ?_;rintro _ _ ⟨rfl,rfl⟩;simp only[hdot,hlb])
     have hq:=((((HH.out.1.q.setI 0 (.string o5)).setI 1 (.string t5)).setI 2 (.slice a5 Aa c5)).setI 3 (.int .i64 p)).setI 4 (.int .i64 0);have Az:=cZ HH.out.1.b [.string o5,.string t5,.slice a5 Aa c5,.int .i64 p,.int .i64 0];obtain⟨A0,A1,A2,A3,A4⟩:=hq.m5 rfl;refine bodyPost_ret (v:=.agg (#[.string o5,.string t5,.slice a5 Aa c5,.int .i64 p,.int .i64 0])) (by simp[results,Tryz.results234,go_sem,A0,A1,A2,A3,A4]) rfl ?_;rw[Aw.out];have Cs:=mO (vs:=[.string o5,.string t5,.slice a5 Aa c5,.int .i64 p,.int .i64 0]) (ae.move lz (fun _ _ _=>rfl) (fun b hb _=>hb.1) _ _ HH.out.2);exact cK (r:=(x,p-k,0)) (by simp only;omega) rfl Az (fun _=>Cs)
  ·have e0:(e==0)=false:=by simpa using he
   have HH:=Hh hA;have Aw:=Hh hRe;clear hA hRe;obtain⟨Al,Aq,Am,Ar,An,As,Ao,At,Ap,Au⟩:=Ay.n5 rfl;obtain⟨Ab,Ag,Ac,Ah,Ad,Ai,Ae,Aj,Af,Ak⟩:=Ax.n5 rfl;clear Ay Ax;go_wp2_with fail;have hq:=((((HH.out.q.setI 0 (.string o5)).setI 1 (.string t5)).setI 2 (.slice a5 Aa c5)).setI 3 (.int .i64 p)).setI 4 (.int .i64 e);have Az:=cZ HH.out.b [.string o5,.string t5,.slice a5 Aa c5,.int .i64 p,.int .i64 e];obtain⟨A0,A1,A2,A3,A4⟩:=hq.m5 rfl;refine bodyPost_ret (v:=.agg (#[.string o5,.string t5,.slice a5 Aa c5,.int .i64 p,.int .i64 e])) (by simp[results,Tryz.results234,go_sem,A0,A1,A2,A3,A4]) rfl ?_;rw[Aw.out];exact cK (r:=(aQ,p-k,e)) (by simp only;omega) rfl Az (fun h=>absurd h he)
theorem wh.grown{w W W':World}{lv:Value}{l:List ag}(h:wh w W lv l){row:Option Nat}(hg:W.grownBy W' row)(hr:∀k,row=some k->w.heap.size+1<=k)(hob:∀b,lv.ownBlock=some b->b<w.heap.size):wh w W' lv l:=by
 refine⟨h.b.grown hg h.b.size (fun k hk=>by have:=hr k hk;omega),h.q.kept hg (fun e=>by have:=hr _ e.symm;omega),⟨?_,h.l.few,h.l.short,h.l.quo⟩⟩;refine h.l.toks.moved hg.size (fun b off hl hv=>?_);exact iH (hg.block b hl (fun e=>by have:=hr b e.symm;have:=hob b hv;omega)) off
def PI(w:World)(lv:Value)(s:ByteArray)(l:List ag)(k d m:Nat)(R:fw)(v at_:Value)(wr:World):Prop:=
 wh w wr lv l/\∃(L:List (gu×List Value)) (j p:Nat),at_=.int .i64 (p:Nat)/\qb (w.heap.size+1) wr v L/\D8 (w.heap.size+1) wr v L/\j<=m/\k<=p/\p<=l.length/\L.length<=p/\
  R=dL (p-k) (aj j (.mloop s (L.map (·.1))) (l.drop p) d)
theorem Ci(m:Nat)(hC:∀j,j<=m->CC j):MC (m+1):=by
 intro w lv l k d s h hk hd hs12 hne;obtain⟨a,c,rfl,BH,Aa⟩:=h.sl;have AH:=h.few;unfold maxLen at Aa;have AO:=wh.start h
 have B8:Hid (∀b,(Value.slice a l.length c).ownBlock=some b->b<w.heap.size):=Hh (fun b hb=>by
  obtain⟨b0,BA,B3,BC,-⟩:=h.toks.get (j:=0) (by omega);subst B3
  simp only[Value.ownBlock,Option.some.injEq] at hb;omega)
 rw[aj] at hne ⊢
 by_cases hd64:64<=d
 ·rw[if_pos hd64]
  clear h AO hne;go_enter Tryz.func239,Tryz.ntmps239;go_wp2_with fail;have hq:=aa.new w (aT ⟨#[]⟩ ⟨#[]⟩ (.slice none 0 0) (k:Nat) 5) 163;obtain⟨Ay,Az,A0,A1,A2⟩:=hq.m5 rfl;refine bodyPost_ret (v:=.agg (aT ⟨#[]⟩ ⟨#[]⟩ (.slice none 0 0) (k:Nat) 5)) (by simp[results,Tryz.results239,go_sem,Ay,Az,A0,A1,A2]) rfl ?_;exact cK (r:=(aQ,0,5)) (by simp) rfl ((Below.refl _ w).alloc lz _) (fun h=>by cases h)
 ·rw[if_neg hd64] at hne ⊢
  have Bd:(l.drop k).drop 1=l.drop (k+1):=by rw[List.drop_drop]
  rw[Bd] at hne ⊢;have Ax:=fun s=>fM (w.alloc (.cells nz 163)) (.slice a l.length c) l (k+1) s AO.l.toks AH (by omega);rw[show ((k+1:Nat):Int)=(k:Int)+1 by omega] at Ax
  by_cases hsh:bO (l.drop (k+1)) s=true
  ·rw[if_pos hsh]
   clear h AO hne Bd;go_enter Tryz.func239,Tryz.ntmps239;go_wp2_with (go_at_call 194;refine (Ax _).mono ?_;rintro _ _ ⟨rfl,rfl⟩;simp only[hsh])
   have hq:=aa.new w (aT ⟨#[]⟩ ⟨#[]⟩ (.slice none 0 0) ((k:Int)+1+1) 0) 163;obtain⟨Ay,Az,A0,A1,A2⟩:=hq.m5 rfl;refine bodyPost_ret (v:=.agg (aT ⟨#[]⟩ ⟨#[]⟩ (.slice none 0 0) ((k:Int)+1+1) 0)) (by simp[results,Tryz.results239,go_sem,Ay,Az,A0,A1,A2]) rfl ?_;exact cK (r:=(.mk iU iU [],2,0)) (by simp only;omega) rfl ((Below.refl _ w).alloc lz _) (fun h=>ae.leaf _ _ _ _)
  ·have hsh:bO (l.drop (k+1)) s=false:=by simpa using hsh
   rw[if_neg (by rw[hsh];decide)] at hne ⊢;obtain⟨R,hR⟩:=exq (dL 1 (aj m (.mloop s []) (l.drop (k+1)) d));rw[<-hR] at hne ⊢;have HN:=Hh hne;have HC:=Hh hC
   have B1:PI w (.slice a l.length c) s l k d m R (.slice none 0 0) (.int .i64 ((k:Int)+1)) (w.alloc (.cells nz 163)):=
    ⟨AO,[],m,k+1,by simp,qb.nil _ _,(fun s hs=>by cases hs),Nat.le_refl _,by omega,by omega,Nat.zero_le _,by rw[hR,show k+1-k=1 by omega];rfl⟩
   have Bh:=Hh B1;have Bn:s≠jM:=by rcases hs12 with rfl|rfl<;>decide
   have HS:=Hh Bn;clear h AO hne Bd B1 hR hC hs12 Bn;go_enter Tryz.func239,Tryz.ntmps239;go_wp2_with (go_at_call 194;refine (Ax _).mono ?_;rintro _ _ ⟨rfl,rfl⟩;simp only[hsh])
   clear Ax hsh;go_loopw [1,9,10] (fun at_ v _ wr=>PI w (.slice a l.length c) s l k d m R v at_ wr) (fun at_ _ _ _=>l.length+1-(intOf at_).toNat)
   case atStart=>exact Bh.out
   case round=>
    clear Bh;obtain⟨hA,L,j,p,rfl,AL,Bo,hj,BD,BI,BB,AQ⟩:=hrel;obtain⟨va,vc,rfl⟩:=AL.len
    cases j with
    |zero=>exact absurd (by rw[AQ];rfl) HN.out
    |succ j=>
    rw[aj] at AQ
    have AY:(aj j .choice (l.drop p) (d+1)).2.2≠-1:=by
     have:=HN.out;rw[AQ] at this;have h9:(iE (aj j .choice (l.drop p) (d+1)) fun a k=>if bO ((l.drop p).drop k) jM=true then dL (k+1) (aj j (.mloop s (L.map (·.1)++[a])) ((l.drop p).drop (k+1)) d) else if bO ((l.drop p).drop k) s=true then (.mk iU iU (L.map (·.1)++[a]),k+1,0) else cO ((l.drop p).drop k) k).2.2≠-1:=this;exact gT h9
    have AV:=(fq j .choice (l.drop p) (d+1) trivial AY).1;rw[List.length_drop] at AV;have AI:=(fq j .choice (l.drop p) (d+1) trivial AY).2;have Bc:=HC.out j (by omega) _ _ l p (d+1) hA.l (by omega) (by omega) AY;rw[show ((d+1:Nat):Int)=(d:Int)+1 by omega] at Bc;generalize aj j .choice (l.drop p) (d+1)=R2 at *;obtain⟨x2,n2,e2⟩:=R2;simp only at AV AY AI;have AZ:=Hh AQ;have HH:=Jh hA (And.intro AL Bo);have B2:=Hh AI;clear AQ AY hA AL Bo AI;go_wp2_with fail;refine (Bc).mono ?_;clear Bc;rintro _ w6 ⟨hbX,o2,t2,a2,m2,c2,heX,hXX⟩;simp only at heX hXX;obtain⟨p2,AJ⟩:∃pz:Nat,pz=p+n2:=⟨_,rfl⟩;rw[<-AJ] at heX;subst heX;have A3:=Hh AJ;clear AJ;have Ba:=HH.out.1.go hbX;have AX:=Ba.q;have BE:=AX.lt;have AE:=HH.out.2.1.keep (fun k _ hl=>hbX.block k hl);have AS:=HH.out.2.2.keep hbX.size (fun k _ hl=>hbX.block k hl);have Bi:Hid (e2=0->ae (fun b=>w.heap.size+1<=b/\some b≠(Value.slice va L.length vc).ownBlock) w6 x2 (dQ o2 t2 (.slice a2 m2 c2))):=Hh (fun he=>ae.move lz (fun _ _ _=>rfl) (fun b hb _=>⟨by have:=HH.out.1.q.lt;omega,fun e=>by have:=(World.ownsRow.lt HH.out.2.1.2 b e.symm).2;omega⟩) _ _ (hXX he));have H6:=Jh Ba (And.intro AE AS);clear hbX hXX HH Ba AE AS
    by_cases he2:e2=0
    ·subst he2
     have Be:p2<=l.length:=by have:=A3.out;omega
     obtain⟨A4,A9,A5,AA,A6,AB,A7,AC,A8,AD⟩:=AX.n5 rfl;clear AX;go_wp2_with (with_reducible first|refine aA ?_)
     refine Stop.out ?_;clear A4 A5 A6 A7 A8 A9 AA AB AC AD
     have Bl:aa ((w6.alloc (.cells (aT o2 t2 (.slice a2 m2 c2) p2 0) 163)).alloc (.cells #[.string o2,.string t2,.slice a2 m2 c2] 52)) (w6.heap.size+1) #[.string o2,.string t2,.slice a2 m2 c2] 52:=by
      have:=aa.new (w6.alloc (.cells (aT o2 t2 (.slice a2 m2 c2) p2 0) 163)) #[.string o2,.string t2,.slice a2 m2 c2] 52;rw[World.size_alloc] at this;exact this
     have Bk:aa ((w6.alloc (.cells (aT o2 t2 (.slice a2 m2 c2) p2 0) 163)).alloc (.cells #[.string o2,.string t2,.slice a2 m2 c2] 52)) w6.heap.size (aT o2 t2 (.slice a2 m2 c2) p2 0) 163:=(aa.new w6 (aT o2 t2 (.slice a2 m2 c2) p2 0) 163).alloc (.cells #[.string o2,.string t2,.slice a2 m2 c2] 52);have AN:Below w6.heap.size w6 ((w6.alloc (.cells (aT o2 t2 (.slice a2 m2 c2) p2 0) 163)).alloc (.cells #[.string o2,.string t2,.slice a2 m2 c2] 52)):=((Below.refl _ w6).alloc lz _).alloc (by simp) _;have Bj:=H6.out.1.go AN;have Av:=H6.out.2.1.keep (fun k _ hl=>AN.block k hl);have AU:=H6.out.2.2.keep AN.size (fun k _ hl=>AN.block k hl);have Bm:=ae.below AN x2 _ (Bi.out (by first|trivial|rfl));have AW:=World.ownsRow.lt H6.out.2.1.2;refine mK rfl _ _ rfl (w.heap.size+1) L (by exact Av) (w6.heap.size+1) rfl x2 o2 t2 a2 m2 c2 Bl (by omega) (by have:=H6.out.1.q.lt;simp only[World.size_alloc];omega) _ rfl ?_;intro gb cap w7 hrow7 hg7 hat7 hge7;have AT:D8 (w.heap.size+1) w7 (.slice (some ⟨gb,0,none⟩) (L.length+1) cap) (L++[(x2,dQ o2 t2 (.slice a2 m2 c2))]):=D8.push AU Bm hg7 hat7;have AP:=Bj.grown hg7 (fun k hk=>(World.ownsRow.lt Av.2 k hk).1) B8.out;have AF:=Bk.kept hg7 (fun e=>by have:=(AW _ e.symm).2;omega);have AK:=AP.q;have BF:=AK.lt;have B6:=AF.lt;have B7:w.heap.size≠w6.heap.size:=by omega
     have Ax:=fun s=>fM w7 (.slice a l.length c) l p2 s AP.l.toks AH (by omega);have Aw:=lM w7 (.slice a l.length c) l p2 AP.l.toks AH Be;have H7:=Jh AP (And.intro hrow7 AT)
     have AM:Hid (R=dL (p-k) (if bO (l.drop p2) jM=true then dL (n2+1) (aj j (.mloop s (L.map (·.1)++[x2])) (l.drop (p2+1)) d) else if bO (l.drop p2) s=true then (.mk iU iU (L.map (·.1)++[x2]),n2+1,0) else cO (l.drop p2) n2)):=Hh (by
      have AJ:=A3.out;rw[AZ.out,bL (by rfl)];simp only[List.drop_drop]
      rw[show p+n2=p2 by omega,show p+(n2+1)=p2+1 by omega])
     clear Bl Bk AN Bj Av AU Bm AW hrow7 AT AP hg7 hat7 AZ H6 Bi
     by_cases hsh:bO (l.drop p2) s=true
     ·have Aa:bO (l.drop p2) jM=false:=Gj hsh HS.out
      have AG:Hid (R=(.mk iU iU (L.map (·.1)++[x2]),p-k+(n2+1),0)):=Hh (by rw[AM.out,if_neg (by rw[Aa];decide),if_pos hsh];rfl);clear AM Aw;obtain⟨Al,Aq,Am,Ar,An,As,Ao,At,Ap,Au⟩:=AK.n5 rfl;obtain⟨Ab,Ag,Ac,Ah,Ad,Ai,Ae,Aj,Af,Ak⟩:=AF.n5 rfl;clear AK AF;go_wp2_with (go_at_call 194;refine (Ax _).mono ?_;rintro _ _ ⟨rfl,rfl⟩;simp only[hsh,Aa])
      have hq:=((((H7.out.1.q.setI 0 (.string ⟨#[]⟩)).setI 1 (.string ⟨#[]⟩)).setI 2 (.slice (some ⟨gb,0,none⟩) (L.length+1) cap)).setI 3 (.int .i64 ((p2:Int)+1))).setI 4 (.int .i64 0);have AR:=cZ H7.out.1.b [.string ⟨#[]⟩,.string ⟨#[]⟩,.slice (some ⟨gb,0,none⟩) (L.length+1) cap,.int .i64 ((p2:Int)+1),.int .i64 0];obtain⟨Ay,Az,A0,A1,A2⟩:=hq.m5 rfl;refine bodyPost_ret (v:=.agg (#[.string ⟨#[]⟩,.string ⟨#[]⟩,.slice (some ⟨gb,0,none⟩) (L.length+1) cap,.int .i64 ((p2:Int)+1),.int .i64 0])) (by simp[results,Tryz.results239,go_sem,Ay,Az,A0,A1,A2]) rfl ?_;rw[AG.out];have Bp:=zU H7.out.2.1 H7.out.2.2 iU iU;rw[List.map_append,List.map_cons,List.map_nil] at Bp;have B9:=mO (vs:=[.string ⟨#[]⟩,.string ⟨#[]⟩,.slice (some ⟨gb,0,none⟩) (L.length+1) cap,.int .i64 ((p2:Int)+1),.int .i64 0]) Bp;exact cK (r:=(.mk iU iU (L.map (·.1)++[x2]),p-k+(n2+1),0)) (by simp only;have:=A3.out;omega) rfl AR (fun _=>B9)
     ·have hsh:bO (l.drop p2) s=false:=by simpa using hsh
      by_cases Aa:bO (l.drop p2) jM=true
      ·have B5:=oF Aa
       have AG:Hid (R=dL (p2+1-k) (aj j (.mloop s ((L++[(x2,dQ o2 t2 (.slice a2 m2 c2))]).map (·.1))) (l.drop (p2+1)) d)):=Hh (by
        have AJ:=A3.out
        rw[AM.out,if_pos Aa,mM,show p-k+(n2+1)=p2+1-k by omega,List.map_append,List.map_cons,List.map_nil])
       have Bq:=B2.out (by first|trivial|rfl);simp only[Nt.least] at Bq;have AJ:=A3.out;have HM:=Hh (show L.length+1<=p2+1/\k<=p2+1 by omega);clear AM Aw AJ Bq;obtain⟨Al,Aq,Am,Ar,An,As,Ao,At,Ap,Au⟩:=AK.n5 rfl;obtain⟨Ab,Ag,Ac,Ah,Ad,Ai,Ae,Aj,Af,Ak⟩:=AF.n5 rfl;clear AK AF;go_wp2_with (go_at_call 194;refine (Ax _).mono ?_;rintro _ _ ⟨rfl,rfl⟩;simp only[hsh,Aa])
       go_roundw
       case rel=>exact⟨H7.out.1,L++[(x2,dQ o2 t2 (.slice a2 m2 c2))],j,p2+1,by go_num,H7.out.2.1,H7.out.2.2,by omega,HM.out.2,B5,by rw[List.length_append];exact HM.out.1,AG.out⟩
       case measure=>have:=A3.out;simp[intOf];omega
      ·have Aa:bO (l.drop p2) jM=false:=by simpa using Aa
       have AG:Hid (R=(aQ,p-k+n2,(cO (l.drop p2) 0).2.2)):=Hh (by rw[AM.out,if_neg (by rw[Aa];decide),if_neg (by rw[hsh];decide),rZ];rfl);have B4:Hid ((cO (l.drop p2) 0).2.2≠0):=Hh (by unfold cO;split<;>simp);generalize (cO (l.drop p2) 0).2.2=eb at *;clear AM;obtain⟨Al,Aq,Am,Ar,An,As,Ao,At,Ap,Au⟩:=AK.n5 rfl;obtain⟨Ab,Ag,Ac,Ah,Ad,Ai,Ae,Aj,Af,Ak⟩:=AF.n5 rfl;clear AK AF;go_wp2_with (go_at_call 194;refine (Ax _).mono ?_;rintro _ _ ⟨rfl,rfl⟩;simp only[hsh,Aa])
       refine Aw.mono ?_;clear Aw Ax Al Am An Ao Ap Aq Ar As At Au Ab Ac Ad Ae Af Ag Ah Ai Aj Ak;rintro _ w8 ⟨rfl,hb8⟩;have Bb:=H7.out.1.go hb8;have Bf:=Bb.q;have BG:=Bf.lt;have Bg:=Hh Bb;clear Bb hb8;obtain⟨Br,Bw,Bs,Bx,Bt,By,Bu,Bz,Bv,B0⟩:=Bf.n5 rfl;clear Bf;go_wp2_with fail;have hq:=((((Bg.out.q.setI 0 (.string ⟨#[]⟩)).setI 1 (.string ⟨#[]⟩)).setI 2 (.slice none 0 0)).setI 3 (.int .i64 p2)).setI 4 (.int .i64 eb);have AR:=cZ Bg.out.b [.string ⟨#[]⟩,.string ⟨#[]⟩,.slice none 0 0,.int .i64 p2,.int .i64 eb];obtain⟨Ay,Az,A0,A1,A2⟩:=hq.m5 rfl;refine bodyPost_ret (v:=.agg (#[.string ⟨#[]⟩,.string ⟨#[]⟩,.slice none 0 0,.int .i64 p2,.int .i64 eb])) (by simp[results,Tryz.results239,go_sem,Ay,Az,A0,A1,A2]) rfl ?_;rw[AG.out];exact cK (r:=(aQ,p-k+n2,eb)) (by simp only;have:=A3.out;omega) rfl AR (fun h=>absurd h B4.out)
    ·have e0:(e2 != 0)=true:=by simpa using he2
     have AG:Hid (R=(aQ,p-k+n2,e2)):=Hh (by rw[AZ.out,bf (by exact he2)];rfl);clear AZ;obtain⟨A4,A9,A5,AA,A6,AB,A7,AC,A8,AD⟩:=AX.n5 rfl;clear AX;go_wp2_with fail;have hq:=(((((H6.out.1.q.setI 0 (.string o2)).setI 1 (.string t2)).setI 2 (.slice a2 m2 c2)).setI 3 (.int .i64 p2)).setI 4 (.int .i64 e2)).alloc (.cells (aT o2 t2 (.slice a2 m2 c2) p2 e2) 163);have AR:=fJ (vs:=[.string o2,.string t2,.slice a2 m2 c2,.int .i64 p2,.int .i64 e2]) H6.out.1.b (.cells (aT o2 t2 (.slice a2 m2 c2) p2 e2) 163);obtain⟨Ay,Az,A0,A1,A2⟩:=hq.m5 rfl;refine bodyPost_ret (v:=.agg (#[.string o2,.string t2,.slice a2 m2 c2,.int .i64 p2,.int .i64 e2])) (by simp[results,Tryz.results239,go_sem,Ay,Az,A0,A1,A2]) rfl ?_;rw[AG.out];exact cK (r:=(aQ,p-k+n2,e2)) (by simp only;have:=A3.out;omega) rfl AR (fun h=>absurd h he2)
end Go.Proofs.YtbcdaaobbebooaaGreatDoor
