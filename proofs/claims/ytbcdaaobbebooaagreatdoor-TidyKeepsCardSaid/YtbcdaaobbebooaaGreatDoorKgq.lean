import Derived.Test.YtbcdaaobbebooaaGreatDoorKgp
set_option linter.unusedSimpArgs false
set_option linter.unusedVariables false
set_option maxRecDepth 100000
set_option maxHeartbeats 20000000
namespace Go.Proofs.YtbcdaaobbebooaaGreatDoor
open Go.RowKit Go.Tab
def PN(w:World)(q2:Nat)(lv:Value)(l:List ag)(k d m:Nat)(R:eX)(wr:World):Prop:=
 vJ w wr lv l/\∃(o t:ByteArray) (a:Option Addr) (nn c p:Nat) (e:Int),ae wr q2 (aW o t (.slice a nn c) (p:Nat) e) 163/\k<=p/\
  ((e=0/\p<=l.length/\∃j x,j<=m/\R=dO (p-k) (ai j (.ploop x) (l.drop p) d)/\af (fun b=>w.heap.size+1<=b/\b≠q2) wr x (dQ o t (.slice a nn c)))\/(e≠0/\R=(aU,p-k,e)))
theorem Cv(m:Nat)(hQ:QC m)(hC:∀j,j<=m->CC j):PC (m+1):=by
 intro w lv l k d h hk hd hne;obtain⟨a,c,rfl,Cu,Cg⟩:=h.sl;have A7:=h.few;unfold maxLen at Cg;rw[ai] at hne ⊢;have BD:=vJ.start h;have HL:=Hh h.toks;have B8:=gI hne;have AK:=(eT m .prime (l.drop k) d trivial B8).1;rw[List.length_drop] at AK;have BS:=hQ _ _ l k d BD.l hk hd B8;obtain⟨R,hR⟩:=exq ((il (ai m .prime (l.drop k) d) fun a k2=>dO k2 (ai m (.ploop a) ((l.drop k).drop k2) d)));rw[<-hR] at hne ⊢;generalize ai m .prime (l.drop k) d=R1 at *;obtain⟨x1,n1,e1⟩:=R1;simp only at AK B8;have HR:=Hh hR;have HN:=Hh hne;have HC:=Hh hC;have BC:=Hh BD;clear h BD hne hR hC B8;go_enter Tryz.func234,Tryz.ntmps234;go_wp2_with fail;refine (BS).mono ?_;clear BS;rintro _ w4 ⟨hbX,o1,t1,a1,m1,c1,heX,hXX⟩;simp only at heX hXX;obtain⟨p1,A5⟩:∃pz:Nat,pz=k+n1:=⟨_,rfl⟩;rw[<-A5] at heX;subst heX;have BO:=Hh A5;clear A5;have BE:=BC.out.go hbX
 have BA:PN w w4.heap.size (.slice a l.length c) l k d m R (w4.alloc (.cells (aW o1 t1 (.slice a1 m1 c1) p1 e1) 163)):=by
  have A5:=BO.out;refine⟨BE.next _,o1,t1,a1,m1,c1,p1,e1,ae.new _ _ _,by omega,?_⟩
  by_cases he:e1=0
  ·left
   refine⟨he,by omega,m,x1,Nat.le_refl _,?_,?_⟩
   ·rw[HR.out,bP (by exact he),List.drop_drop,A5,show k+n1-k=n1 by omega]
   ·exact af.move (by simp) (fun b _ hl=>Below.heap_alloc _ _ _ hl) (fun b hb hl=>⟨hb,by omega⟩) _ _ (BC.out.exp (hXX he))
  ·right
   exact⟨he,by rw[HR.out,aZ (by exact he),A5,show k+n1-k=n1 by omega]⟩
 have BU:w.heap.size<w4.heap.size:=BE.q.lt;have BQ:=Hh BA;clear hbX hXX BC BE BA HR AK BO;go_wp2_with fail;go_loopw [8] (fun _ wr=>PN w w4.heap.size (.slice a l.length c) l k d m R wr) (fun _ wr=>l.length+1-yU wr w4.heap.size)
 case atStart=>exact BQ.out
 case round=>
  clear BQ;obtain⟨hA,o5,t5,a5,Aa,c5,p,e,Ax,Ct,BA⟩:=hrel;have Ay:=hA.q;have Cw:=Ay.lt;have Cj:=Ax.lt;have BP:=Hh (sN Ax);rcases BA with ⟨rfl,hpl,j,x,hj,hRe,hXx⟩|⟨he,hRe⟩
  ·have HH:=Jh hA hXx
   have A6:=fun s=>fC wr (.slice a l.length c) l p s hA.l.toks A7 (by omega)
   cases j with
   |zero=>exact absurd (by rw[hRe];rfl) HN.out
   |succ j=>
   rw[ai] at hRe
   by_cases hdot:bK (l.drop p) qD=true
   ·have BL:=oq hdot
    rw[if_pos hdot] at hRe;have B7:(l.drop p).drop 1=l.drop (p+1):=by rw[List.drop_drop]
    have Ch:(l.drop p).drop 2=l.drop (p+2):=by rw[List.drop_drop]
    rw[B7,Ch] at hRe;have Av:=lC wr (.slice a l.length c) l (p+1) hA.l.toks A7 (by omega);rw[show ((p+1:Nat):Int)=(p:Int)+1 by omega] at Av;have B6:Hid ((cZ (l.drop (p+1)) 0).2.2≠0):=Hh (by unfold cZ;split<;>simp)
    by_cases A5:p+1<l.length
    focus
     obtain⟨bb,Cz,rfl,Cx,q0,q1,q2⟩:=hA.l.toks.get A5;have AT:l.drop (p+1)=l[p+1]::l.drop (p+1+1):=List.drop_eq_getElem_cons A5;obtain⟨kd,AU⟩:∃z,l[p+1].kind=z:=⟨_,rfl⟩;obtain⟨tx,BB⟩:∃z,l[p+1].text=z:=⟨_,rfl⟩;rw[AU] at q0;rw[BB] at q1;clear q2
     by_cases h1:kd=1
     ·have Aw:Hid (R=dO (p-k+2) (ai j (.ploop (.mk nG tx [x])) (l.drop (p+2)) d)):=Hh (by
       rw[hRe,AT];simp only;rw[AU,if_pos h1,mg,BB])
      have e1:(kd != 1)=false:=by simpa using h1
      have A8:=Ax;clear hRe AT AU BB Av B6 h1 hA hXx;obtain⟨Al,Aq,Am,Ar,An,As,Ao,At,Ap,Au⟩:=Ay.n5 rfl;obtain⟨Ab,Ag,Ac,Ah,Ad,Ai,Ae,Aj,Af,Ak⟩:=Ax.n5 rfl;clear Ay Ax;go_wp2_with (go_at_call 194;refine (A6 _).mono ?_;rintro _ _ ⟨rfl,rfl⟩;simp only[hdot])
      have Cy:=HH.out.1.q.lt;go_region
      all_goals
       go_wp2_with fail;go_roundw
       case rel=>
        obtain⟨b0,BN,BI,Cf,-⟩:=HL.out.get A5;cases BI
        have hn:af (fun b=>w.heap.size+1<=b/\b≠w4.heap.size) ((ak wr w4.heap.size 0 [.string nG,.string tx,.slice (some ⟨wr.heap.size,0,none⟩) 1 1,.int .i64 ((p:Int)+2),.int .i64 0]).alloc (.cells #[.string o5,.string t5,.slice a5 Aa c5] 52)) (.mk nG tx [x]) [.string nG,.string tx,.slice (some ⟨wr.heap.size,0,none⟩) 1 1]:=
         uB (by omega) [(x,dQ o5 t5 (.slice a5 Aa c5))] (fun s hs=>by simp only[List.mem_singleton] at hs;subst hs;exact HH.out.2) (by simp[maxLen]) (by omega)
        have BG:=(HH.out.1.put (q:=w4.heap.size) BU [.string nG,.string tx,.slice (some ⟨wr.heap.size,0,none⟩) 1 1,.int .i64 ((p:Int)+2),.int .i64 0] (fun b hb=>by simp only[Value.ownBlock,Option.some.injEq] at hb;omega)).next (.cells #[.string o5,.string t5,.slice a5 Aa c5] 52);have AO:=(A8.put [.string nG,.string tx,.slice (some ⟨wr.heap.size,0,none⟩) 1 1,.int .i64 ((p:Int)+2),.int .i64 0] 0).alloc (.cells #[.string o5,.string t5,.slice a5 Aa c5] 52);refine⟨BG.go (Below.drew (Below.refl _ _)),nG,tx,_,1,1,p+2,0,AO.drew,by omega,.inl ⟨rfl,by omega,j,.mk nG tx [x],by omega,?_,af.below (Below.drew (Below.refl _ _)) _ _ hn⟩⟩;rw[Aw.out,show p-k+2=p+2-k by omega]
       case measure=>
        have AO:=((A8.put [.string nG,.string tx,.slice (some ⟨wr.heap.size,0,none⟩) 1 1,.int .i64 ((p:Int)+2),.int .i64 0] 0).alloc (.cells #[.string o5,.string t5,.slice a5 Aa c5] 52)).drew;have BK:=sN (p:=p+2) (e:=0) AO;show l.length+1-yU (((ak wr w4.heap.size 0 [.string nG,.string tx,.slice (some ⟨wr.heap.size,0,none⟩) 1 1,.int .i64 ((p:Int)+2),.int .i64 0]).alloc (.cells #[.string o5,.string t5,.slice a5 Aa c5] 52)).drew) w4.heap.size<l.length+1-yU wr w4.heap.size;rw[BP.out,BK];omega
     focus
      have Aw:Hid (R=(aU,p-k+1,(cZ (l.drop (p+1)) 0).2.2)):=Hh (by
       rw[hRe]
       conv=>lhs;rw[AT]
       simp only
       rw[AU,if_neg h1,<-AT,rX];rfl)
      have e1:(kd != 1)=true:=by simpa using h1
      generalize (cZ (l.drop (p+1)) 0).2.2=eb at *;clear hRe AT AU BB h1 hA hXx
    rotate_left
    focus
     have Aw:Hid (R=(aU,p-k+1,(cZ (l.drop (p+1)) 0).2.2)):=Hh (by
      have BJ:l.drop (p+1)=[]:=List.drop_eq_nil_of_le (by omega)
      rw[hRe,BJ];rfl)
     generalize (cZ (l.drop (p+1)) 0).2.2=eb at *;clear hRe hA hXx
    all_goals
     obtain⟨Al,Aq,Am,Ar,An,As,Ao,At,Ap,Au⟩:=Ay.n5 rfl;obtain⟨Ab,Ag,Ac,Ah,Ad,Ai,Ae,Aj,Af,Ak⟩:=Ax.n5 rfl;clear Ay Ax;go_wp2_with (go_at_call 194;refine (A6 _).mono ?_;rintro _ _ ⟨rfl,rfl⟩;simp only[hdot])
     refine Av.mono ?_;clear Av;rintro _ w8 ⟨rfl,hb8⟩;have AJ:=(HH.out.1).go hb8;have AM:=AJ.q;have Cl:=AM.lt;have AR:=Hh AJ;clear AJ hb8;obtain⟨AY,Bd,AZ,Be,Ba,Bf,Bb,Bg,Bc,Bh⟩:=AM.n5 rfl;clear AM;go_wp2_with fail;have hq:=((((AR.out.q.setI 0 (.string ⟨#[]⟩)).setI 1 (.string ⟨#[]⟩)).setI 2 (.slice none 0 0)).setI 3 (.int .i64 ((p:Int)+1))).setI 4 (.int .i64 eb);have Az:=df AR.out.b [.string ⟨#[]⟩,.string ⟨#[]⟩,.slice none 0 0,.int .i64 ((p:Int)+1),.int .i64 eb];obtain⟨A0,A1,A2,A3,A4⟩:=hq.m5 rfl;refine bodyPost_ret (v:=.agg (#[.string ⟨#[]⟩,.string ⟨#[]⟩,.slice none 0 0,.int .i64 ((p:Int)+1),.int .i64 eb])) (by simp[results,Tryz.results234,go_sem,A0,A1,A2,A3,A4]) rfl ?_;rw[Aw.out];exact cO (r:=(aU,p-k+1,eb)) (by simp only;omega) rfl Az (fun h=>absurd h B6.out)
   ·have hdot:bK (l.drop p) qD=false:=by simpa using hdot
    rw[if_neg (by rw[hdot];decide)] at hRe
    by_cases hlb:bK (l.drop p) AP=true
    ·have BL:=oq hlb
     rw[if_pos hlb] at hRe
     by_cases hd64:64<=d
     ·have Aw:Hid (R=(aU,p-k,5)):=Hh (by rw[hRe,if_pos hd64];rfl)
      clear hRe hA hXx;obtain⟨Al,Aq,Am,Ar,An,As,Ao,At,Ap,Au⟩:=Ay.n5 rfl;obtain⟨Ab,Ag,Ac,Ah,Ad,Ai,Ae,Aj,Af,Ak⟩:=Ax.n5 rfl;clear Ay Ax;go_wp2_with (go_at_call 194;refine (A6 _).mono ?_;rintro _ _ ⟨rfl,rfl⟩;simp only[hdot,hlb])
      have hq:=((((HH.out.1.q.setI 0 (.string ⟨#[]⟩)).setI 1 (.string ⟨#[]⟩)).setI 2 (.slice none 0 0)).setI 3 (.int .i64 p)).setI 4 (.int .i64 5);have Az:=df HH.out.1.b [.string ⟨#[]⟩,.string ⟨#[]⟩,.slice none 0 0,.int .i64 p,.int .i64 5];obtain⟨A0,A1,A2,A3,A4⟩:=hq.m5 rfl;refine bodyPost_ret (v:=.agg (#[.string ⟨#[]⟩,.string ⟨#[]⟩,.slice none 0 0,.int .i64 p,.int .i64 5])) (by simp[results,Tryz.results234,go_sem,A0,A1,A2,A3,A4]) rfl ?_;rw[Aw.out];exact cO (r:=(aU,p-k,5)) (by simp only;omega) rfl Az (fun h=>by cases h)
     ·rw[if_neg hd64] at hRe
      have B7:(l.drop p).drop 1=l.drop (p+1):=by rw[List.drop_drop]
      rw[B7] at hRe
      have B9:(ai j .choice (l.drop (p+1)) (d+1)).2.2≠-1:=by
       have:=HN.out;rw[hRe] at this;have h9:(il (dO 1 (ai j .choice (l.drop (p+1)) (d+1))) fun b k2=>if bK ((l.drop p).drop k2) o9=false then cZ ((l.drop p).drop k2) k2 else dO (k2+1) (ai j (.ploop (.mk vB iL [x,b])) ((l.drop p).drop (k2+1)) d)).2.2≠-1:=this;have h8:=gI h9;exact h8
      have AV:=(eT j .choice (l.drop (p+1)) (d+1) trivial B9).1;rw[List.length_drop] at AV;have BH:=HC.out j (by omega) _ _ l (p+1) (d+1) HH.out.1.l (by omega) (by omega) B9;rw[show ((d+1:Nat):Int)=(d:Int)+1 by omega,show ((p+1:Nat):Int)=(p:Int)+1 by omega] at BH;generalize ai j .choice (l.drop (p+1)) (d+1)=R2 at *;obtain⟨x2,n2,e2⟩:=R2;simp only at AV B9;have B4:=Hh hRe;have AX:=Ax;clear hRe B9 B7 hA hXx;obtain⟨Al,Aq,Am,Ar,An,As,Ao,At,Ap,Au⟩:=Ay.n5 rfl;obtain⟨Ab,Ag,Ac,Ah,Ad,Ai,Ae,Aj,Af,Ak⟩:=Ax.n5 rfl;clear Ay Ax;go_wp2_with (go_at_call 194;refine (A6 _).mono ?_;rintro _ _ ⟨rfl,rfl⟩;simp only[hdot,hlb])
      clear A6 Al Am An Ao Ap Aq Ar As At Au Ab Ac Ad Ae Af Ag Ah Ai Aj Ak;refine (BH).mono ?_;clear BH;rintro _ w6 ⟨hbX,o2,t2,a2,m2,c2,heX,hXX⟩;simp only at heX hXX;obtain⟨p2,AW⟩:∃pz:Nat,pz=p+1+n2:=⟨_,rfl⟩;rw[<-AW] at heX;subst heX;have AS:=Hh AW;clear AW;have BF:=HH.out.1.go hbX;have AN:=BF.q;have Ck:=AN.lt;have A8:=AX.below hbX Cj;have Cn:=A8.lt;have BT:af (fun b=>w.heap.size+1<=b/\b≠w4.heap.size) w6 x (dQ o5 t5 (.slice a5 Aa c5)):=af.move hbX.size (fun b _ hl=>hbX.block b hl) (fun b hb _=>hb) _ _ HH.out.2;have BR:Hid (e2=0->af (fun b=>w.heap.size+1<=b/\b≠w4.heap.size) w6 x2 (dQ o2 t2 (.slice a2 m2 c2))):=Hh (fun he=>af.move lz (fun _ _ _=>rfl) (fun b hb _=>⟨by omega,by omega⟩) _ _ (hXX he));have H6:=Jh BF (And.intro A8 BT);have hne:w.heap.size≠w4.heap.size:=by omega
      clear hbX hXX HH AX BF BT
      by_cases he2:e2=0
      ·subst he2
       have B5:Below w6.heap.size w6 (w6.alloc (.cells (aW o2 t2 (.slice a2 m2 c2) p2 0) 163)):=(Below.refl _ w6).alloc lz _;have AQ:=A8.below B5 Cn;have Bs:=ae.new w6 (aW o2 t2 (.slice a2 m2 c2) p2 0) 163;have BM:=AN.below B5 Ck;have H7:=Jh (H6.out.1.go B5) (And.intro AQ (And.intro (ow H6.out.2.2 (.cells (aW o2 t2 (.slice a2 m2 c2) p2 0) 163)) (ow (BR.out (by first|trivial|rfl)) (.cells (aW o2 t2 (.slice a2 m2 c2) p2 0) 163))));have Ci:w4.heap.size≠w6.heap.size:=by omega
       have AL:p2<=l.length:=by have:=AS.out;omega
       have A6:=fun s=>fC (w6.alloc (.cells (aW o2 t2 (.slice a2 m2 c2) p2 0) 163)) (.slice a l.length c) l p2 s H7.out.1.l.toks A7 (by omega);have Av:=lC (w6.alloc (.cells (aW o2 t2 (.slice a2 m2 c2) p2 0) 163)) (.slice a l.length c) l p2 H7.out.1.l.toks A7 AL;have hu:(dO 1 (x2,n2,(0:Int))).2.1=1+n2:=rfl
       have B3:Hid (R=dO (p-k) (if bK (l.drop p2) o9=false then cZ (l.drop p2) (1+n2) else dO (1+n2+1) (ai j (.ploop (.mk vB iL [x,x2])) (l.drop (p2+1)) d))):=Hh (by
        have AW:=AS.out;rw[B4.out,bP (by rfl)];simp only[hu,List.drop_drop]
        rw[show p+(1+n2)=p2 by omega,show p+(1+n2+1)=p2+1 by omega];rfl)
       clear B4 hu H6 BR;have Co:=AQ.lt;have Cp:=Bs.lt;have Cm:=BM.lt;obtain⟨A9,AE,AA,AF,AB,AG,AC,AH,AD,AI⟩:=AN.n5 rfl;obtain⟨Bi,Bn,Bj,Bo,Bk,Bp,Bl,Bq,Bm,Br⟩:=A8.n5 rfl;clear AN A8;go_wp2_with fail;clear A9 AA AB AC AD AE AF AG AH AI Bi Bj Bk Bl Bm Bn Bo Bp Bq Br B5;generalize w6.alloc (.cells (aW o2 t2 (.slice a2 m2 c2) p2 0) 163)=w7 at *;refine (A6 _).mono ?_;rintro _ _ ⟨rfl,rfl⟩
       by_cases hrb:bK (l.drop p2) o9=false
       ·have Aw:Hid (R=(aU,p-k+(1+n2),(cZ (l.drop p2) 0).2.2)):=Hh (by rw[B3.out,if_pos hrb,rX];rfl)
        have B6:Hid ((cZ (l.drop p2) 0).2.2≠0):=Hh (by unfold cZ;split<;>simp);generalize (cZ (l.drop p2) 0).2.2=eb at *;simp only[hrb];clear B3 A6;obtain⟨Bt,By,Bu,Bz,Bv,B0,Bw,B1,Bx,B2⟩:=Bs.n5 rfl;clear AQ BM Bs;go_wp2_with fail;refine Av.mono ?_;clear Av;rintro _ w8 ⟨rfl,hb8⟩;have AJ:=(H7.out.1).go hb8;have AM:=AJ.q;have Cl:=AM.lt;have AR:=Hh AJ;clear AJ hb8;obtain⟨AY,Bd,AZ,Be,Ba,Bf,Bb,Bg,Bc,Bh⟩:=AM.n5 rfl;clear AM;go_wp2_with fail;have hq:=((((AR.out.q.setI 0 (.string ⟨#[]⟩)).setI 1 (.string ⟨#[]⟩)).setI 2 (.slice none 0 0)).setI 3 (.int .i64 p2)).setI 4 (.int .i64 eb);have Az:=df AR.out.b [.string ⟨#[]⟩,.string ⟨#[]⟩,.slice none 0 0,.int .i64 p2,.int .i64 eb];obtain⟨A0,A1,A2,A3,A4⟩:=hq.m5 rfl;refine bodyPost_ret (v:=.agg (#[.string ⟨#[]⟩,.string ⟨#[]⟩,.slice none 0 0,.int .i64 p2,.int .i64 eb])) (by simp[results,Tryz.results234,go_sem,A0,A1,A2,A3,A4]) rfl ?_
        rw[Aw.out];exact cO (r:=(aU,p-k+(1+n2),eb)) (by simp only;have:=AS.out;omega) rfl Az (fun h=>absurd h B6.out)
       ·have hrb:bK (l.drop p2) o9=true:=by simpa using hrb
        have AL:=oq hrb;have Aw:Hid (R=dO (p-k+(1+n2+1)) (ai j (.ploop (.mk vB iL [x,x2])) (l.drop (p2+1)) d)):=Hh (by rw[B3.out,if_neg (by rw[hrb];decide),mg]);simp only[hrb];clear B3 A6 Av;have Cs:=AQ;obtain⟨Bt,By,Bu,Bz,Bv,B0,Bw,B1,Bx,B2⟩:=Bs.n5 rfl;obtain⟨BV,Ca,BW,Cb,BX,Cc,BY,Cd,BZ,Ce⟩:=AQ.n5 rfl;clear AQ BM Bs;go_wp2_with fail;show PN w w4.heap.size _ l k d m R ((ak w7 w4.heap.size 0 [.string vB,.string ⟨#[]⟩,.slice (some ⟨w7.heap.size,0,none⟩) 2 2,.int .i64 ((p2:Int)+1),.int .i64 0]).alloc (.cells #[.string o5,.string t5,.slice a5 Aa c5,.string o2,.string t2,.slice a2 m2 c2] 52))/\l.length+1-yU ((ak w7 w4.heap.size 0 [.string vB,.string ⟨#[]⟩,.slice (some ⟨w7.heap.size,0,none⟩) 2 2,.int .i64 ((p2:Int)+1),.int .i64 0]).alloc (.cells #[.string o5,.string t5,.slice a5 Aa c5,.string o2,.string t2,.slice a2 m2 c2] 52)) w4.heap.size<l.length+1-yU wr w4.heap.size
        have hn:af (fun b=>w.heap.size+1<=b/\b≠w4.heap.size) ((ak w7 w4.heap.size 0 [.string vB,.string ⟨#[]⟩,.slice (some ⟨w7.heap.size,0,none⟩) 2 2,.int .i64 ((p2:Int)+1),.int .i64 0]).alloc (.cells #[.string o5,.string t5,.slice a5 Aa c5,.string o2,.string t2,.slice a2 m2 c2] 52)) (.mk vB iL [x,x2]) [.string vB,.string iL,.slice (some ⟨w7.heap.size,0,none⟩) 2 2]:=
         uB (by omega) [(x,dQ o5 t5 (.slice a5 Aa c5)),(x2,dQ o2 t2 (.slice a2 m2 c2))] (fun s hs=>by
          simp only[List.mem_cons,List.not_mem_nil,or_false] at hs;rcases hs with rfl|rfl
          ·exact H7.out.2.2.1
          ·exact H7.out.2.2.2) (by simp[maxLen]) (by omega)
        have Cq:∀b,(Value.slice a l.length c).ownBlock=some b->b<w.heap.size:=fun b hb=>by
         obtain⟨b0,BN,BI,Cf,-⟩:=HL.out.get AL;subst BI;simp only[Value.ownBlock,Option.some.injEq] at hb;omega
        have BG:=(H7.out.1.put (q:=w4.heap.size) BU [.string vB,.string ⟨#[]⟩,.slice (some ⟨w7.heap.size,0,none⟩) 2 2,.int .i64 ((p2:Int)+1),.int .i64 0] Cq).next (.cells #[.string o5,.string t5,.slice a5 Aa c5,.string o2,.string t2,.slice a2 m2 c2] 52);have AO:=(H7.out.2.1.put [.string vB,.string ⟨#[]⟩,.slice (some ⟨w7.heap.size,0,none⟩) 2 2,.int .i64 ((p2:Int)+1),.int .i64 0] 0).alloc (.cells #[.string o5,.string t5,.slice a5 Aa c5,.string o2,.string t2,.slice a2 m2 c2] 52);have BK:=sN (p:=p2+1) (e:=0) AO;have AW:=AS.out;generalize (ak w7 w4.heap.size 0 [.string vB,.string ⟨#[]⟩,.slice (some ⟨w7.heap.size,0,none⟩) 2 2,.int .i64 ((p2:Int)+1),.int .i64 0]).alloc (.cells #[.string o5,.string t5,.slice a5 Aa c5,.string o2,.string t2,.slice a2 m2 c2] 52)=w9 at *;refine⟨⟨BG,vB,⟨#[]⟩,_,2,2,p2+1,0,AO,by omega,.inl ⟨rfl,by omega,j,.mk vB iL [x,x2],by omega,?_,hn⟩⟩,?_⟩
        ·rw[Aw.out,show p-k+(1+n2+1)=p2+1-k by omega]
        ·rw[BP.out,BK]
         omega
      ·have e0:(e2 != 0)=true:=by simpa using he2
       have Aw:Hid (R=(aU,p-k+(1+n2),e2)):=Hh (by rw[B4.out,aZ (by exact he2)];rfl);clear B4;obtain⟨A9,AE,AA,AF,AB,AG,AC,AH,AD,AI⟩:=AN.n5 rfl;clear AN A8;go_wp2_with fail;have hq:=(((((H6.out.1.q.setI 0 (.string o2)).setI 1 (.string t2)).setI 2 (.slice a2 m2 c2)).setI 3 (.int .i64 p2)).setI 4 (.int .i64 e2)).alloc (.cells (aW o2 t2 (.slice a2 m2 c2) p2 e2) 163);have Az:=fB (vs:=[.string o2,.string t2,.slice a2 m2 c2,.int .i64 p2,.int .i64 e2]) H6.out.1.b (.cells (aW o2 t2 (.slice a2 m2 c2) p2 e2) 163);obtain⟨A0,A1,A2,A3,A4⟩:=hq.m5 rfl;refine bodyPost_ret (v:=.agg (#[.string o2,.string t2,.slice a2 m2 c2,.int .i64 p2,.int .i64 e2])) (by simp[results,Tryz.results234,go_sem,A0,A1,A2,A3,A4]) rfl ?_;rw[Aw.out];exact cO (r:=(aU,p-k+(1+n2),e2)) (by simp only;have:=AS.out;omega) rfl Az (fun h=>absurd h he2)
    ·have hlb:bK (l.drop p) AP=false:=by simpa using hlb
     have Aw:Hid (R=(x,p-k,0)):=Hh (by rw[hRe,if_neg (by rw[hlb];decide)];rfl);clear hRe hA hXx;obtain⟨Al,Aq,Am,Ar,An,As,Ao,At,Ap,Au⟩:=Ay.n5 rfl;obtain⟨Ab,Ag,Ac,Ah,Ad,Ai,Ae,Aj,Af,Ak⟩:=Ax.n5 rfl;clear Ay Ax;go_wp2_with (go_at_call 194;refine (A6 _).mono ?_;rintro _ _ ⟨rfl,rfl⟩;simp only[hdot,hlb])
     have hq:=((((HH.out.1.q.setI 0 (.string o5)).setI 1 (.string t5)).setI 2 (.slice a5 Aa c5)).setI 3 (.int .i64 p)).setI 4 (.int .i64 0);have Az:=df HH.out.1.b [.string o5,.string t5,.slice a5 Aa c5,.int .i64 p,.int .i64 0];obtain⟨A0,A1,A2,A3,A4⟩:=hq.m5 rfl;refine bodyPost_ret (v:=.agg (#[.string o5,.string t5,.slice a5 Aa c5,.int .i64 p,.int .i64 0])) (by simp[results,Tryz.results234,go_sem,A0,A1,A2,A3,A4]) rfl ?_;rw[Aw.out];have Cr:=mi (vs:=[.string o5,.string t5,.slice a5 Aa c5,.int .i64 p,.int .i64 0]) (af.move lz (fun _ _ _=>rfl) (fun b hb _=>hb.1) _ _ HH.out.2);exact cO (r:=(x,p-k,0)) (by simp only;omega) rfl Az (fun _=>Cr)
  ·have e0:(e==0)=false:=by simpa using he
   have HH:=Hh hA;have Aw:=Hh hRe;clear hA hRe;obtain⟨Al,Aq,Am,Ar,An,As,Ao,At,Ap,Au⟩:=Ay.n5 rfl;obtain⟨Ab,Ag,Ac,Ah,Ad,Ai,Ae,Aj,Af,Ak⟩:=Ax.n5 rfl;clear Ay Ax;go_wp2_with fail;have hq:=((((HH.out.q.setI 0 (.string o5)).setI 1 (.string t5)).setI 2 (.slice a5 Aa c5)).setI 3 (.int .i64 p)).setI 4 (.int .i64 e);have Az:=df HH.out.b [.string o5,.string t5,.slice a5 Aa c5,.int .i64 p,.int .i64 e];obtain⟨A0,A1,A2,A3,A4⟩:=hq.m5 rfl;refine bodyPost_ret (v:=.agg (#[.string o5,.string t5,.slice a5 Aa c5,.int .i64 p,.int .i64 e])) (by simp[results,Tryz.results234,go_sem,A0,A1,A2,A3,A4]) rfl ?_;rw[Aw.out];exact cO (r:=(aU,p-k,e)) (by simp only;omega) rfl Az (fun h=>absurd h he)
theorem vJ.grown{w W W':World}{lv:Value}{l:List ag}(h:vJ w W lv l){row:Option Nat}(hg:W.grownBy W' row)(hr:∀k,row=some k->w.heap.size+1<=k)(hob:∀b,lv.ownBlock=some b->b<w.heap.size):vJ w W' lv l:=by
 refine⟨h.b.grown hg h.b.size (fun k hk=>by have:=hr k hk;omega),h.q.kept hg (fun e=>by have:=hr _ e.symm;omega),⟨?_,h.l.few,h.l.short,h.l.quo⟩⟩;refine h.l.toks.moved hg.size (fun b off hl hv=>?_);exact iB (hg.block b hl (fun e=>by have:=hr b e.symm;have:=hob b hv;omega)) off
def PZ(w:World)(lv:Value)(s:ByteArray)(l:List ag)(k d m:Nat)(R:eX)(v at_:Value)(wr:World):Prop:=
 vJ w wr lv l/\∃(L:List (dR×List Value)) (j p:Nat),at_=.int .i64 (p:Nat)/\pV (w.heap.size+1) wr v L/\En (w.heap.size+1) wr v L/\j<=m/\k<=p/\p<=l.length/\L.length<=p/\
  R=dO (p-k) (ai j (.mloop s (L.map (·.1))) (l.drop p) d)
theorem Cx(m:Nat)(hC:∀j,j<=m->CC j):MC (m+1):=by
 intro w lv l k d s h hk hd hs12 hne;obtain⟨a,c,rfl,BH,Aa⟩:=h.sl;have AH:=h.few;unfold maxLen at Aa;have AO:=vJ.start h
 have B8:Hid (∀b,(Value.slice a l.length c).ownBlock=some b->b<w.heap.size):=Hh (fun b hb=>by
  obtain⟨b0,BA,B3,BC,-⟩:=h.toks.get (j:=0) (by omega);subst B3
  simp only[Value.ownBlock,Option.some.injEq] at hb;omega)
 rw[ai] at hne ⊢
 by_cases hd64:64<=d
 ·rw[if_pos hd64]
  clear h AO hne;go_enter Tryz.func239,Tryz.ntmps239;go_wp2_with fail;have hq:=ae.new w (aW ⟨#[]⟩ ⟨#[]⟩ (.slice none 0 0) (k:Nat) 5) 163;obtain⟨Ay,Az,A0,A1,A2⟩:=hq.m5 rfl;refine bodyPost_ret (v:=.agg (aW ⟨#[]⟩ ⟨#[]⟩ (.slice none 0 0) (k:Nat) 5)) (by simp[results,Tryz.results239,go_sem,Ay,Az,A0,A1,A2]) rfl ?_;exact cO (r:=(aU,0,5)) (by simp) rfl ((Below.refl _ w).alloc lz _) (fun h=>by cases h)
 ·rw[if_neg hd64] at hne ⊢
  have Bd:(l.drop k).drop 1=l.drop (k+1):=by rw[List.drop_drop]
  rw[Bd] at hne ⊢;have Ax:=fun s=>fC (w.alloc (.cells mR 163)) (.slice a l.length c) l (k+1) s AO.l.toks AH (by omega);rw[show ((k+1:Nat):Int)=(k:Int)+1 by omega] at Ax
  by_cases hsh:bK (l.drop (k+1)) s=true
  ·rw[if_pos hsh]
   clear h AO hne Bd;go_enter Tryz.func239,Tryz.ntmps239;go_wp2_with (go_at_call 194;refine (Ax _).mono ?_;rintro _ _ ⟨rfl,rfl⟩;simp only[hsh])
   have hq:=ae.new w (aW ⟨#[]⟩ ⟨#[]⟩ (.slice none 0 0) ((k:Int)+1+1) 0) 163;obtain⟨Ay,Az,A0,A1,A2⟩:=hq.m5 rfl;refine bodyPost_ret (v:=.agg (aW ⟨#[]⟩ ⟨#[]⟩ (.slice none 0 0) ((k:Int)+1+1) 0)) (by simp[results,Tryz.results239,go_sem,Ay,Az,A0,A1,A2]) rfl ?_;exact cO (r:=(.mk iL iL [],2,0)) (by simp only;omega) rfl ((Below.refl _ w).alloc lz _) (fun h=>af.leaf _ _ _ _)
  ·have hsh:bK (l.drop (k+1)) s=false:=by simpa using hsh
   rw[if_neg (by rw[hsh];decide)] at hne ⊢;obtain⟨R,hR⟩:=exq (dO 1 (ai m (.mloop s []) (l.drop (k+1)) d));rw[<-hR] at hne ⊢;have HN:=Hh hne;have HC:=Hh hC
   have B1:PZ w (.slice a l.length c) s l k d m R (.slice none 0 0) (.int .i64 ((k:Int)+1)) (w.alloc (.cells mR 163)):=
    ⟨AO,[],m,k+1,by simp,pV.nil _ _,(fun s hs=>by cases hs),Nat.le_refl _,by omega,by omega,Nat.zero_le _,by rw[hR,show k+1-k=1 by omega];rfl⟩
   have Bh:=Hh B1;have Bn:s≠jC:=by rcases hs12 with rfl|rfl<;>decide
   have HS:=Hh Bn;clear h AO hne Bd B1 hR hC hs12 Bn;go_enter Tryz.func239,Tryz.ntmps239;go_wp2_with (go_at_call 194;refine (Ax _).mono ?_;rintro _ _ ⟨rfl,rfl⟩;simp only[hsh])
   clear Ax hsh;go_loopw [1,9,10] (fun at_ v _ wr=>PZ w (.slice a l.length c) s l k d m R v at_ wr) (fun at_ _ _ _=>l.length+1-(intOf at_).toNat)
   case atStart=>exact Bh.out
   case round=>
    clear Bh;obtain⟨hA,L,j,p,rfl,AL,Bo,hj,BD,BI,BB,AQ⟩:=hrel;obtain⟨va,vc,rfl⟩:=AL.len
    cases j with
    |zero=>exact absurd (by rw[AQ];rfl) HN.out
    |succ j=>
    rw[ai] at AQ
    have AY:(ai j .choice (l.drop p) (d+1)).2.2≠-1:=by
     have:=HN.out;rw[AQ] at this;have h9:(il (ai j .choice (l.drop p) (d+1)) fun a k=>if bK ((l.drop p).drop k) jC=true then dO (k+1) (ai j (.mloop s (L.map (·.1)++[a])) ((l.drop p).drop (k+1)) d) else if bK ((l.drop p).drop k) s=true then (.mk iL iL (L.map (·.1)++[a]),k+1,0) else cZ ((l.drop p).drop k) k).2.2≠-1:=this;exact gI h9
    have AV:=(eT j .choice (l.drop p) (d+1) trivial AY).1;rw[List.length_drop] at AV;have AI:=(eT j .choice (l.drop p) (d+1) trivial AY).2;have Bc:=HC.out j (by omega) _ _ l p (d+1) hA.l (by omega) (by omega) AY;rw[show ((d+1:Nat):Int)=(d:Int)+1 by omega] at Bc;generalize ai j .choice (l.drop p) (d+1)=R2 at *;obtain⟨x2,n2,e2⟩:=R2;simp only at AV AY AI;have AZ:=Hh AQ;have HH:=Jh hA (And.intro AL Bo);have B2:=Hh AI;clear AQ AY hA AL Bo AI;go_wp2_with fail;refine (Bc).mono ?_;clear Bc;rintro _ w6 ⟨hbX,o2,t2,a2,m2,c2,heX,hXX⟩;simp only at heX hXX;obtain⟨p2,AJ⟩:∃pz:Nat,pz=p+n2:=⟨_,rfl⟩;rw[<-AJ] at heX;subst heX;have A3:=Hh AJ;clear AJ;have Ba:=HH.out.1.go hbX;have AX:=Ba.q;have BE:=AX.lt;have AE:=HH.out.2.1.keep (fun k _ hl=>hbX.block k hl);have AS:=HH.out.2.2.keep hbX.size (fun k _ hl=>hbX.block k hl);have Bi:Hid (e2=0->af (fun b=>w.heap.size+1<=b/\some b≠(Value.slice va L.length vc).ownBlock) w6 x2 (dQ o2 t2 (.slice a2 m2 c2))):=Hh (fun he=>af.move lz (fun _ _ _=>rfl) (fun b hb _=>⟨by have:=HH.out.1.q.lt;omega,fun e=>by have:=(World.ownsRow.lt HH.out.2.1.2 b e.symm).2;omega⟩) _ _ (hXX he));have H6:=Jh Ba (And.intro AE AS);clear hbX hXX HH Ba AE AS
    by_cases he2:e2=0
    ·subst he2
     have Be:p2<=l.length:=by have:=A3.out;omega
     obtain⟨A4,A9,A5,AA,A6,AB,A7,AC,A8,AD⟩:=AX.n5 rfl;clear AX;go_wp2_with (with_reducible first|refine aK ?_)
     refine Stop.out ?_;clear A4 A5 A6 A7 A8 A9 AA AB AC AD
     have Bl:ae ((w6.alloc (.cells (aW o2 t2 (.slice a2 m2 c2) p2 0) 163)).alloc (.cells #[.string o2,.string t2,.slice a2 m2 c2] 52)) (w6.heap.size+1) #[.string o2,.string t2,.slice a2 m2 c2] 52:=by
      have:=ae.new (w6.alloc (.cells (aW o2 t2 (.slice a2 m2 c2) p2 0) 163)) #[.string o2,.string t2,.slice a2 m2 c2] 52;rw[World.size_alloc] at this;exact this
     have Bk:ae ((w6.alloc (.cells (aW o2 t2 (.slice a2 m2 c2) p2 0) 163)).alloc (.cells #[.string o2,.string t2,.slice a2 m2 c2] 52)) w6.heap.size (aW o2 t2 (.slice a2 m2 c2) p2 0) 163:=(ae.new w6 (aW o2 t2 (.slice a2 m2 c2) p2 0) 163).alloc (.cells #[.string o2,.string t2,.slice a2 m2 c2] 52);have AN:Below w6.heap.size w6 ((w6.alloc (.cells (aW o2 t2 (.slice a2 m2 c2) p2 0) 163)).alloc (.cells #[.string o2,.string t2,.slice a2 m2 c2] 52)):=((Below.refl _ w6).alloc lz _).alloc (by simp) _;have Bj:=H6.out.1.go AN;have Av:=H6.out.2.1.keep (fun k _ hl=>AN.block k hl);have AU:=H6.out.2.2.keep AN.size (fun k _ hl=>AN.block k hl);have Bm:=af.below AN x2 _ (Bi.out (by first|trivial|rfl));have AW:=World.ownsRow.lt H6.out.2.1.2;refine mf rfl _ _ rfl (w.heap.size+1) L (by exact Av) (w6.heap.size+1) rfl x2 o2 t2 a2 m2 c2 Bl (by omega) (by have:=H6.out.1.q.lt;simp only[World.size_alloc];omega) _ rfl ?_;intro gb cap w7 hrow7 hg7 hat7 hge7;have AT:En (w.heap.size+1) w7 (.slice (some ⟨gb,0,none⟩) (L.length+1) cap) (L++[(x2,dQ o2 t2 (.slice a2 m2 c2))]):=En.push AU Bm hg7 hat7;have AP:=Bj.grown hg7 (fun k hk=>(World.ownsRow.lt Av.2 k hk).1) B8.out;have AF:=Bk.kept hg7 (fun e=>by have:=(AW _ e.symm).2;omega);have AK:=AP.q;have BF:=AK.lt;have B6:=AF.lt;have B7:w.heap.size≠w6.heap.size:=by omega
     have Ax:=fun s=>fC w7 (.slice a l.length c) l p2 s AP.l.toks AH (by omega);have Aw:=lC w7 (.slice a l.length c) l p2 AP.l.toks AH Be;have H7:=Jh AP (And.intro hrow7 AT)
     have AM:Hid (R=dO (p-k) (if bK (l.drop p2) jC=true then dO (n2+1) (ai j (.mloop s (L.map (·.1)++[x2])) (l.drop (p2+1)) d) else if bK (l.drop p2) s=true then (.mk iL iL (L.map (·.1)++[x2]),n2+1,0) else cZ (l.drop p2) n2)):=Hh (by
      have AJ:=A3.out;rw[AZ.out,bP (by rfl)];simp only[List.drop_drop]
      rw[show p+n2=p2 by omega,show p+(n2+1)=p2+1 by omega])
     clear Bl Bk AN Bj Av AU Bm AW hrow7 AT AP hg7 hat7 AZ H6 Bi
     by_cases hsh:bK (l.drop p2) s=true
     ·have Aa:bK (l.drop p2) jC=false:=GA hsh HS.out
      have AG:Hid (R=(.mk iL iL (L.map (·.1)++[x2]),p-k+(n2+1),0)):=Hh (by rw[AM.out,if_neg (by rw[Aa];decide),if_pos hsh];rfl);clear AM Aw;obtain⟨Al,Aq,Am,Ar,An,As,Ao,At,Ap,Au⟩:=AK.n5 rfl;obtain⟨Ab,Ag,Ac,Ah,Ad,Ai,Ae,Aj,Af,Ak⟩:=AF.n5 rfl;clear AK AF;go_wp2_with (go_at_call 194;refine (Ax _).mono ?_;rintro _ _ ⟨rfl,rfl⟩;simp only[hsh,Aa])
      have hq:=((((H7.out.1.q.setI 0 (.string ⟨#[]⟩)).setI 1 (.string ⟨#[]⟩)).setI 2 (.slice (some ⟨gb,0,none⟩) (L.length+1) cap)).setI 3 (.int .i64 ((p2:Int)+1))).setI 4 (.int .i64 0);have AR:=df H7.out.1.b [.string ⟨#[]⟩,.string ⟨#[]⟩,.slice (some ⟨gb,0,none⟩) (L.length+1) cap,.int .i64 ((p2:Int)+1),.int .i64 0];obtain⟨Ay,Az,A0,A1,A2⟩:=hq.m5 rfl;refine bodyPost_ret (v:=.agg (#[.string ⟨#[]⟩,.string ⟨#[]⟩,.slice (some ⟨gb,0,none⟩) (L.length+1) cap,.int .i64 ((p2:Int)+1),.int .i64 0])) (by simp[results,Tryz.results239,go_sem,Ay,Az,A0,A1,A2]) rfl ?_;rw[AG.out];have Bp:=zS H7.out.2.1 H7.out.2.2 iL iL;rw[List.map_append,List.map_cons,List.map_nil] at Bp;have B9:=mi (vs:=[.string ⟨#[]⟩,.string ⟨#[]⟩,.slice (some ⟨gb,0,none⟩) (L.length+1) cap,.int .i64 ((p2:Int)+1),.int .i64 0]) Bp;exact cO (r:=(.mk iL iL (L.map (·.1)++[x2]),p-k+(n2+1),0)) (by simp only;have:=A3.out;omega) rfl AR (fun _=>B9)
     ·have hsh:bK (l.drop p2) s=false:=by simpa using hsh
      by_cases Aa:bK (l.drop p2) jC=true
      ·have B5:=oq Aa
       have AG:Hid (R=dO (p2+1-k) (ai j (.mloop s ((L++[(x2,dQ o2 t2 (.slice a2 m2 c2))]).map (·.1))) (l.drop (p2+1)) d)):=Hh (by
        have AJ:=A3.out
        rw[AM.out,if_pos Aa,mg,show p-k+(n2+1)=p2+1-k by omega,List.map_append,List.map_cons,List.map_nil])
       have Bq:=B2.out (by first|trivial|rfl);simp only[Nt.least] at Bq;have AJ:=A3.out;have HM:=Hh (show L.length+1<=p2+1/\k<=p2+1 by omega);clear AM Aw AJ Bq;obtain⟨Al,Aq,Am,Ar,An,As,Ao,At,Ap,Au⟩:=AK.n5 rfl;obtain⟨Ab,Ag,Ac,Ah,Ad,Ai,Ae,Aj,Af,Ak⟩:=AF.n5 rfl;clear AK AF;go_wp2_with (go_at_call 194;refine (Ax _).mono ?_;rintro _ _ ⟨rfl,rfl⟩;simp only[hsh,Aa])
       go_roundw
       case rel=>exact⟨H7.out.1,L++[(x2,dQ o2 t2 (.slice a2 m2 c2))],j,p2+1,by go_num,H7.out.2.1,H7.out.2.2,by omega,HM.out.2,B5,by rw[List.length_append];exact HM.out.1,AG.out⟩
       case measure=>have:=A3.out;simp[intOf];omega
      ·have Aa:bK (l.drop p2) jC=false:=by simpa using Aa
       have AG:Hid (R=(aU,p-k+n2,(cZ (l.drop p2) 0).2.2)):=Hh (by rw[AM.out,if_neg (by rw[Aa];decide),if_neg (by rw[hsh];decide),rX];rfl);have B4:Hid ((cZ (l.drop p2) 0).2.2≠0):=Hh (by unfold cZ;split<;>simp);generalize (cZ (l.drop p2) 0).2.2=eb at *;clear AM;obtain⟨Al,Aq,Am,Ar,An,As,Ao,At,Ap,Au⟩:=AK.n5 rfl;obtain⟨Ab,Ag,Ac,Ah,Ad,Ai,Ae,Aj,Af,Ak⟩:=AF.n5 rfl;clear AK AF;go_wp2_with (go_at_call 194;refine (Ax _).mono ?_;rintro _ _ ⟨rfl,rfl⟩;simp only[hsh,Aa])
       refine Aw.mono ?_;clear Aw Ax Al Am An Ao Ap Aq Ar As At Au Ab Ac Ad Ae Af Ag Ah Ai Aj Ak;rintro _ w8 ⟨rfl,hb8⟩;have Bb:=H7.out.1.go hb8;have Bf:=Bb.q;have BG:=Bf.lt;have Bg:=Hh Bb;clear Bb hb8;obtain⟨Br,Bw,Bs,Bx,Bt,By,Bu,Bz,Bv,B0⟩:=Bf.n5 rfl;clear Bf;go_wp2_with fail;have hq:=((((Bg.out.q.setI 0 (.string ⟨#[]⟩)).setI 1 (.string ⟨#[]⟩)).setI 2 (.slice none 0 0)).setI 3 (.int .i64 p2)).setI 4 (.int .i64 eb);have AR:=df Bg.out.b [.string ⟨#[]⟩,.string ⟨#[]⟩,.slice none 0 0,.int .i64 p2,.int .i64 eb];obtain⟨Ay,Az,A0,A1,A2⟩:=hq.m5 rfl;refine bodyPost_ret (v:=.agg (#[.string ⟨#[]⟩,.string ⟨#[]⟩,.slice none 0 0,.int .i64 p2,.int .i64 eb])) (by simp[results,Tryz.results239,go_sem,Ay,Az,A0,A1,A2]) rfl ?_;rw[AG.out];exact cO (r:=(aU,p-k+n2,eb)) (by simp only;have:=A3.out;omega) rfl AR (fun h=>absurd h B4.out)
    ·have e0:(e2 != 0)=true:=by simpa using he2
     have AG:Hid (R=(aU,p-k+n2,e2)):=Hh (by rw[AZ.out,aZ (by exact he2)];rfl);clear AZ;obtain⟨A4,A9,A5,AA,A6,AB,A7,AC,A8,AD⟩:=AX.n5 rfl;clear AX;go_wp2_with fail;have hq:=(((((H6.out.1.q.setI 0 (.string o2)).setI 1 (.string t2)).setI 2 (.slice a2 m2 c2)).setI 3 (.int .i64 p2)).setI 4 (.int .i64 e2)).alloc (.cells (aW o2 t2 (.slice a2 m2 c2) p2 e2) 163);have AR:=fB (vs:=[.string o2,.string t2,.slice a2 m2 c2,.int .i64 p2,.int .i64 e2]) H6.out.1.b (.cells (aW o2 t2 (.slice a2 m2 c2) p2 e2) 163);obtain⟨Ay,Az,A0,A1,A2⟩:=hq.m5 rfl;refine bodyPost_ret (v:=.agg (#[.string o2,.string t2,.slice a2 m2 c2,.int .i64 p2,.int .i64 e2])) (by simp[results,Tryz.results239,go_sem,Ay,Az,A0,A1,A2]) rfl ?_;rw[AG.out];exact cO (r:=(aU,p-k+n2,e2)) (by simp only;have:=A3.out;omega) rfl AR (fun h=>absurd h he2)
theorem Il(c d:Nat)(w:World)(hc:c<256)(h:mI c=some d):Calls Tryz.prog 202 #[.int .u8 (c:Int)] w fun e w'=>e=.returned (.int .i64 (d:Int))/\w=w':=by
 unfold mI at h
 by_cases h1:48<=c/\c<=57
 ·rw[if_pos h1] at h
  obtain rfl:d=c-48:=by cases h;rfl
  clear h;go_enter Tryz.func202,Tryz.ntmps202;go_wp2;go_ret;exact⟨dW (by omega),rfl⟩
 rw[if_neg h1] at h
 by_cases h2:97<=c/\c<=102
 ·rw[if_pos h2] at h
  obtain rfl:d=c-87:=by cases h;rfl
  clear h h1;go_enter Tryz.func202,Tryz.ntmps202;go_wp2;go_ret;exact⟨dW (by omega),rfl⟩
 rw[if_neg h2] at h
 by_cases h3:65<=c/\c<=70
 ·rw[if_pos h3] at h
  obtain rfl:d=c-55:=by cases h;rfl
  clear h h1 h2;go_enter Tryz.func202,Tryz.ntmps202;go_wp2;go_ret;exact⟨dW (by omega),rfl⟩
 ·rw[if_neg h3] at h;cases h
theorem Im(c:Nat)(w:World)(hc:c<256)(h:mI c=none):Calls Tryz.prog 202 #[.int .u8 (c:Int)] w fun e w'=>e=.returned (.int .i64 (-1))/\w=w':=by
 have h4:c<48\/(58<=c/\c<=64)\/(71<=c/\c<=96)\/103<=c:=by
  unfold mI at h
  by_cases h1:48<=c/\c<=57
  ·rw[if_pos h1] at h;cases h
  rw[if_neg h1] at h
  by_cases h2:97<=c/\c<=102
  ·rw[if_pos h2] at h;cases h
  rw[if_neg h2] at h
  by_cases h3:65<=c/\c<=70
  ·rw[if_pos h3] at h;cases h
  omega
 clear h;rcases h4 with h4|h4|h4|h4
 all_goals
  go_enter Tryz.func202,Tryz.ntmps202;go_wp2;go_ret;exact⟨rfl,rfl⟩
theorem AX{a b:Int}{q:Nat×Nat}(h1:a=q.1)(h2:b=q.2):Ending.returned (.tuple #[.int .i64 a,.int .i64 b])=.returned (.tuple #[.int .i64 (q.1:Int),.int .i64 (q.2:Int)]):=by rw[h1,h2]
theorem mF{s:ByteArray}{k c:Nat}{r:List Nat}(h:(bs s).drop k=c::r):∃h':k<s.size,(s[k]'h').toNat=c:=by
 obtain⟨h1,h2⟩:=Am h (j:=0) (by simp);exact⟨h1,h2⟩
theorem zx(s:ByteArray)(k:Nat)(w:World)(hk:k<=s.size)(hs:s.size<=1048576) :
  Calls Tryz.prog 174 #[.string s,.int .i64 (k:Int)] w fun e w'=>e=.returned (.tuple #[.int .i64 ((aJ ((bs s).drop k)).1:Int),.int .i64 ((aJ ((bs s).drop k)).2:Int)])/\w=w':=by
 go_enter Tryz.func174,Tryz.ntmps174;go_wp2_with fail;go_loop [6,7] (fun n i=>∃(j m:Nat),j<=4/\n=.int .i64 m/\i=.int .i64 j/\m<16 ^ j/\k+j<=s.size/\gY (4-j) m ((bs s).drop (k+j))=aJ ((bs s).drop k)) (fun _ i=>4-(intOf i).toNat)
 case atStart=>exact⟨0,0,by omega,rfl,rfl,by simp,hk,rfl⟩
 case round=>
  obtain⟨j,m,hj,rfl,rfl,hm,Ae,hu⟩:=hrel
  by_cases hj4:j<4
  ·obtain⟨Aj,Aa⟩:=OW hj4 hm
   obtain⟨i,hi⟩:∃i,4-j=i+1:=⟨3-j,by omega⟩;rw[hi] at hu
   cases hr:(bs s).drop (k+j) with
   |nil=>
    rw[hr,gY] at hu;have HU:=Hh hu;have hz:=gB Ae hr;have Ak:s.size<=k+j:=by omega
    clear hu hr hi Aa hm hz;go_wp2;go_ret2
    exact⟨AX (by rw[<-HU.out];rfl) (by rw[<-HU.out];rfl),rfl⟩
   |cons c r=>
    obtain⟨Ac,Ad⟩:=gK hr;rw[ax] at Ad;have HR:=Hh (show (bs s).drop (k+(j+1))=r from Ac);have hc:c<256:=fI c (List.mem_of_mem_drop (by rw[hr];simp));obtain⟨Ai,Ah⟩:=mF hr;have Ag:(0:Int)<=(k:Int)+(j:Int)/\(k:Int)+(j:Int)<(s.size:Int):=by omega
    rw[hr] at hu;simp only[gY] at hu;clear Ac
    cases hx:mI c with
    |none=>
     rw[hx] at hu;have HU:=Hh hu;have hH:=fun W=>Im c W hc hx;clear hu hr Aa hm hi hx;go_wp2_with fail;refine (hH _).mono ?_;rintro e w1 ⟨rfl,rfl⟩;go_wp2;go_ret2
     exact⟨AX (by rw[<-HU.out];rfl) (by rw[<-HU.out];rfl),rfl⟩
    |some d=>
     rw[hx] at hu;have HU:=Hh hu;have hH:=fun W=>Il c d W hc hx
     have Ab:d<16:=by
      unfold mI at hx;repeat' (split at hx)
      all_goals first|(cases hx;omega)|cases hx
     have Af:=Hh (Aa d Ab);have HI:=Hh hi;clear hu hr Aa hm hi hx;go_wp2_with fail;refine (hH _).mono ?_;rintro e w1 ⟨rfl,rfl⟩;go_wp2;go_round
     case rel=>exact⟨j+1,m*16+d,by omega,by go_num,by go_num,Af.out,by omega,by rw[show 4-(j+1)=i by have:=HI.out;omega,HR.out];exact HU.out⟩
     case measure=>simp[intOf];omega
  ·obtain rfl:j=4:=by omega
   simp only[Nat.sub_self,gY] at hu;have HU:=Hh hu;clear hu hm;go_wp2;go_ret2
   exact⟨AX (by rw[<-HU.out]) (by rw[<-HU.out];rfl),rfl⟩
theorem I8{k n:Nat}(h:k+6<n)(hn:n<=1048576):IntKind.i64.wrap ((k:Int)+6)=(k:Int)+6/\(0<=(k:Int)+6/\(k:Int)+6<(n:Int))/\((k:Int)+6).toNat=k+6:=
 ⟨IntWalk.i64_in _ (by omega),by omega,by omega⟩
theorem M3{k n:Nat}(h:k+6+1<n)(hn:n<=1048576):IntKind.i64.wrap ((k:Int)+6+1)=(k:Int)+6+1/\(0<=(k:Int)+6+1/\(k:Int)+6+1<(n:Int))/\((k:Int)+6+1).toNat=k+6+1:=
 ⟨IntWalk.i64_in _ (by omega),by omega,by omega⟩
def bQ(q:nR):Value:=.agg #[.string (bf (un q.1)),.int .i64 (q.2.1:Int),.int .i64 (q.2.2:Int)]
theorem ES(s:ByteArray)(k:Nat)(w:World)(hk:k+2<=s.size)(hs:s.size<=1048576) :
  Calls Tryz.prog 148 #[.string s,.int .i64 (k:Int)] w fun e w'=>e=.returned (bQ (aN ((bs s).drop (k+2))))/\Below w.heap.size w w':=by
 have h4:=fun W=>zx s (k+2) W hk (by omega);obtain⟨r,hr⟩:=exq ((bs s).drop (k+2));rw[<-hr] at h4 ⊢;simp only[Int.natCast_add,Int.cast_ofNat_Int] at h4
 by_cases hu:(aJ r).2=0
 ·obtain⟨Aj,Ar⟩:=jl hu
  obtain⟨n,hn⟩:=exq ((aJ r).1);have At:k+6<=s.size:=by rw[hr] at Aj;simp[ax] at Aj;omega
  rw[<-hn] at Ar h4;rw[hu] at h4;simp only[Int.cast_ofNat_Int] at h4
  by_cases h1:56320<=n/\n<=57343
  ·have HC:Hid (aN r=aD 3):=Hh (by unfold aN;rw[if_neg (by simp[hu]),if_pos (by rw[<-hn];exact h1)])
   have b1:decide ((56320:Int)<=(n:Int))=true:=by simp;omega
   have b2:decide ((n:Int)<=57343)=true:=by simp;omega
   clear hu hn hr Aj h1 Ar;go_enter Tryz.func148,Tryz.ntmps148;go_wp2_with fail;refine (h4 _).mono ?_;rintro e w1 ⟨rfl,rfl⟩;go_wp2;refine bodyPost_ret (v:=bQ (aD 3)) (by simp[results,Tryz.results148,go_sem,bQ,aD,un,bf]) rfl ⟨by rw[HC.out],?_⟩
   (with_reducible repeat' first|refine Below.setCell ?_ ?_ _|refine Below.alloc ?_ ?_ _|refine Below.drew ?_|refine ah ?_ _|assumption|exact Below.refl _ _|(simp only[World.size_alloc,World.size_setCell,World.size_drew];first|done|omega)|omega)
  ·by_cases h2:n<55296\/57343<n
   ·have HC:Hid (aN r=(fM n,6,0)):=Hh (by unfold aN;rw[if_neg (by simp[hu]),if_neg (by rw[<-hn];exact h1),if_pos (by rw[<-hn];exact h2),<-hn])
    have Ai:kE (n:Int)=true:=by rw[fo,dm];omega
    have hP:=fun W=>wV (n:Int) W;unfold sJ at hP;rw[if_pos Ai,Int.toNat_natCast] at hP
    have A1:(decide ((56320:Int)<=(n:Int))=false/\decide ((n:Int)<55296)=true)\/(decide ((56320:Int)<=(n:Int))=true/\decide ((n:Int)<=57343)=false/\decide ((n:Int)<55296)=false/\decide ((57343:Int)<(n:Int))=true):=by
     rcases h2 with h2|h2
     ·exact .inl ⟨by simp;omega,by simp;omega⟩
     ·exact .inr ⟨by simp;omega,by simp;omega,by simp;omega,by simp;omega⟩
    clear hu hn hr Aj h2 Ar Ai h1;obtain⟨S,hS⟩:=exq (bf (gm n));rw[<-hS] at hP;have HS:=Hh hS;clear hS;rcases A1 with ⟨b1,b2⟩|⟨b1,b2,b3,b4⟩
    all_goals
     go_enter Tryz.func148,Tryz.ntmps148;go_wp2_with fail;refine (h4 _).mono ?_;rintro e w1 ⟨rfl,rfl⟩;go_wp2_with fail;refine (hP _).mono ?_;rintro e w2 ⟨rfl,hb2⟩;have Ax:=hb2.size;simp only[World.size_alloc] at Ax;have Aw:=(ae.new w #[.string ⟨#[]⟩,.int .i64 0,.int .i64 0] 126).below hb2 (by simp);obtain⟨Ak,An,Al,Ao,Am,Ap⟩:=Aw.n3 rfl;have A2:Below w.heap.size w w2:=((Below.refl _ w).alloc lz _).trans (hb2.mono (by simp));go_wp2;refine bodyPost_ret (v:=.agg #[.string S,.int .i64 6,.int .i64 0]) (by simp[results,Tryz.results148,go_sem, *]) rfl ⟨by rw[HC.out,HS.out];rfl,?_⟩
     (with_reducible repeat' first|refine Below.setCell ?_ ?_ _|refine Below.alloc ?_ ?_ _|refine Below.drew ?_|refine ah ?_ _|assumption|exact Below.refl _ _|(simp only[World.size_alloc,World.size_setCell,World.size_drew];first|done|omega)|omega)
   ·have Ag:Hid (aN r=iR n (r.drop 4)):=Hh (by unfold aN;rw[if_neg (by simp[hu]),if_neg (by rw[<-hn];exact h1),if_neg (by rw[<-hn];exact h2),<-hn])
    have Af:r.drop 4=(bs s).drop (k+6):=by rw[hr,List.drop_drop]
    have Aq:55296<=n/\n<=56319:=by omega
    have b1:decide ((56320:Int)<=(n:Int))=false:=by simp;omega
    have b2:decide ((n:Int)<55296)=false:=by simp;omega
    have b3:decide ((57343:Int)<(n:Int))=false:=by simp;omega
    have A0:=Hh Aq;have HR:=Hh hr;clear hu hn Aj h1 h2 Ar hr Aq
    cases hq:(bs s).drop (k+6) with
    |nil=>
     have HC:Hid (aN r=aD 2):=Hh (by rw[Ag.out,Af,hq];rfl);have hz:=gB At hq;have A9:s.size<=k+6:=by omega
     clear hq Af hz;go_enter Tryz.func148,Tryz.ntmps148;go_wp2_with fail;refine (h4 _).mono ?_;rintro e w1 ⟨rfl,rfl⟩;go_wp2_with fail;clear b1 b2 b3 h4;refine wp_loop_rounds 1 ?_;rw[rounds_succ];go_wp2;refine bodyPost_ret (v:=bQ (aD 2)) (by simp[results,Tryz.results148,go_sem,bQ,aD,un,bf]) rfl ⟨by rw[HC.out],?_⟩
     (with_reducible repeat' first|refine Below.setCell ?_ ?_ _|refine Below.alloc ?_ ?_ _|refine Below.drew ?_|refine ah ?_ _|assumption|exact Below.refl _ _|(simp only[World.size_alloc,World.size_setCell,World.size_drew];first|done|omega)|omega)
    |cons c t=>
     obtain⟨A7,AC⟩:=mF hq;have hc:c<256:=fI c (List.mem_of_mem_drop (by rw[hq];simp));have Aa:k+6<s.size:=A7
     by_cases hc92:c=92
     ·subst hc92
      obtain⟨hd,A5⟩:=gK hq;rw[ax] at A5;have Ad:r.drop 4=92::t:=by rw[Af,hq]
      cases ht:t with
      |nil=>
       have HC:Hid (aN r=aD 2):=Hh (by rw[Ag.out,Ad,ht];rfl);have hz:=gB (show k+6+1<=s.size by omega) (by rw[<-ht];exact hd);have A9:s.size<=k+6+1:=by omega
       clear hq Af Ad ht hd hz;go_enter Tryz.func148,Tryz.ntmps148;go_wp2_with fail;refine (h4 _).mono ?_;rintro e w1 ⟨rfl,rfl⟩;go_wp2_with fail;clear b1 b2 b3 h4;refine wp_loop_rounds 2 ?_;rw[rounds_succ];go_wp2_with fail;obtain⟨g1,g2,g3⟩:=I8 Aa hs;go_region
       clear g1 g2 g3;go_wp2_with fail;rw[rounds_succ];go_wp2;refine bodyPost_ret (v:=bQ (aD 2)) (by simp[results,Tryz.results148,go_sem,bQ,aD,un,bf]) rfl ⟨by rw[HC.out],?_⟩
       (with_reducible repeat' first|refine Below.setCell ?_ ?_ _|refine Below.alloc ?_ ?_ _|refine Below.drew ?_|refine ah ?_ _|assumption|exact Below.refl _ _|(simp only[World.size_alloc,World.size_setCell,World.size_drew];first|done|omega)|omega)
      |cons d u=>
       subst ht;obtain⟨Au,A4⟩:=mF hd;have AD:d<256:=fI d (List.mem_of_mem_drop (by rw[hd];simp));obtain⟨he,A6⟩:=gK hd;rw[ax] at A6;have Ab:k+6+1<s.size:=Au
       by_cases hd117:d=117
       ·subst hd117
        have hF:=fun W=>zx s (k+8) W (by omega) (by omega);rw[show (bs s).drop (k+8)=u from he] at hF;simp only[Int.natCast_add,Int.cast_ofNat_Int] at hF;clear hq Af he hd;obtain⟨x,hx⟩:=exq (aJ u);rw[<-hx] at hF;obtain⟨m,x2⟩:=x;simp only at hF
        by_cases hm:x2=0
        ·subst hm
         have Ae:(aJ u).2=0:=by rw[<-hx]
         obtain⟨Ay,Av⟩:=jl Ae;have Ah:m=(aJ u).1:=by rw[<-hx]
         rw[<-Ah] at Av
         by_cases hlow:m<56320\/57343<m
         ·have HC:Hid (aN r=aD 3):=Hh (by rw[Ag.out,Ad];simp only[iR];rw[if_neg (by simp),if_neg (by simp),if_neg (by simp[Ae]),if_pos (by rw[<-Ah];exact hlow)])
          have Ac:(decide ((m:Int)<56320)=true)\/(decide ((m:Int)<56320)=false/\decide ((57343:Int)<(m:Int))=true):=by
           rcases hlow with hlow|hlow
           ·exact .inl (by simp;omega)
           ·exact .inr ⟨by simp;omega,by simp;omega⟩
          have As:=Hh Ac;clear Ad Ae Ah hlow Ac Av Ay hx;go_enter Tryz.func148,Tryz.ntmps148;go_wp2_with fail;refine (h4 _).mono ?_;rintro e w1 ⟨rfl,rfl⟩;go_wp2_with fail;clear b1 b2 b3 h4;refine wp_loop_rounds 3 ?_;rw[rounds_succ];go_wp2_with fail;obtain⟨g1,g2,g3⟩:=I8 Aa hs;go_region
          clear g1 g2 g3;go_wp2_with fail;rw[rounds_succ];go_wp2_with fail;obtain⟨g1,g2,g3⟩:=M3 Ab hs;go_region
          clear g1 g2 g3;go_wp2_with fail;rw[rounds_succ];go_wp2_with fail;refine (hF _).mono ?_;rintro e w2 ⟨rfl,rfl⟩;clear hF;rcases As.out with hlow|⟨hlow,Ac⟩
          all_goals
           go_wp2;refine bodyPost_ret (v:=bQ (aD 3)) (by simp[results,Tryz.results148,go_sem,bQ,aD,un,bf]) rfl ⟨by rw[HC.out],?_⟩
           (with_reducible repeat' first|refine Below.setCell ?_ ?_ _|refine Below.alloc ?_ ?_ _|refine Below.drew ?_|refine ah ?_ _|assumption|exact Below.refl _ _|(simp only[World.size_alloc,World.size_setCell,World.size_drew];first|done|omega)|omega)
         ·obtain⟨x,Az⟩:=exq (65536+(n-55296)*1024+(m-56320))
          have HC:Hid (aN r=(fM x,12,0)):=Hh (by rw[Ag.out,Ad];simp only[iR];rw[if_neg (by simp),if_neg (by simp),if_neg (by simp[Ae]),if_neg (by rw[<-Ah];exact hlow),Az,Ah]);have Aq:=A0.out;have Ai:kE (x:Int)=true:=by rw[fo,dm];omega
          have hP:=fun W=>wV (x:Int) W;unfold sJ at hP;rw[if_pos Ai,Int.toNat_natCast] at hP;obtain⟨S,hS⟩:=exq (bf (gm x));rw[<-hS] at hP;have HS:=Hh hS;have E1:=Jh (show (0:Int)<=(n:Int)-55296/\(n:Int)-55296<=1023 by omega) (And.intro (show (0:Int)<=(m:Int)/\(m:Int)<=65535 by omega) (show (65536:Int)+((n:Int)-55296)*1024+(m:Int)-56320=(x:Int) by omega));have HD:=Jh (show decide ((m:Int)<56320)=false by simp;omega) (show decide ((57343:Int)<(m:Int))=false by simp;omega);clear Ad Ae Ah hlow Av Ay hx Az hS Ai Aq;go_enter Tryz.func148,Tryz.ntmps148;go_wp2_with fail;refine (h4 _).mono ?_;rintro e w1 ⟨rfl,rfl⟩;go_wp2_with fail;clear b1 b2 b3 h4;refine wp_loop_rounds 3 ?_;rw[rounds_succ];go_wp2_with fail;obtain⟨g1,g2,g3⟩:=I8 Aa hs;go_region
          clear g1 g2 g3;go_wp2_with fail;rw[rounds_succ];go_wp2_with fail;obtain⟨g1,g2,g3⟩:=M3 Ab hs;go_region
          clear g1 g2 g3;go_wp2_with fail;rw[rounds_succ];go_wp2_with fail;refine (hF _).mono ?_;rintro e w2 ⟨rfl,rfl⟩;clear hF;obtain⟨d1,d2⟩:=HD.out;obtain⟨e1,e2,A8⟩:=E1.out;go_wp2_with fail;refine (hP _).mono ?_;rintro e w2 ⟨rfl,hb2⟩;clear d1 d2 e1 e2 A8 hP;have Ax:=hb2.size;simp only[World.size_alloc,World.size_drew] at Ax;have Aw:=((((ae.new w #[.string ⟨#[]⟩,.int .i64 0,.int .i64 0] 126).alloc (.cells #[.int .u8 92,.int .u8 117] 5)).drew.alloc (.cells #[.int .u8 92,.int .u8 117] 5)).drew).below hb2 (by simp;omega);obtain⟨Ak,An,Al,Ao,Am,Ap⟩:=Aw.n3 rfl;have A2:Below w.heap.size w w2:=((((((Below.refl _ w).alloc lz _).alloc (by simp) _).drew).alloc (by simp;omega) _).drew).trans (hb2.mono (by simp;omega));go_wp2;refine bodyPost_ret (v:=.agg #[.string S,.int .i64 12,.int .i64 0]) (by simp[results,Tryz.results148,go_sem, *]) rfl ⟨by rw[HC.out,HS.out];rfl,?_⟩
          (with_reducible repeat' first|refine Below.setCell ?_ ?_ _|refine Below.alloc ?_ ?_ _|refine Below.drew ?_|refine ah ?_ _|assumption|exact Below.refl _ _|(simp only[World.size_alloc,World.size_setCell,World.size_drew];first|done|omega)|omega)
        ·have Ae:(aJ u).2≠0:=by rw[<-hx];exact hm
         have HC:Hid (aN r=aD x2):=Hh (by rw[Ag.out,Ad];simp only[iR];rw[if_neg (by simp),if_neg (by simp),if_pos Ae,<-hx]);have A3:((x2:Int) != 0)=true:=by rw[bne_iff_ne];omega
         clear Ad Ae hm hx;go_enter Tryz.func148,Tryz.ntmps148;go_wp2_with fail;refine (h4 _).mono ?_;rintro e w1 ⟨rfl,rfl⟩;go_wp2_with fail;clear b1 b2 b3 h4;refine wp_loop_rounds 3 ?_;rw[rounds_succ];go_wp2_with fail;obtain⟨g1,g2,g3⟩:=I8 Aa hs;go_region
         clear g1 g2 g3;go_wp2_with fail;rw[rounds_succ];go_wp2_with fail;obtain⟨g1,g2,g3⟩:=M3 Ab hs;go_region
         clear g1 g2 g3;go_wp2_with fail;rw[rounds_succ];go_wp2_with fail;refine (hF _).mono ?_;rintro e w2 ⟨rfl,rfl⟩;go_wp2;refine bodyPost_ret (v:=bQ (aD x2)) (by simp[results,Tryz.results148,go_sem,bQ,aD,un,bf]) rfl ⟨by rw[HC.out],?_⟩
         (with_reducible repeat' first|refine Below.setCell ?_ ?_ _|refine Below.alloc ?_ ?_ _|refine Below.drew ?_|refine ah ?_ _|assumption|exact Below.refl _ _|(simp only[World.size_alloc,World.size_setCell,World.size_drew];first|done|omega)|omega)
       ·have HC:Hid (aN r=aD 3):=Hh (by rw[Ag.out,Ad];simp only[iR];rw[if_neg (by simp),if_pos (by simpa using hd117)])
        have AB:((d:Int) != 117)=true:=by rw[bne_iff_ne];omega
        clear hq Af Ad hd he hd117;go_enter Tryz.func148,Tryz.ntmps148;go_wp2_with fail;refine (h4 _).mono ?_;rintro e w1 ⟨rfl,rfl⟩;go_wp2_with fail;clear b1 b2 b3 h4;refine wp_loop_rounds 2 ?_;rw[rounds_succ];go_wp2_with fail;obtain⟨g1,g2,g3⟩:=I8 Aa hs;go_region
        clear g1 g2 g3;go_wp2_with fail;rw[rounds_succ];go_wp2_with fail;obtain⟨g1,g2,g3⟩:=M3 Ab hs;go_region
        clear g1 g2 g3;go_wp2;refine bodyPost_ret (v:=bQ (aD 3)) (by simp[results,Tryz.results148,go_sem,bQ,aD,un,bf]) rfl ⟨by rw[HC.out],?_⟩
        (with_reducible repeat' first|refine Below.setCell ?_ ?_ _|refine Below.alloc ?_ ?_ _|refine Below.drew ?_|refine ah ?_ _|assumption|exact Below.refl _ _|(simp only[World.size_alloc,World.size_setCell,World.size_drew];first|done|omega)|omega)
     ·have HC:Hid (aN r=aD 3):=Hh (by rw[Ag.out,Af,hq];simp only[iR];rw[if_pos (by simpa using hc92)])
      have AA:((c:Int) != 92)=true:=by rw[bne_iff_ne];omega
      clear hq Af hc92;go_enter Tryz.func148,Tryz.ntmps148;go_wp2_with fail;refine (h4 _).mono ?_;rintro e w1 ⟨rfl,rfl⟩;go_wp2_with fail;clear b1 b2 b3 h4;refine wp_loop_rounds 1 ?_;rw[rounds_succ];go_wp2_with fail;obtain⟨g1,g2,g3⟩:=I8 Aa hs;go_region
      clear g1 g2 g3;go_wp2;refine bodyPost_ret (v:=bQ (aD 3)) (by simp[results,Tryz.results148,go_sem,bQ,aD,un,bf]) rfl ⟨by rw[HC.out],?_⟩
      (with_reducible repeat' first|refine Below.setCell ?_ ?_ _|refine Below.alloc ?_ ?_ _|refine Below.drew ?_|refine ah ?_ _|assumption|exact Below.refl _ _|(simp only[World.size_alloc,World.size_setCell,World.size_drew];first|done|omega)|omega)
 ·have HC:Hid (aN r=aD (aJ r).2):=Hh (by unfold aN;rw[if_pos (by simpa using hu)])
  obtain⟨x,hx⟩:=exq (aJ r);rw[<-hx] at h4 hu HC;obtain⟨x1,x2⟩:=x;simp only at h4 hu HC;have A3:((x2:Int) != 0)=true:=by rw[bne_iff_ne];omega
  have HR:=Hh hr;clear hu hx hr;go_enter Tryz.func148,Tryz.ntmps148;go_wp2_with fail;refine (h4 _).mono ?_;rintro e w1 ⟨rfl,rfl⟩;go_wp2;refine bodyPost_ret (v:=bQ (aD x2)) (by simp[results,Tryz.results148,go_sem,bQ,aD,un,bf]) rfl ⟨by rw[HC.out],?_⟩
  (with_reducible repeat' first|refine Below.setCell ?_ ?_ _|refine Below.alloc ?_ ?_ _|refine Below.drew ?_|refine ah ?_ _|assumption|exact Below.refl _ _|(simp only[World.size_alloc,World.size_setCell,World.size_drew];first|done|omega)|omega)
theorem O5{l:List Nat}(h:vI l):bs (bf (un l))=l:=by
 rw[yw];unfold un;rw[List.map_map]
 conv=>rhs;rw[<-List.map_id l]
 refine List.map_congr_left fun x hx=>?_;have:=h x hx;simp only[Function.comp,UInt8.toNat_ofNat',id];omega
theorem GM(s:ByteArray)(a b:Nat):s.extract a b=bf (un (((bs s).drop a).take (b-a))):=by
 refine FR ?_;rw[O5 (fun x hx=>fI x (List.mem_of_mem_drop (List.mem_of_mem_take hx)))];rw[rW,List.drop_take]
theorem Ih(s:ByteArray)(k:Nat)(w:World)(hk:k<=s.size)(hs:s.size<=1048576) :
  Calls Tryz.prog 119 #[.string s,.int .i64 (k:Int)] w fun e w'=>e=.returned (bQ (av ((bs s).drop k)))/\Below w.heap.size w w':=by
 cases hq:(bs s).drop k with
 |nil=>
  have HC:Hid (av []=aD 2):=Hh rfl;have hz:=gB hk hq;have Aw:s.size<=k:=by omega
  clear hq hz;go_enter Tryz.func119,Tryz.ntmps119;go_wp2;refine bodyPost_ret (v:=bQ (aD 2)) (by simp[results,Tryz.results119,go_sem,bQ,aD,un,bf]) rfl ⟨by rw[HC.out],?_⟩
  (with_reducible repeat' first|refine Below.setCell ?_ ?_ _|refine Below.alloc ?_ ?_ _|refine Below.drew ?_|refine ah ?_ _|assumption|exact Below.refl _ _|(simp only[World.size_alloc,World.size_setCell,World.size_drew];first|done|omega)|omega)
 |cons c r=>
  obtain⟨Au,Az⟩:=mF hq;have Av:k<s.size:=Au;have hc:c<256:=fI c (List.mem_of_mem_drop (by rw[hq];simp))
  by_cases h32:c<32
  ·have HC:Hid (av (c::r)=aD 3):=Hh (by simp[av,h32])
   clear hq;go_enter Tryz.func119,Tryz.ntmps119;go_wp2;refine bodyPost_ret (v:=bQ (aD 3)) (by simp[results,Tryz.results119,go_sem,bQ,aD,un,bf]) rfl ⟨by rw[HC.out],?_⟩
   (with_reducible repeat' first|refine Below.setCell ?_ ?_ _|refine Below.alloc ?_ ?_ _|refine Below.drew ?_|refine ah ?_ _|assumption|exact Below.refl _ _|(simp only[World.size_alloc,World.size_setCell,World.size_drew];first|done|omega)|omega)
  have Am:32<=c:=by omega
  by_cases h92:c=92
  ·subst h92
   obtain⟨Ah,At⟩:=gK hq;rw[ax] at At;clear h32 Am
   cases ht:r with
   |nil=>
    have HC:Hid (av [92]=aD 2):=Hh rfl;have hz:=gB (show k+1<=s.size by omega) (by rw[<-ht];exact Ah);have Aw:s.size<=k+1:=by omega
    clear hq Ah hz ht;go_enter Tryz.func119,Tryz.ntmps119;go_wp2;refine bodyPost_ret (v:=bQ (aD 2)) (by simp[results,Tryz.results119,go_sem,bQ,aD,un,bf]) rfl ⟨by rw[HC.out],?_⟩
    (with_reducible repeat' first|refine Below.setCell ?_ ?_ _|refine Below.alloc ?_ ?_ _|refine Below.drew ?_|refine ah ?_ _|assumption|exact Below.refl _ _|(simp only[World.size_alloc,World.size_setCell,World.size_drew];first|done|omega)|omega)
   |cons d u=>
    subst ht;obtain⟨An,As⟩:=mF Ah;have Aq:k+1<s.size:=An;have A0:d<256:=fI d (List.mem_of_mem_drop (by rw[Ah];simp));have Ai:=fun W=>ES s k W (by omega) hs;rw[show (bs s).drop (k+2)=u from (gK Ah).1] at Ai;have Ax:(0:Int)<=(k:Int)+1/\(k:Int)+1<(s.size:Int):=by omega
    obtain⟨L,hL⟩:=exq (92::d::u);rw[<-hL];have hx:s.extract (k+1) (k+2)=bf (un [d]):=by rw[GM,show k+2-(k+1)=1 by omega,Ah];rfl
    have HX:=Hh hx;clear hq Ah hx
    by_cases hc34:d=34
    ·subst hc34
     have HC:Hid (av L=([34],2,0)):=Hh (by rw[hL];rfl);clear hL;go_enter Tryz.func119,Tryz.ntmps119;go_wp2;refine bodyPost_ret (v:=.agg #[.string (s.extract (k+1) (k+2)),.int .i64 2,.int .i64 0]) (by simp[results,Tryz.results119,go_sem]) rfl ⟨by rw[HC.out,HX.out];rfl,?_⟩
     (with_reducible repeat' first|refine Below.setCell ?_ ?_ _|refine Below.alloc ?_ ?_ _|refine Below.drew ?_|refine ah ?_ _|assumption|exact Below.refl _ _|(simp only[World.size_alloc,World.size_setCell,World.size_drew];first|done|omega)|omega)
    by_cases hc92:d=92
    ·subst hc92
     have HC:Hid (av L=([92],2,0)):=Hh (by rw[hL];rfl);clear hL;go_enter Tryz.func119,Tryz.ntmps119;go_wp2;refine bodyPost_ret (v:=.agg #[.string (s.extract (k+1) (k+2)),.int .i64 2,.int .i64 0]) (by simp[results,Tryz.results119,go_sem]) rfl ⟨by rw[HC.out,HX.out];rfl,?_⟩
     (with_reducible repeat' first|refine Below.setCell ?_ ?_ _|refine Below.alloc ?_ ?_ _|refine Below.drew ?_|refine ah ?_ _|assumption|exact Below.refl _ _|(simp only[World.size_alloc,World.size_setCell,World.size_drew];first|done|omega)|omega)
    by_cases hc47:d=47
    ·subst hc47
     have HC:Hid (av L=([47],2,0)):=Hh (by rw[hL];rfl);clear hL;go_enter Tryz.func119,Tryz.ntmps119;go_wp2;refine bodyPost_ret (v:=.agg #[.string (s.extract (k+1) (k+2)),.int .i64 2,.int .i64 0]) (by simp[results,Tryz.results119,go_sem]) rfl ⟨by rw[HC.out,HX.out];rfl,?_⟩
     (with_reducible repeat' first|refine Below.setCell ?_ ?_ _|refine Below.alloc ?_ ?_ _|refine Below.drew ?_|refine ah ?_ _|assumption|exact Below.refl _ _|(simp only[World.size_alloc,World.size_setCell,World.size_drew];first|done|omega)|omega)
    by_cases hc98:d=98
    ·subst hc98
     have HC:Hid (av L=([8],2,0)):=Hh (by rw[hL];rfl);clear hL;go_enter Tryz.func119,Tryz.ntmps119;go_wp2;refine bodyPost_ret (v:=bQ ([8],2,0)) (by simp[results,Tryz.results119,go_sem,bQ,aD,un,bf]) rfl ⟨by rw[HC.out],?_⟩
     (with_reducible repeat' first|refine Below.setCell ?_ ?_ _|refine Below.alloc ?_ ?_ _|refine Below.drew ?_|refine ah ?_ _|assumption|exact Below.refl _ _|(simp only[World.size_alloc,World.size_setCell,World.size_drew];first|done|omega)|omega)
    by_cases hc102:d=102
    ·subst hc102
     have HC:Hid (av L=([12],2,0)):=Hh (by rw[hL];rfl);clear hL;go_enter Tryz.func119,Tryz.ntmps119;go_wp2;refine bodyPost_ret (v:=bQ ([12],2,0)) (by simp[results,Tryz.results119,go_sem,bQ,aD,un,bf]) rfl ⟨by rw[HC.out],?_⟩
     (with_reducible repeat' first|refine Below.setCell ?_ ?_ _|refine Below.alloc ?_ ?_ _|refine Below.drew ?_|refine ah ?_ _|assumption|exact Below.refl _ _|(simp only[World.size_alloc,World.size_setCell,World.size_drew];first|done|omega)|omega)
    by_cases hc110:d=110
    ·subst hc110
     have HC:Hid (av L=([10],2,0)):=Hh (by rw[hL];rfl);clear hL;go_enter Tryz.func119,Tryz.ntmps119;go_wp2;refine bodyPost_ret (v:=bQ ([10],2,0)) (by simp[results,Tryz.results119,go_sem,bQ,aD,un,bf]) rfl ⟨by rw[HC.out],?_⟩
     (with_reducible repeat' first|refine Below.setCell ?_ ?_ _|refine Below.alloc ?_ ?_ _|refine Below.drew ?_|refine ah ?_ _|assumption|exact Below.refl _ _|(simp only[World.size_alloc,World.size_setCell,World.size_drew];first|done|omega)|omega)
    by_cases hc114:d=114
    ·subst hc114
     have HC:Hid (av L=([13],2,0)):=Hh (by rw[hL];rfl);clear hL;go_enter Tryz.func119,Tryz.ntmps119;go_wp2;refine bodyPost_ret (v:=bQ ([13],2,0)) (by simp[results,Tryz.results119,go_sem,bQ,aD,un,bf]) rfl ⟨by rw[HC.out],?_⟩
     (with_reducible repeat' first|refine Below.setCell ?_ ?_ _|refine Below.alloc ?_ ?_ _|refine Below.drew ?_|refine ah ?_ _|assumption|exact Below.refl _ _|(simp only[World.size_alloc,World.size_setCell,World.size_drew];first|done|omega)|omega)
    by_cases hc116:d=116
    ·subst hc116
     have HC:Hid (av L=([9],2,0)):=Hh (by rw[hL];rfl);clear hL;go_enter Tryz.func119,Tryz.ntmps119;go_wp2;refine bodyPost_ret (v:=bQ ([9],2,0)) (by simp[results,Tryz.results119,go_sem,bQ,aD,un,bf]) rfl ⟨by rw[HC.out],?_⟩
     (with_reducible repeat' first|refine Below.setCell ?_ ?_ _|refine Below.alloc ?_ ?_ _|refine Below.drew ?_|refine ah ?_ _|assumption|exact Below.refl _ _|(simp only[World.size_alloc,World.size_setCell,World.size_drew];first|done|omega)|omega)
    have Ao:yf d=none:=by
     unfold yf;rw[if_neg (by omega),if_neg hc98,if_neg hc102,if_neg hc110,if_neg hc114,if_neg hc116]
    by_cases hc117:d=117
    ·subst hc117
     have HC:Hid (av L=aN u):=Hh (by rw[hL];rfl);unfold bQ at Ai;obtain⟨q,hq⟩:=exq (aN u);rw[<-hq] at Ai HC;obtain⟨o,z,e⟩:=q;simp only at Ai;obtain⟨S,hS⟩:=exq (bf (un o));rw[<-hS] at Ai;have HS:=Hh hS;clear hL Ao hS hq hc34 hc92 hc47 hc98 hc102 hc110 hc114 hc116;go_enter Tryz.func119,Tryz.ntmps119;go_wp2_with fail;refine (Ai _).mono ?_;rintro e2 w2 ⟨rfl,hb2⟩;have Ak:=hb2.size;simp only[World.size_alloc] at Ak;have Aj:=(ae.new w #[.string ⟨#[]⟩,.int .i64 0,.int .i64 0] 126).below hb2 (by simp);obtain⟨Ab,Ae,Ac,Af,Ad,Ag⟩:=Aj.n3 rfl;have Ap:Below w.heap.size w w2:=((Below.refl _ w).alloc lz _).trans (hb2.mono (by simp));go_wp2;refine bodyPost_ret (v:=.agg #[.string S,.int .i64 z,.int .i64 e]) (by simp[results,Tryz.results119,go_sem, *]) rfl ⟨by rw[HC.out,HS.out];rfl,?_⟩
     (with_reducible repeat' first|refine Below.setCell ?_ ?_ _|refine Below.alloc ?_ ?_ _|refine Below.drew ?_|refine ah ?_ _|assumption|exact Below.refl _ _|(simp only[World.size_alloc,World.size_setCell,World.size_drew];first|done|omega)|omega)
    ·have HC:Hid (av L=aD 3):=Hh (by rw[hL];simp only[av,lW,Ao,if_neg hc117];rfl)
     have b1:((d:Int)==34)=false:=by rw[beq_eq_false_iff_ne];omega
     have b2:((d:Int)==92)=false:=by rw[beq_eq_false_iff_ne];omega
     have b3:((d:Int)==47)=false:=by rw[beq_eq_false_iff_ne];omega
     have b4:((d:Int)==98)=false:=by rw[beq_eq_false_iff_ne];omega
     have b5:((d:Int)==102)=false:=by rw[beq_eq_false_iff_ne];omega
     have b6:((d:Int)==110)=false:=by rw[beq_eq_false_iff_ne];omega
     have b7:((d:Int)==114)=false:=by rw[beq_eq_false_iff_ne];omega
     have b8:((d:Int)==116)=false:=by rw[beq_eq_false_iff_ne];omega
     have b9:((d:Int)==117)=false:=by rw[beq_eq_false_iff_ne];omega
     clear hL Ao hc34 hc92 hc47 hc98 hc102 hc110 hc114 hc116 hc117;go_enter Tryz.func119,Tryz.ntmps119;go_wp2;refine bodyPost_ret (v:=bQ (aD 3)) (by simp[results,Tryz.results119,go_sem,bQ,aD,un,bf]) rfl ⟨by rw[HC.out],?_⟩
     (with_reducible repeat' first|refine Below.setCell ?_ ?_ _|refine Below.alloc ?_ ?_ _|refine Below.drew ?_|refine ah ?_ _|assumption|exact Below.refl _ _|(simp only[World.size_alloc,World.size_setCell,World.size_drew];first|done|omega)|omega)
  ·have hO:=fun W=>G8 s k W (by omega) hk
   have Al:=ko ((bs s).drop k) (fun x hx=>fI x (List.mem_of_mem_drop hx));rw[List.length_drop,ax] at Al;have Ar:((c:Int) != 92)=true:=by rw[bne_iff_ne];omega
   have Aa:av (c::r)=if (aF (c::r)).2=0 then aD 7 else ((c::r).take (aF (c::r)).2,(aF (c::r)).2,0):=by
    simp only[av];rw[if_neg h32,if_neg h92]
   rw[<-hq] at Aa ⊢;obtain⟨L,hL⟩:=exq ((bs s).drop k);rw[<-hL] at Aa hO Al ⊢;obtain⟨o,ho⟩:=exq (aF L);rw[<-ho] at Aa hO Al;obtain⟨o1,n⟩:=o;simp only at Aa hO Al;have hx:s.extract k (k+n)=bf (un (L.take n)):=by rw[GM,show k+n-k=n by omega,hL]
   have HX:=Hh hx
   by_cases hn:n=0
   ·subst hn
    have HC:Hid (av L=aD 7):=Hh (by rw[Aa,if_pos rfl]);clear hq Aa hL ho hx h92 h32;go_enter Tryz.func119,Tryz.ntmps119;go_wp2_with fail;refine (hO _).mono ?_;rintro e2 w2 ⟨rfl,hb2⟩;have Ak:=hb2.size;simp only[World.size_alloc] at Ak;have Aj:=(ae.new w #[.string ⟨#[]⟩,.int .i64 0,.int .i64 0] 126).below hb2 (by simp);obtain⟨Ab,Ae,Ac,Af,Ad,Ag⟩:=Aj.n3 rfl;have Ap:Below w.heap.size w w2:=((Below.refl _ w).alloc lz _).trans (hb2.mono (by simp));go_wp2;refine bodyPost_ret (v:=bQ (aD 7)) (by simp[results,Tryz.results119,go_sem,bQ,aD,un,bf, *]) rfl ⟨by rw[HC.out],?_⟩
    (with_reducible repeat' first|refine Below.setCell ?_ ?_ _|refine Below.alloc ?_ ?_ _|refine Below.drew ?_|refine ah ?_ _|assumption|exact Below.refl _ _|(simp only[World.size_alloc,World.size_setCell,World.size_drew];first|done|omega)|omega)
   ·have HC:Hid (av L=(L.take n,n,0)):=Hh (by rw[Aa,if_neg hn])
    have Ay:((n:Int)==0)=false:=by rw[beq_eq_false_iff_ne];omega
    clear hq Aa hL ho hx h92 h32 hn;go_enter Tryz.func119,Tryz.ntmps119;go_wp2_with fail;refine (hO _).mono ?_;rintro e2 w2 ⟨rfl,hb2⟩;have Ak:=hb2.size;simp only[World.size_alloc] at Ak;have Aj:=(ae.new w #[.string ⟨#[]⟩,.int .i64 0,.int .i64 0] 126).below hb2 (by simp);obtain⟨Ab,Ae,Ac,Af,Ad,Ag⟩:=Aj.n3 rfl;have Ap:Below w.heap.size w w2:=((Below.refl _ w).alloc lz _).trans (hb2.mono (by simp));go_wp2;refine bodyPost_ret (v:=.agg #[.string (s.extract k (k+n)),.int .i64 n,.int .i64 0]) (by simp[results,Tryz.results119,go_sem, *]) rfl ⟨by rw[HC.out,HX.out];rfl,?_⟩
    (with_reducible repeat' first|refine Below.setCell ?_ ?_ _|refine Below.alloc ?_ ?_ _|refine Below.drew ?_|refine ah ?_ _|assumption|exact Below.refl _ _|(simp only[World.size_alloc,World.size_setCell,World.size_drew];first|done|omega)|omega)
theorem AC(a b:List UInt8):bf a++bf b=bf (a++b):=by
 refine FR ?_;simp[bs,bf]
theorem Es(a b:List Nat):bf (un a)++bf (un b)=bf (un (a++b)):=by rw[AC];simp[un]
theorem Er(l:List Nat):(un l).length=l.length:=by simp[un]
theorem rE(s:ByteArray)(w:World)(hs:s.size<=1048576) :
  Calls Tryz.prog 83 #[.string s] w fun e w'=>e=.returned (bQ (aV (bs s)))/\Below w.heap.size w w':=by
 cases hq:bs s with
 |nil=>
  have HC:Hid (aV []=aD 2):=Hh rfl;have hz:s.size=0:=by rw[<-ax,hq];rfl
  have hb:((s.size:Int)==0)=true:=by rw[beq_iff_eq];omega
  clear hq hz;go_enter Tryz.func83,Tryz.ntmps83;go_wp2;refine bodyPost_ret (v:=bQ (aD 2)) (by simp[results,Tryz.results83,go_sem,bQ,aD,un,bf, *]) rfl ⟨by rw[HC.out],?_⟩
  (with_reducible repeat' first|refine Below.setCell ?_ ?_ _|refine Below.alloc ?_ ?_ _|refine Below.drew ?_|refine ah ?_ _|assumption|exact Below.refl _ _|(simp only[World.size_alloc,World.size_setCell,World.size_drew];first|done|omega)|omega)
 |cons c r=>
  obtain⟨Aw,AA⟩:=mF (s:=s) (k:=0) (by rw[List.drop_zero];exact hq);have Ax:0<s.size:=Aw;have hc:c<256:=fI c (by rw[hq];simp);have A7:((s.size:Int)==0)=false:=by rw[beq_eq_false_iff_ne];omega
  by_cases hc34:c=34
  ·subst hc34
   have HQ:Hid (aV (bs s)=gQ [] 1 (bY ((bs s).drop 1))):=Hh (by rw[hq];rfl);rw[<-hq];have Al:=ae.new w #[.string ⟨#[]⟩,.int .i64 0,.int .i64 0] 126;have Ai:Below w.heap.size w (w.alloc (.cells #[.string ⟨#[]⟩,.int .i64 0,.int .i64 0] 126)):=(Below.refl _ w).alloc lz _;clear hq;go_enter Tryz.func83,Tryz.ntmps83;go_wp2_with fail;go_loopw [3,4] (fun sv at' wr=>∃(k:Nat) (pre:List Nat) (S:ByteArray),sv=.string S/\Hid (S=bf (un pre))/\S.size<=4*k/\at'=.int .i64 (k:Int)/\k<=s.size/\gQ pre k (bY ((bs s).drop k))=aV (bs s)/\ae wr w.heap.size #[.string ⟨#[]⟩,.int .i64 0,.int .i64 0] 126/\Below w.heap.size w wr) (fun _ at' _=>s.size-(intOf at').toNat)
   case atStart=>exact⟨1,[],_,rfl,Hh rfl,by decide,rfl,by omega,HQ.out.symm,Al,Ai⟩
   case round=>
    clear Al Ai HQ;obtain⟨k,pre,S,rfl,HS,A6,rfl,hk,hj,hx,hb⟩:=hrel;have HJ:=Hh hj;have Ac:vI ((bs s).drop k):=fun x hx=>fI x (List.mem_of_mem_drop hx);have hP:=fun W=>Ih s k W hk hs;have As:=hx.lt;clear hj
    by_cases hh:((bs s).drop k).head?=some 34
    ·have HC:Hid (aV (bs s)=(pre,k+1,0)):=Hh (by rw[<-HJ.out,zU Ac hh])
     obtain⟨t,ht⟩:∃t,(bs s).drop k=34::t:=by
      cases hd:(bs s).drop k with
      |nil=>rw[hd] at hh;simp at hh
      |cons a t=>rw[hd] at hh;simp at hh;subst hh;exact⟨t,rfl⟩
     obtain⟨Ab,Ad⟩:=mF ht;have Aj:k<s.size:=Ab;obtain⟨Ay,A1,Az,A2,A0,A3⟩:=hx.n3 rfl;clear hh ht Ac hP HJ;go_wp2;refine bodyPost_ret (v:=.agg #[.string S,.int .i64 ((k:Int)+1),.int .i64 0]) (by simp[results,Tryz.results83,go_sem,bQ,aD,un,bf, *]) rfl ⟨by rw[HC.out,HS.out];rfl,?_⟩
     (with_reducible repeat' first|refine Below.setCell ?_ ?_ _|refine Below.alloc ?_ ?_ _|refine Below.drew ?_|refine ah ?_ _|assumption|exact Below.refl _ _|(simp only[World.size_alloc,World.size_setCell,World.size_drew];first|done|omega)|omega)
    ·have Aa:¬k<s.size\/(∃(h:k<s.size),(((s[k]'h).toNat:Int)==34)=false):=by
      cases hd:(bs s).drop k with
      |nil=>exact .inl (by have:=gB hk hd;omega)
      |cons a t=>
       obtain⟨Ab,Ad⟩:=mF hd;refine .inr ⟨Ab,?_⟩;rw[Ad,beq_eq_false_iff_ne];intro e;exact hh (by rw[hd];simp;omega)
     have HN:=Hh (fun (he:(av ((bs s).drop k)).2.2=0)=>xR Ac hh he (pre:=pre) (k:=k));have HB:=Hh (fun (he:(av ((bs s).drop k)).2.2≠0)=>zV Ac hh he (pre:=pre) (k:=k));have HO:=Hh (fun (he:(av ((bs s).drop k)).2.2=0)=>ky Ac he);rw[List.length_drop,ax] at HO;rw[List.drop_drop] at HN;clear hh Ac;unfold bQ at hP;generalize av ((bs s).drop k)=q at *;obtain⟨o,z,e⟩:=q;simp only at hP HN HB HO;obtain⟨O,hO⟩:=exq (bf (un o));rw[<-hO] at hP;have Ag:=Hh hO;clear hO
     by_cases he:e=0
     ·subst he
      obtain⟨c0,-,Ak,AB,AC⟩:=HO.out rfl;have A5:O.size<=4:=by rw[Ag.out,lH,Er,Ak,wX];exact (pX c0).2
      clear Ak;have At:Hid (gQ (pre++o) (k+z) (bY ((bs s).drop (k+z)))=aV (bs s)):=Hh (by rw[<-HJ.out,HN.out rfl]);have Au:Hid (S++O=bf (un (pre++o))):=Hh (by rw[HS.out,Ag.out,Es]);clear HN HB HO HJ;rcases Aa with Aa|⟨Ab,Aa⟩
      ·omega
      ·go_wp2_with fail
       refine (hP _).mono ?_;rintro e2 w2 ⟨rfl,hb2⟩;have A4:=hb2.size;have Ae:=hx.below hb2 As;have Ah:=(hb.trans (hb2.mono hb.size)).alloc (by have:=hb.size;omega) (.cells #[.string O,.int .i64 z,.int .i64 0] 126);have Af:=Ae.alloc (.cells #[.string O,.int .i64 z,.int .i64 0] 126);clear hx hb hP;go_wp2;go_roundw
       case rel=>exact⟨k+z,pre++o,_,rfl,Au,by rw[ByteArray.size_append];omega,by go_num,by omega,At.out,Af,Ah⟩
       case measure=>simp[intOf];omega
     ·have HC:Hid (aV (bs s)=aD e):=Hh (by rw[<-HJ.out,HB.out he])
      have A9:((e:Int) != 0)=true:=by rw[bne_iff_ne];omega
      clear HN HB HO HJ he;rcases Aa with Aa|⟨Ab,Aa⟩
      all_goals
       go_wp2_with fail;refine (hP _).mono ?_;rintro e2 w2 ⟨rfl,hb2⟩;have A4:=hb2.size;have Ae:=hx.below hb2 As;have Ah:=(hb.trans (hb2.mono hb.size)).alloc (by have:=hb.size;omega) (.cells #[.string O,.int .i64 z,.int .i64 e] 126);have Af:=Ae.alloc (.cells #[.string O,.int .i64 z,.int .i64 e] 126);clear hx Ae;obtain⟨Am,Ap,An,Aq,Ao,Ar⟩:=Af.n3 rfl;have Av:=hb.trans (hb2.mono hb.size);clear hb hb2 hP;go_wp2;refine bodyPost_ret (v:=bQ (aD e)) (by simp[results,Tryz.results83,go_sem,bQ,aD,un,bf, *]) rfl ⟨by rw[HC.out],?_⟩
       (with_reducible repeat' first|refine Below.setCell ?_ ?_ _|refine Below.alloc ?_ ?_ _|refine Below.drew ?_|refine ah ?_ _|assumption|exact Below.refl _ _|(simp only[World.size_alloc,World.size_setCell,World.size_drew];first|done|omega)|omega)
  ·have HC:Hid (aV (c::r)=aD 3):=Hh (by simp only[aV];rw[if_pos hc34])
   have A8:((c:Int) != 34)=true:=by rw[bne_iff_ne];omega
   clear hq hc34;go_enter Tryz.func83,Tryz.ntmps83;go_wp2;refine bodyPost_ret (v:=bQ (aD 3)) (by simp[results,Tryz.results83,go_sem,bQ,aD,un,bf, *]) rfl ⟨by rw[HC.out],?_⟩
   (with_reducible repeat' first|refine Below.setCell ?_ ?_ _|refine Below.alloc ?_ ?_ _|refine Below.drew ?_|refine ah ?_ _|assumption|exact Below.refl _ _|(simp only[World.size_alloc,World.size_setCell,World.size_drew];first|done|omega)|omega)
end Go.Proofs.YtbcdaaobbebooaaGreatDoor
