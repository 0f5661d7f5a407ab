import Derived.Test.YtbcdaaobbebooaaGreatDoorKgo
import Derived.Test.YtbcdaaobbebooaaGreatDoorKgu
import Derived.Shelf.Vars
set_option linter.unusedSimpArgs false
set_option linter.unusedVariables false
set_option maxRecDepth 100000
set_option maxHeartbeats 20000000
namespace Go.Proofs.YtbcdaaobbebooaaGreatDoor
open Go.RowKit Go.Tab
theorem uj(w:World)(a b:Array Value)(T:TypeId):ae (((w.alloc (.cells a T)).alloc (.cells b T)).drew) w.heap.size a T/\ae (((w.alloc (.cells a T)).alloc (.cells b T)).drew) (w.heap.size+1) b T/\Below w.heap.size w (((w.alloc (.cells a T)).alloc (.cells b T)).drew):=by
 refine⟨((ae.new w a T).alloc _).drew,?_,((((Below.refl _ _).alloc lz _).alloc (by simp) _)).drew⟩;have h:=ae.new (w.alloc (.cells a T)) b T;simp only[World.size_alloc] at h;exact h.drew
theorem CO(n:Nat)(IH:∀(l m:List bA),qU l+1<=n->∀(w:World) (v u:Value),dU w v l->dU w u m->Calls Tryz.prog 25 #[v,u] w (nP (l=m) w))
  (l m:List bA) (hn:qU l<=n+1) (w:World) (v u:Value) (hv:dU w v l) (hu:dU w u m):Calls Tryz.prog 25 #[v,u] w (nP (l=m) w):=by
 obtain⟨a,Ck,rfl,Cl,BY,-⟩:=hv.len;obtain⟨a2,BS,rfl,Cm,BZ,-⟩:=hu.len;unfold maxLen at BY BZ
 by_cases hlen:l.length=m.length
 ·have hq:((l.length:Int) != (m.length:Int))=false:=by simp[hlen]
  obtain⟨p,hp⟩:=exq ((l=m));rw[<-hp];have HP:=Hh hp;have HL:=Hh hlen;have BR:=Hh IH;have HV:=Hh hv;have HU:=Hh hu;clear hp hlen IH hv hu;go_enter Tryz.func25,Tryz.ntmps25;go_wp2_with fail;go_loopw [5] (fun i wr=>∃k:Nat,k<=l.length/\i=.int .i64 (k:Int)/\(∀j (h1:j<l.length) (h2:j<m.length),j<k->l[j]=m[j])/\Below w.heap.size w wr) (fun i _=>l.length-(intOf i).toNat)
  case atStart=>exact⟨0,Nat.zero_le _,rfl,fun j _ _ h=>by omega,Below.refl _ _⟩
  case round=>
   obtain⟨k,hk,rfl,Bc,Aa⟩:=hrel;have Bh:=Hh Aa;have HA:=Hh Bc;clear Bc
   by_cases hkl:k<l.length
   ·have Bd:k<m.length:=by have:=HL.out;omega
    obtain⟨b,Co,cs,rfl,Cn,hc,hi⟩:=(HV.out.below Aa).get hkl;obtain⟨b2,Ce,ds,rfl,BX,hd,hj⟩:=(HU.out.below Aa).get Bd;have BN:=BR.out l[k].items m[k].items (by have:=Al hkl;omega)
    have HD:Hid (l[k]=m[k]->∀j (h1:j<l.length) (h2:j<m.length),j<k+1->l[j]=m[j]):=Hh (fun heq j h1 h2 h=>by
      by_cases hjk:j=k
      ·subst hjk;exact heq
      ·exact HA.out j h1 h2 (by omega))
    have HN:Hid (¬l[k]=m[k]->¬p):=Hh (fun h hp=>by rw[HP.out] at hp;exact M6 hkl Bd h hp);clear HA Aa;generalize l[k]=x at *;generalize m[k]=y at *;obtain⟨bl,nm,ve,ls,BO⟩:=x;obtain⟨Bj,BP,BQ,BI,Be⟩:=y;obtain⟨vo,vt,sa,sn,sc,la,lc,ia,ic,q0,q1,q2,q3,q4,q5,q6,q7,q8,q9⟩:=K5 hi hc;obtain⟨Ci,Cj,Cf,Ch,Cg,Cc,Cd,Ca,Cb,r0,r1,r2,r3,r4,r5,r6,r7,r8,r9⟩:=K5 hj hd;simp only[bA.items] at BN;clear hi hj hc hd;have HQ:=Jh (And.intro q7 (And.intro q8 q9)) (And.intro r7 (And.intro r8 r9));clear q7 q8 q9 r7 r8 r9;go_upto_region 6 with fail
    go_cut [6,7] (fun x y wc=>∃p6 p7:Nat,x=.pointer (some ⟨p6,0,none⟩)/\y=.pointer (some ⟨p7,0,none⟩)/\
     ae wc p6 #[.bool bl,.string nm,.string vo,.string vt,.slice sa sn sc,.slice la ls.length lc,.slice ia BO.length ic] 54/\
     ae wc p7 #[.bool Bj,.string BP,.string Ci,.string Cj,.slice Cf Ch Cg,.slice Cc BI.length Cd,.slice Ca Be.length Cb] 54/\Below wr.heap.size wr wc)
    case first=>
     go_region
     all_goals go_wp2_with fail
     all_goals go_meet
     all_goals
      first
       |exact⟨_,_,rfl,rfl,(uj _ _ _ _).1,(uj _ _ _ _).2.1,(uj _ _ _ _).2.2⟩
       |exact⟨_,_,rfl,rfl,(uj _ _ _ _).2.1,(uj _ _ _ _).1,(uj _ _ _ _).2.2⟩
    case rest=>
     obtain⟨p6,p7,rfl,rfl,hA,hC,Ab⟩:=hcut;have HB:=Hh (Bh.out.trans (Ab.mono Bh.out.size));have Ac:=Jh (And.intro (eu.below Ab _ _ HQ.out.1.1) (And.intro (HQ.out.1.2.1.below Ab lz) (HQ.out.1.2.2.below Ab))) (And.intro (eu.below Ab _ _ HQ.out.2.1) (And.intro (HQ.out.2.2.1.below Ab lz) (HQ.out.2.2.2.below Ab)));have HC:=Jh hA hC;have BT:=hA.lt;have BV:=hC.lt;obtain⟨Bl,Bs,Bm,Bt,Bn,Bu,Bo,Bv,Bp,Bw,Bq,Bx,Br,By⟩:=hA.n7 rfl;obtain⟨B0,B7,B1,B8,B2,B9,B3,BA,B4,BB,B5,BC,B6,BD⟩:=hC.n7 rfl;clear HQ Ab hA hC q0 q1 q2 q3 q4 q5 q6 r0 r1 r2 r3 r4 r5 r6
     by_cases Aa:bl=Bj
     ·subst Aa
      have e0:(bl != bl)=false:=by simp
      by_cases hnm:nm=BP
      ·subst hnm
       obtain⟨bv,BF⟩:=um (ve=BQ);have hV:=nP.fix BF (Iw ve BQ wc _ _ Ac.out.1.1 Ac.out.2.1);have BL:=Hh BF;simp only[vX] at hV;clear BF;go_wp2_with fail;refine hV.mono ?_;rintro _ w3 ⟨rfl,hb3⟩;clear hV Bl Bm Bn Bo Bp Bq Br Bs Bt Bu Bv Bw Bx By B0 B1 B2 B3 B4 B5 B6 B7 B8 B9 BA BB BC BD;have Bf:=Hh (HB.out.trans (hb3.mono HB.out.size))
       cases bv with
       |false=>
        have HX:=Hh (HN.out (fun h=>by injection h with _ _ h;have:=BL.out.2 h;cases this));clear hb3;go_wp2;go_ret;exact⟨⟨false,rfl,lN HX.out⟩,Bf.out⟩
       |true=>
        obtain⟨hA,hC⟩:=HC.out;have Ad:=hA.below hb3 BT;have Ae:=hC.below hb3 BV;have BG:=Ad.lt;have BH:=Ae.lt;have hE:=Ar _ _ ls BI w3 (Ac.out.1.2.1.below hb3 lz) (Ac.out.2.2.1.below hb3 lz);have Bi:=Jh (Ac.out.1.2.2.below hb3) (Ac.out.2.2.2.below hb3);have BM:=Jh Ad Ae;obtain⟨Af,An,Ag,Ao,Ah,Ap,Ai,Aq,Aj,As,Ak,At,Am,Au⟩:=Ad.n7 rfl;obtain⟨A9,AG,AA,AH,AB,AI,AC,AJ,AD,AK,AE,AL,AF,AM⟩:=Ae.n7 rfl;clear hA hC Ad Ae hb3 Ac HC HB;go_wp2_with fail;refine hE.mono ?_;rintro _ w4 ⟨rfl,hb4⟩;clear hE Af Ag Ah Ai Aj Ak Am An Ao Ap Aq As At Au A9 AA AB AC AD AE AF AG AH AI AJ AK AL AM
        have Bg:=Hh (Bf.out.trans (hb4.mono Bf.out.size))
        by_cases hls:ls=BI
        ·subst hls
         rw[decide_eq_true rfl];obtain⟨Ad,Ae⟩:=BM.out;have Bk:=Ad.below hb4 BG;have Bz:=Ae.below hb4 BH;have BU:=Bk.lt;have BW:=Bz.lt;obtain⟨bi,BE⟩:=um (BO=Be);have hI:=nP.fix BE (BN w4 _ _ (Bi.out.1.below hb4) (Bi.out.2.below hb4));have BK:=Hh BE;obtain⟨Av,A2,Aw,A3,Ax,A4,Ay,A5,Az,A6,A0,A7,A1,A8⟩:=Bk.n7 rfl;obtain⟨AN,AV,AO,AW,AP,AX,AQ,AY,AR,AZ,AS,Ba,AT,Bb⟩:=Bz.n7 rfl;clear Ad Ae Bk Bz hb4 BE Bi BM Bf;go_wp2_with fail;refine hI.mono ?_;rintro _ w5 ⟨rfl,hb5⟩;clear hI Av Aw Ax Ay Az A0 A1 A2 A3 A4 A5 A6 A7 A8 AN AO AP AQ AR AS AT AV AW AX AY AZ Ba Bb;have BJ:=Hh (Bg.out.trans (hb5.mono Bg.out.size))
         clear hb5
         cases bi with
         |false=>
          have HX:=Hh (HN.out (fun h=>by injection h with _ _ _ _ h;have:=BK.out.2 h;cases this));go_wp2;go_ret;exact⟨⟨false,rfl,lN HX.out⟩,BJ.out⟩
         |true=>
          have HX:=Hh (HD.out (by rw[BL.out.1 (by trivial),BK.out.1 (by trivial)]));go_wp2;go_roundw
          case rel=>exact⟨k+1,by omega,by go_num,HX.out,BJ.out⟩
          case measure=>simp[intOf];omega
        ·have HX:=Hh (HN.out (fun h=>by injection h with _ _ _ h;exact hls h))
         rw[decide_eq_false hls];clear hls hb4;go_wp2;go_ret;exact⟨⟨false,rfl,lN HX.out⟩,Bg.out⟩
      ·have e1:=nT hnm
       have HX:=Hh (HN.out (fun h=>by injection h with _ h;exact hnm h));clear hnm;go_wp2;go_ret;exact⟨⟨false,rfl,lN HX.out⟩,HB.out⟩
     ·have HX:=Hh (HN.out (fun h=>by injection h with h;exact Aa h))
      cases bl<;>cases Bj
      ·exact absurd rfl Aa
      ·clear Aa
       go_wp2;go_ret;exact⟨⟨false,rfl,lN HX.out⟩,HB.out⟩
      ·clear Aa
       go_wp2;go_ret;exact⟨⟨false,rfl,lN HX.out⟩,HB.out⟩
      ·exact absurd rfl Aa
   ·obtain rfl:k=l.length:=by omega
    have hR:=Hh (AU HL.out (fun j h1 h2=>HA.out j h1 h2 h1));go_wp2_with fail;go_ret;exact⟨⟨true,rfl,F7 (by rw[HP.out];exact hR.out)⟩,Bh.out⟩
 ·have hq:((l.length:Int) != (m.length:Int))=true:=by rw[bne_iff_ne];omega
  have HN:Hid (¬l=m):=Hh (fun h=>hlen (by rw[h]));have HB:=Hh (Below.refl w.heap.size w);clear hlen;go_enter Tryz.func25,Tryz.ntmps25;go_wp2;go_ret;exact⟨⟨false,rfl,lN HN.out⟩,HB.out⟩
theorem CL(n:Nat):∀(l m:List bA),qU l+1<=n->∀(w:World) (v u:Value),dU w v l->dU w u m->Calls Tryz.prog 25 #[v,u] w (nP (l=m) w):=by
 induction n with
 |zero=>intro l m h;omega
 |succ n IH=>exact fun l m h w v u hv hu=>CO n IH l m (by omega) w v u hv hu
theorem EX(l m:List bA)(w:World)(v u:Value)(hv:dU w v l)(hu:dU w u m):Calls Tryz.prog 25 #[v,u] w (nP (l=m) w):=
 CL (qU l+1) l m lz w v u hv hu
theorem EM:∀l:List ag,ku l=ku (og l)
 |[]=>rfl
 | t::l=>by
  have ih:=EM l;unfold ku og at ih ⊢
  by_cases h:t.kind=5
  ·have hc:dB t=false:=by unfold dB;rw[h];rfl
   rw[List.filter_cons_of_neg (by rw[hc];decide),List.filter_cons_of_neg (p:=fun t:ag=>decide (t.kind≠5)) (by simp[h]),ih]
  ·rw[List.filter_cons_of_pos (p:=fun t:ag=>decide (t.kind≠5)) (by simp[h])]
   cases hc:dB t with
   |true=>rw[List.filter_cons_of_pos hc,List.filter_cons_of_pos hc,List.map_cons,List.map_cons,ih]
   |false=>rw[List.filter_cons_of_neg (by rw[hc];decide),List.filter_cons_of_neg (by rw[hc];decide),ih]
theorem EL:∀l:List ag,ku (m0 l)=ku l
 |[]=>rfl
 | t::l=>by
  have ih:=EL l;unfold ku at ih ⊢;have hc:dB (n0 t)=dB t:=rfl;show ((n0 t::m0 l).filter dB).map (·.text)=_
  cases h:dB t with
  |true=>rw[List.filter_cons_of_pos (by rw[hc,h]),List.filter_cons_of_pos h,List.map_cons,List.map_cons,ih];rfl
  |false=>rw[List.filter_cons_of_neg (by rw[hc,h];decide),List.filter_cons_of_neg (by rw[h];decide),ih]
theorem E5:∀l:List ag,l.filter iG=(og l).filter iG
 |[]=>rfl
 | t::l=>by
  have ih:=E5 l;unfold og at ih ⊢
  by_cases h:t.kind=5
  ·have hc:iG t=false:=by unfold iG;rw[h];rfl
   rw[List.filter_cons_of_neg (by rw[hc];decide),List.filter_cons_of_neg (p:=fun t:ag=>decide (t.kind≠5)) (by simp[h]),ih]
  ·rw[List.filter_cons_of_pos (p:=fun t:ag=>decide (t.kind≠5)) (by simp[h])]
   cases hc:iG t with
   |true=>rw[List.filter_cons_of_pos hc,List.filter_cons_of_pos hc,ih]
   |false=>rw[List.filter_cons_of_neg (by rw[hc];decide),List.filter_cons_of_neg (by rw[hc];decide),ih]
theorem EZ:∀l:List ag,((m0 l).filter iG).map (fun t=>(t.kind,t.text))=(l.filter iG).map (fun t=>(t.kind,t.text))
 |[]=>rfl
 | t::l=>by
  have ih:=EZ l;have hc:iG (n0 t)=iG t:=rfl;show ((n0 t::m0 l).filter iG).map (fun t=>(t.kind,t.text))=_
  cases h:iG t with
  |true=>rw[List.filter_cons_of_pos (by rw[hc,h]),List.filter_cons_of_pos h,List.map_cons,List.map_cons,ih];rfl
  |false=>rw[List.filter_cons_of_neg (by rw[hc,h];decide),List.filter_cons_of_neg (by rw[h];decide),ih]
theorem OX{l:Bs}(h:(bT l).2.2=0)(hl:l.length<=1500):(jP l).1.length<=750000/\(iT (jP l).1).2.2=0/\bT (jP l).1=bT l/\
  ku (aG l 0).1=ku (iT (jP l).1).1/\((aG l 0).1.filter iG).map (fun t=>(t.kind,t.text))=((iT (jP l).1).1.filter iG).map (fun t=>(t.kind,t.text)):=by
 have e:(jP l).1=jQ ((bV l).map (·.toks)):=by unfold jP;rw[if_pos h]
 rw[e];obtain⟨-,h2,-,h4⟩:=rq h;have ht:=Hm h;have hs:=Ey h hl
 have hx:iT (jQ ((bV l).map (·.toks)))=((aG (jQ ((bV l).map (·.toks))) 0).1,-1,0):=by
  unfold iT;rw[if_pos (by rw[h2])]
 refine⟨hs,by rw[hx],h4,?_,?_⟩
 ·rw[hx,EM,<-EL,<-ht,EL,<-EM]
 ·rw[hx,E5,<-EZ,<-ht,EZ,<-E5]
theorem gM.at{P:Nat->Prop}{w:World}{v:Value}{l:List bA}(h:gM P w v l):dU w v l:=by
 obtain⟨a,Aa,h1,h2,h3,h4,h5⟩:=h;refine⟨a,Aa,h1,h2,h3,h4,fun x hx hl=>?_⟩;obtain⟨g1,g2,g3⟩:=h5 x hx hl;exact⟨g1,g2.1,fJ.map (fun e cs h=>af.at e cs h) (fun _ _ h=>h.1) (fun b h=>h.1) (fun _ _ _ _ h=>h) g2 _ _ g3⟩
theorem TidyKeeps_walk(a0:ByteArray)(w:World)(w0:a0.size<=maxLen)(hT:jk w) :
  Calls Tryz.prog 7 #[.string a0] w fun e w'=>e=.returned (.bool true)/\Below w.heap.size w w':=by
 have hW:=BX w hT;unfold maxLen at w0;go_enter Tryz.func7,Tryz.ntmps7;go_wp2_with fail;refine hW.mono ?_;clear hW;rintro _ v1 ⟨rfl,hb1⟩;have Ah:=Hh (hT.below hb1);have Ad:=Hh hb1;clear hb1 hT
 by_cases h0:1500<a0.size
 ·go_wp2
  go_ret;exact⟨rfl,Ad.out⟩
 have A4:a0.data.toList.length=a0.size:=jc a0;have hA:=Cg a0 v1 Ah.out (by omega);have HK:Hid ((bT a0.data.toList).2.2=0->_):=Hh (fun h=>OX (l:=a0.data.toList) h (by omega));have HE:=Hh (Ht a0.data.toList);obtain⟨X,hX⟩:=exq (jP a0.data.toList);rw[<-hX] at hA HE HK;obtain⟨X1,X2,X3⟩:=X;simp only at hA HE HK;clear hX;go_wp2_with fail;refine hA.mono ?_;clear hA;rintro _ v2 ⟨rfl,hb2⟩;have Am:=Hh (Ah.out.below hb2);have Ag:=Hh (Ad.out.trans (hb2.mono Ad.out.size));clear hb2
 by_cases he:X3=0
 ·subst he
  obtain⟨k1,k2,k3,k4,k5⟩:=HK.out HE.out.symm;have A1:=rM HE.out.symm;have hL:=CK a0 v2 (by omega);have A0:=lS a0.data.toList.length a0.data.toList 0 lz;have Ax:(ay X1).size=X1.length:=by show X1.toArray.size=_;simp
  have hP:=fun W (h:jk W)=>ol (ay X1) W h (by omega);have hB:=fun W (h:jk W)=>qV (ay X1) W h (by omega);have hR:=fun W=>CE a0 W (by omega);have A2:=(xM X1).1;simp only[bU,k2,k3] at hP hB;obtain⟨LP,Ap⟩:=exq (bT a0.data.toList);rw[<-Ap] at hB hR HE;clear Ap;obtain⟨LI,z2,z5⟩:=LP;have A3:0=z5:=HE.out;subst A3;generalize (iT X1).2.1=z1 at *;generalize (aG a0.data.toList 0).1=A at *;generalize (aG a0.data.toList 0).2.1=z3 at *;generalize (aG a0.data.toList 0).2.2=z4 at *;generalize (iT X1).1=Bt at *;generalize ay X1=T at *;have Al:=Jh k4 k5;have Ai:A.length<=1000000:=by omega
  have Ao:Bt.length<=1000000:=by omega
  clear HK HE k1 k2 k3 k4 k5 A1 A0 Ax A2 Ah Ad;go_wp2_with fail;refine hL.mono ?_;clear hL;rintro _ v3 ⟨va,rfl,hA,hb3⟩;obtain⟨aa,ac,rfl⟩:=hA.len;have H3:=Jh hA.toks (And.intro (Am.out.below hb3) (aQ Ag.out hb3));have Aq:=hP v3 H3.out.2.1;have Az:∀W:World,(Instr.field 38 (.agg #[.slice aa A.length ac,.int .i64 z3,.int .i64 z4]) 0).run Tryz.prog W=.ok (.slice aa A.length ac) W:=fun _=>by kernel_rfl
  clear hP hA hb3 Am Ag;go_wp2_with fail;refine Aq.mono ?_;clear Aq;rintro _ v4 ⟨vb,rfl,hBt,hb4⟩;obtain⟨ba,bc,rfl⟩:=hBt.len;have H4:=Jh (H3.out.1.below hb4 lz) (And.intro hBt.toks (And.intro (H3.out.2.1.below hb4) (aQ H3.out.2.2 hb4)));have An:=hB v4 H4.out.2.2.1;clear hB hBt hb4 H3;go_wp2_with fail;refine An.mono ?_;clear An;rintro _ v5 ⟨⟨vx,rfl,hI⟩,hb5⟩;simp only at hI;obtain⟨xa,xc,rfl,-⟩:=hI.len;have H5:=Jh (H4.out.1.below hb5 lz) (And.intro (H4.out.2.1.below hb5 lz) (And.intro hI (aQ H4.out.2.2.2 hb5)));have As:=Io _ A v5 H5.out.1 Ai;clear hI hb5 H4;go_wp2_with fail;refine As.mono ?_;clear As;rintro _ v6 ⟨r6,rfl,ho6,hb6⟩;obtain⟨sa,sc,rfl,-⟩:=ho6.row.len;have H6:=Jh (H5.out.2.1.below hb6 lz) (And.intro ho6.row (And.intro hb6 (aQ H5.out.2.2.2 hb6)));have At:=FC _ Bt v6 H6.out.1 Ao;clear ho6 hb6;go_wp2_with fail;refine At.mono ?_;clear At;rintro _ v7 ⟨r7,rfl,ho7,hb7⟩;obtain⟨ta,tc,rfl,-⟩:=ho7.row.len;have H7:=Jh (aQ H6.out.2.2.1 hb7) (aQ H6.out.2.2.2 hb7);have Aj:=Ar _ _ _ _ v7 (H6.out.2.1.below hb7 lz) ho7.row;rw[decide_eq_true Al.out.1] at Aj;clear ho7 hb7 H6;go_wp2_with fail;refine Aj.mono ?_;clear Aj;rintro _ v8 ⟨rfl,hb8⟩;have H8:=Jh (aQ H7.out.1 hb8) (aQ H7.out.2 hb8)
  have Au:=Ip _ A v8 (H5.out.1.below H8.out.1 lz) Ai;clear hb8 H7;go_wp2_with fail;refine Au.mono ?_;clear Au;rintro _ v9 ⟨r9,rfl,ho9,hb9⟩;obtain⟨pa,pc,rfl⟩:=ho9.len;have H9:=Jh ho9.toks (And.intro (aQ H8.out.1 hb9) (aQ H8.out.2 hb9));have Av:=FD _ Bt v9 (H5.out.2.1.below H9.out.2.1 lz) Ao;clear ho9 hb9 H8;go_wp2_with fail;refine Av.mono ?_;clear Av;rintro _ v10 ⟨r10,rfl,ho10,hb10⟩;obtain⟨qa,qc,rfl⟩:=ho10.len;have Ae:=Jh (aQ H9.out.2.1 hb10) (aQ H9.out.2.2 hb10);have Aa:=Cu _ _ _ _ v10 (H9.out.1.below hb10 lz) ho10.toks (Nat.le_trans (List.length_filter_le _ _) Ai) Al.out.2;clear ho10 hb10 H9;go_wp2_with fail;refine Aa.mono ?_;clear Aa;rintro _ v11 ⟨rfl,hb11⟩;have Af:=Jh (aQ Ae.out.1 hb11) (aQ Ae.out.2 hb11);have Ab:=hR v11;clear hb11 Ae hR;go_wp2_with fail;refine Ab.mono ?_;clear Ab;rintro _ v12 ⟨hb12,ia,ic,rfl,hin⟩;have Ak:=Jh (aQ Af.out.1 hb12) (aQ Af.out.2 hb12);have Ac:=EX LI LI v12 _ _ (H5.out.2.2.1.below Ak.out.1) hin.at;clear hin hb12 Af;have Az:∀W:World,(Instr.field 56 (.agg #[.slice ia LI.length ic,.int .i64 0,.int .i64 z2,.int .i64 0,.bool false,.string ⟨#[]⟩,.string ⟨#[]⟩,.string ⟨#[]⟩,.slice none 0 0,.slice none 0 0,.slice none 0 0]) 0).run Tryz.prog W=.ok (.slice ia LI.length ic) W:=fun _=>by kernel_rfl
  go_wp2_with fail;refine Ac.mono ?_;clear Ac;rintro _ v13 ⟨⟨b,rfl,hb⟩,hb13⟩;have Ay:b=true:=hb.2 (by trivial);subst Ay;have Aw:=Hh (aQ Ak.out.2 hb13);clear hb hb13;go_wp2_with fail;go_ret;exact⟨rfl,Aw.out⟩
 ·have e0:(X3 != 0)=true:=by simpa using he
  clear he;go_wp2;go_ret;exact⟨rfl,Ag.out⟩
end Go.Proofs.YtbcdaaobbebooaaGreatDoor
namespace Go.Tab
open Go.Lib
def pW(P:Program)(W:World)(n:String)(d:DataW Unit):Prop:=
 ∃g t cs fuel p,P.globalNamed n=some g/\(P.globals[g]?).map (·.type)=some t/\W.var? P n=some cs/\DataW.trod (fun _=>()) P W 0 (fun _=>true) false fuel t cs.toList=some (d,p)
theorem zP{P:Program}{W:World}:∀{L:List (String×DataW Unit)} {ps:List MemPlace},DataW.LaidVars P W L ps->∀n d,(n,d)∈L->pW P W n d
 |[],_,_,_,_,h=>by cases h
 | (n',d')::L,_,h0,n,d,h=>by
  obtain⟨g,t,cs,fuel,p,q,h1,h2,h3,h4,h5,_⟩:=h0;rcases List.mem_cons.1 h with h|h
  ·cases h;exact⟨g,t,cs,fuel,p,h1,h2,h3,h4⟩
  ·exact zP h5 n d h
theorem pI{P:Program}{W:World}{L:List (String×DataW Unit)}(h:laidMet P L W){n:String}{d:DataW Unit}(hm:(n,d)∈L):pW P W n d:=by
 obtain⟨ps,h1,_⟩:=h;exact zP h1 n d hm
theorem pW.tab{P:Program}{W:World}{name:String}{k:IntKind}{zs:List Int}{g:Nat}{t e:TypeId}{n:Nat}
  (hg:P.globalNamed name=some g) (hty:(P.globals[g]?).map (·.type)=some t) (ht:P.underlying t=some (.array n e)) (he:P.underlying e=some (.int k)) (hce:P.cellsOf e=1) (hct:P.cellsOf t=n)
  (h:pW P W name (tabData k zs)):TabIs P W name k zs:=by
 obtain⟨g',t',cs,Ab,p,Ac,Ad,Aa,hd⟩:=h;obtain rfl:=Option.some.inj (hg.symm.trans Ac);obtain rfl:=Option.some.inj (hty.symm.trans Ad);unfold TabIs;rw[Aa,<-cells_of_tab ht he hce hct hd]
theorem y8{H:Type}{enc:TypeId×Value->H}{P:Program}{w:World}{base:Nat}{sp:Nat->Bool}{held:Bool}{fuel:Nat}{t e i:TypeId}{n m:Nat}{k:IntKind}{cs:List Value}{zss:List (List Int)}{p:List MemPlace}
  (ht:P.underlying t=some (.array n e)) (he:P.underlying e=some (.array m i)) (hi:P.underlying i=some (.int k)) (hci:P.cellsOf i=1) (hce:P.cellsOf e=m) (hct:P.cellsOf t=n*m)
  (h:DataW.trod enc P w base sp held fuel t cs=some (.agg (zss.map fun zs=>tabData k zs),p)):∀a (ha:a<zss.length),((cs.drop (a*m)).take m)=zss[a].map fun z=>Value.int k z:=by
 cases fuel with
 |zero=>simp[DataW.trod] at h
 |succ fuel=>
  simp only[DataW.trod,ht,hce] at h;split at h
  ·rename_i hl
   obtain⟨xs,hm,hx⟩:=Option.map_eq_some_iff.1 h
   have Aa:xs.map (·.1)=zss.map fun zs=>(tabData k zs:DataW H):=by
    have:=congrArg Prod.fst hx
    simpa using this
   have Ac:xs.length=n:=by simpa using mapM_length hm
   have Ab:zss.length=n:=by
    have:=congrArg List.length Aa;simp at this
    omega
   intro a ha;obtain⟨b,hb,hf⟩:=mapM_at hm a a (by simp[Ab ▸ ha]);have h2:(xs.map (·.1))[a]?=some b.1:=by simp[hb]
   rw[Aa] at h2;simp only[List.getElem?_map] at h2;rw[List.getElem?_eq_getElem ha] at h2;have h3:b.1=tabData k zss[a]:=(Option.some.inj h2).symm;have h4:DataW.trod enc P w base sp held fuel e ((cs.drop (a*m)).take m)=some (tabData k zss[a],b.2):=by rw[hf,<-h3]
   exact cells_of_tab he hi hci hce h4
  ·cases h
theorem pW.tabs{P:Program}{W:World}{name:String}{k:IntKind}{zss:List (List Int)}{g:Nat}{t e i:TypeId}{n m:Nat}
  (hg:P.globalNamed name=some g) (hty:(P.globals[g]?).map (·.type)=some t) (ht:P.underlying t=some (.array n e)) (he:P.underlying e=some (.array m i)) (hi:P.underlying i=some (.int k)) (hci:P.cellsOf i=1) (hce:P.cellsOf e=m) (hct:P.cellsOf t=n*m)
  (h:pW P W name (.agg (zss.map fun zs=>tabData k zs))) (a b:Nat) (ha:a<zss.length) (hb:b<zss[a].length) (hbm:b<m):W.cell? ⟨g,a*m+b,none⟩=some (.int k zss[a][b]):=by
 obtain⟨g',t',cs,Ab,p,Ac,Ad,Aa,hd⟩:=h;obtain rfl:=Option.some.inj (hg.symm.trans Ac);obtain rfl:=Option.some.inj (hty.symm.trans Ad);have h1:=y8 ht he hi hci hce hct hd a ha
 have h2:cs[a*m+b]?=some (.int k zss[a][b]):=by
  have:=congrArg (·[b]?) h1;simp only[List.getElem?_take,List.getElem?_drop,List.getElem?_map] at this;rw[if_pos hbm,List.getElem?_eq_getElem hb] at this
  simpa using this
 have h3:=World.var?_cell hg Aa (a*m+b);rw[h3,h2]
end Go.Tab
namespace Go.Tab
theorem Oa{P:Program}{L:List (String×DataW Unit)}{W:World}(h:laidMetH P L W)(hf:(L.filter fun x=>x.2.handleName?.isSome)=[]):laidMet P L W:=by
 unfold laidMetH at h;rw[hf] at h;exact h
end Go.Tab
namespace Go.Tab
open Go.Lib
theorem y9{H:Type}{enc:TypeId×Value->H}{P:Program}{w:World}{base:Nat}{sp:Nat->Bool}{held:Bool}{fuel:Nat}{t e:TypeId}{n:Nat}{cs:List Value}{zs:List (List UInt8)}{p:List MemPlace}
  (ht:P.underlying t=some (.array n e)) (he:P.underlying e=some .string) (hce:P.cellsOf e=1) (hct:P.cellsOf t=n)
  (h:DataW.trod enc P w base sp held fuel t cs=some (.agg (zs.map fun z=>(.lit (.string z):DataW H)),p)):∀i (hi:i<zs.length),cs[i]?=some (Value.string ⟨zs[i].toArray⟩):=by
 cases fuel with
 |zero=>simp[DataW.trod] at h
 |succ fuel=>
  simp only[DataW.trod,ht,hce,hct,Nat.mul_one] at h;split at h
  ·rename_i hl
   obtain⟨xs,hm,hx⟩:=Option.map_eq_some_iff.1 h
   have Aa:xs.map (·.1)=zs.map fun z=>(DataW.lit (.string z):DataW H):=by
    have:=congrArg Prod.fst hx
    simpa using this
   have Ac:xs.length=n:=by simpa using mapM_length hm
   have Ab:zs.length=n:=by
    have:=congrArg List.length Aa;simp at this
    omega
   intro i hi;obtain⟨b,hb,hf⟩:=mapM_at hm i i (by simp[Ab ▸ hi]);obtain⟨s,hc,rfl,_⟩:=DataW.trod_string he hf
   have h1:cs[i]?=some (.string s):=by
    have:=congrArg (·[0]?) hc
    simpa [List.getElem?_take,List.getElem?_drop] using this
   have h2:(xs.map (·.1))[i]?=some (DataW.lit (.string s.data.toList):DataW H):=by simp[hb]
   rw[Aa] at h2;simp only[List.getElem?_map,List.getElem?_eq_getElem hi,Option.map_some,Option.some.injEq,DataW.lit.injEq,Lit.string.injEq] at h2;rw[h1,h2]
  ·cases h
theorem pW.strs{P:Program}{W:World}{name:String}{zs:List (List UInt8)}{g:Nat}{t e:TypeId}{n:Nat}
  (hg:P.globalNamed name=some g) (hty:(P.globals[g]?).map (·.type)=some t) (ht:P.underlying t=some (.array n e)) (he:P.underlying e=some .string) (hce:P.cellsOf e=1) (hct:P.cellsOf t=n)
  (h:pW P W name (.agg (zs.map fun z=>.lit (.string z)))) (i:Nat) (hi:i<zs.length):W.cell? ⟨g,i,none⟩=some (.string ⟨zs[i].toArray⟩):=by
 obtain⟨g',t',cs,Ab,p,Ac,Ad,Aa,hd⟩:=h;obtain rfl:=Option.some.inj (hg.symm.trans Ac);obtain rfl:=Option.some.inj (hty.symm.trans Ad);have h2:=y9 ht he hce hct hd i hi;have h3:=World.var?_cell hg Aa i;rw[h3]
 simpa using h2
def NE:Nat->DataW Unit->List Value
 |0,_=>[]
 |_+1,.lit (.int k z)=>[.int k z]
 |_+1,.lit (.string s)=>[.string ⟨s.toArray⟩]
 |n+1,.agg xs=>xs.flatMap (NE n)
 |_,_=>[]
def MZ(P:Program)(h:Array Obj)(nd:String×DataW Unit):Array Obj:=
 match P.globalNamed nd.1,NE 4 nd.2 with
 | some g,v::vs=>h.modify g fun o=>match o with
  |.cells _ t f=>.cells (v::vs).toArray t f
  |o=>o
 |_,_=>h
def layAllS(P:Program)(L:List (String×DataW Unit))(h:Array Obj):Array Obj:=L.foldl (MZ P) h
end Go.Tab
namespace Go.Proofs.YtbcdaaobbebooaaGreatDoor
open Go.RowKit Go.Tab
def rz:List (List Int):=[[1,9,2,3,9,9,9],[9,9,2,3,9,9,9],[9,9,9,9,4,6,9],[9,9,3,3,4,6,9],[9,9,5,5,9,9,9],[9,9,5,5,9,6,9],[7,7,8,8,9,9,9],[9,9,8,8,9,9,9],[9,9,8,8,9,9,9]]
theorem Hy:∀j:Fin 63,((rz.getD (j.val / 7) []).getD (j.val % 7) 0)=((aR.getD j.val 9:Nat):Int):=by decide +kernel
theorem Oi:Tryz.prog.globalNamed "tabularium/num.steps"=some 3:=by kernel_rfl
theorem NR:(Tryz.prog.globals[3]?).map (·.type)=some 203:=by kernel_rfl
theorem c1:Tryz.prog.cellsOf 3=1:=by kernel_rfl
theorem c7:Tryz.prog.cellsOf 202=7:=by kernel_rfl
theorem P7:Tryz.prog.cellsOf 203=9*7:=by kernel_rfl
theorem Oo:(Rows.laid_tabularium_num_steps:DataW Unit)=.agg (rz.map fun zs=>Lib.tabData .i64 zs):=by kernel_rfl
theorem OM:∀a:Fin 9,(rz.getD a.val []).length=7:=by decide +kernel
theorem OY:Tryz.prog.globalNamed "tabularium/utf.sizes"=some 1:=by kernel_rfl
theorem Ld:(Tryz.prog.globals[1]?).map (·.type)=some 192:=by kernel_rfl
theorem LG:Tryz.prog.cellsOf 192=32:=by kernel_rfl
def AL:List Int:=[1,1,1,1,1,1,1,1,1,1,1,1,1,1,1,1,0,0,0,0,0,0,0,0,2,2,2,2,3,3,4,0]
theorem Hz:∀j:Fin 32,AL.getD j.val 0=((dV (8*j.val):Nat):Int):=by decide +kernel
theorem Oq:(Rows.laid_tabularium_utf_sizes:DataW Unit)=Lib.tabData .i64 AL:=by kernel_rfl
theorem Pz:Tryz.prog.globalNamed "tabularium/lex.doubles"=some 0:=by kernel_rfl
theorem Pq:(Tryz.prog.globals[0]?).map (·.type)=some 186:=by kernel_rfl
theorem O4:Tryz.prog.cellsOf 9=1:=by kernel_rfl
theorem c6:Tryz.prog.cellsOf 186=6:=by kernel_rfl
theorem PD:(Rows.laid_tabularium_lex_doubles:DataW Unit)=.agg (kS.map fun z=>.lit (.string z)):=by kernel_rfl
theorem OZ:kS.length=6:=by decide +kernel
theorem MX{L:List (String×DataW Unit)}{W:World}(hL:laidMetH Tryz.prog L W)(hf:(L.filter fun x=>x.2.handleName?.isSome)=[])(hsh:W.ShapedOpen Tryz.prog)
  (h1:("tabularium/utf.sizes",Rows.laid_tabularium_utf_sizes)∈L) (h2:("tabularium/num.steps",Rows.laid_tabularium_num_steps)∈L) (h3:("tabularium/lex.doubles",Rows.laid_tabularium_lex_doubles)∈L):jk W:=by
 have met:=Oa hL hf;have l1:=pI met h1;have l2:=pI met h2;have l3:=pI met h3;rw[Oq] at l1;rw[Oo] at l2;rw[PD] at l3;refine⟨fun j hj=>?_,fun j hj=>?_,fun j hj=>?_,?_⟩
 ·have t:=l1.tab OY Ld Tryz.underlying192 Tryz.underlying3 c1 LG
  have hc:=t.cell OY j (by simpa [AL] using hj);rw[hc,show AL.getD j 0=_ from Hz ⟨j,hj⟩]
 ·have ha:j / 7<rz.length:=by show j / 7<9;omega
  have hg:rz.getD (j / 7) []=rz[j / 7]:=by rw[List.getD_eq_getElem?_getD,List.getElem?_eq_getElem ha];rfl
  have hr:=OM ⟨j / 7,ha⟩;simp only[hg] at hr;have hb:j % 7<(rz[j / 7]).length:=by rw[hr];omega
  have h3:=l2.tabs Oi NR Tryz.underlying203 Tryz.underlying202 Tryz.underlying3 c1 c7 P7 (j / 7) (j % 7) ha hb (by omega);rw[show j / 7*7+j % 7=j by omega] at h3;rw[h3];have h4:=Hy ⟨j,hj⟩;simp only[hg] at h4;rw[List.getD_eq_getElem?_getD,List.getElem?_eq_getElem hb] at h4;rw[<-h4];rfl
 ·have h:=l3.strs Pz Pq Tryz.underlying186 Tryz.underlying9 O4 c6 j (by rw[OZ];exact hj)
  rw[h,List.getD_eq_getElem?_getD,List.getElem?_eq_getElem (by rw[OZ];exact hj)];rfl
 ·exact cell_of_shapedOpen_int (t:=3) (zero:=#[.int .i64 0]) hsh (by decide +kernel) (by kernel_rfl) rfl (by kernel_rfl) (by kernel_rfl) Tryz.underlying3
theorem tab_of_TidyKeeps{W:World}(hL:laidMetH Tryz.prog Rows.tidyKeepsRow.laid W)(hsh:W.ShapedOpen Tryz.prog):jk W:=MX hL (by kernel_rfl) hsh (.tail _ (.head _)) (.tail _ (.tail _ (.head _))) (.tail _ (.tail _ (.tail _ (.head _))))
end Go.Proofs.YtbcdaaobbebooaaGreatDoor
