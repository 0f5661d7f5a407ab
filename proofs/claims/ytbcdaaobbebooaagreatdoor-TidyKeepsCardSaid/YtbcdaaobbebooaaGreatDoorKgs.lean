import Derived.Test.YtbcdaaobbebooaaGreatDoorKgr
set_option linter.unusedSimpArgs false
set_option linter.unusedVariables false
set_option maxRecDepth 100000
set_option maxHeartbeats 20000000
namespace Go.Proofs.YtbcdaaobbebooaaGreatDoor
open Go.RowKit Go.Tab
theorem JJ.drew{w W:World}{s:Value}{stop:Int}{last:Bool}{nm:ByteArray}{v:Value}{pre:List ByteArray}(h:JJ w W s stop last nm v pre):JJ w W.drew s stop last nm v pre:=
 ⟨h.b.drew,h.k0.drew,h.k1.drew,h.k2.drew,h.own.moved (fun _ _=>rfl),h.le⟩
theorem Dy(size:Int)(l:List fF)(d:Nat)(out:List bA)(n:Nat)(h:(dw size l d out n).e=0):(dw size l d out n).n<=n+l.length:=
 ((jg size (l.length+1) l d out n (List.replicate d bW) bW (by omega) (by simp)).2 h).2.1
theorem Ej.below2{B:Nat}{w w':World}{v:Value}{R:List fF}(h:Ej B w v R)(hb:Below w.heap.size w w'):Ej B w' v R:=h.below hb
theorem GL{w w3 W:World}{v:Value}{l:List ByteArray}(hx:aT Value.string 9 (w.heap.size+3) w3 v l)(hs:w3.heap.size<=W.heap.size)(hh:∀k,w.heap.size+3<=k->k<w3.heap.size->W.heap[k]?=w3.heap[k]?):lZ (fun b=>w.heap.size<=b) W v l:=by
 have ho:aT Value.string 9 (w.heap.size+3) W v l:=hx.moved (fun k hk=>hh k (World.ownsRow.lt hx k hk).1 (World.ownsRow.lt hx k hk).2);exact⟨ho.row,fun k hk=>by have h9:=World.ownsRow.lt ho k hk;exact⟨by omega,h9.2⟩⟩
theorem CF(R:List fF)(size:Int)(i d B:Nat)(w:World)(v:Value)(hR:Ej B w v R)(hi:i<R.length)(t:ag)(row:List ag)(ht:R[i].toks=t::row)(hd:d<=64)(hn:row.length<=900000)(hsh:∀t∈row,t.text.size<=1048576)(hq:∀t∈row,t.kind=3->jD t.text≠none)(hRn:R.length<=1000000)(hI:d<64->BP R size (i+1) (d+1)) :
  Calls Tryz.prog 94 #[v,.int .i64 (i:Nat),.int .i64 (d:Nat)] w (OL w (vD size (R.drop (i+1)) d (fE (d+1) R[i].toks R[i].stop R[i].last t.text))):=by
 obtain⟨B4,B6,rfl,B3,-⟩:=hR.len;obtain⟨rb,s,rfl,B2,AY,r0,r1,r2⟩:=hR.get hi;rw[ht] at AY ⊢;obtain⟨Ai,A5⟩:=exq R[i].stop;obtain⟨Ah,A3⟩:=exq R[i].last;rw[<-A5] at r1 ⊢;rw[<-A3] at r2 ⊢;clear A5 A3 ht;have hr:=AY.toks;clear AY;obtain⟨sa,sn,sc⟩:=s;simp only[eO] at r0 hr;obtain⟨ra,rc,he,Bj,Bu,-⟩:=hr.len;cases he
 obtain⟨N,hN⟩:=exq ((t::row).length);have Br:N<=row.length+1/\row.length+1<=N:=by rw[hN];simp
 rw[<-hN] at hr Bj r0;unfold maxLen at Bu;have HN:=Hh hN;clear hN;obtain⟨R0,AW⟩:=exq (fE (d+1) (t::row) Ai Ah t.text);have HR:=Hh AW;rw[<-AW];clear AW;obtain⟨b,As,rfl,AD,c0,c1,c2⟩:=hr.get (j:=0) (by simp);simp only[Nat.zero_mul,Nat.add_zero,List.getElem_cons_zero] at c0 c1 c2;have H0:=Hh hr;have Bn:=Hh hR;have HI:=Hh hI;clear hr hR hI;have HA:=Hh (JJ.start w (.slice (some ⟨b,As,none⟩) N sc) Ai Ah t.text);go_enter Tryz.func94,Tryz.ntmps94;go_wp2_with fail;go_loopw [9] (fun iv wr=>∃(m:Nat) (pre:List ByteArray) (v:Value),m<=row.length/\iv=.int .i64 ((1+m:Nat):Int)/\Hid (uP row m pre)/\Hid (JJ w wr (.slice (some ⟨b,As,none⟩) N sc) Ai Ah t.text v pre)) (fun iv _=>N-(intOf iv).toNat)
 case atStart=>exact⟨0,[],_,Nat.zero_le _,rfl,Hh (uP.zero _),HA⟩
 case round=>
  clear HA c0 c1 c2 AD r0 r1 r2;obtain⟨m,pre,v,hm,rfl,A8,HS⟩:=hrel;have Bw:pre.length<=row.length:=by rw[A8.out.1];exact hm
  obtain⟨M,hM⟩:=exq (1+m);have Bq:M<=1+m/\1+m<=M:=by omega
  rw[<-hM];have hr:=H0.out.below HS.out.b lz;obtain⟨va,vc,rfl,-⟩:=HS.out.own.row.len
  by_cases hlab:∃h:m<row.length,row[m].kind=3
  ·obtain⟨A4,h3⟩:=hlab
   have A7:M<(t::row).length:=by simp;omega
   have AC:(t::row)[M]=row[m]:=by subst hM;simp[Nat.add_comm 1]
   obtain⟨bb,ob,he,AD,c0,c1,c2⟩:=hr.get A7;cases he
   rw[AC] at c0 c1 c2;rw[h3] at c0
   obtain⟨x,hx⟩:∃x,jD row[m].text=some x:=by
    cases h:jD row[m].text with
    |none=>exact absurd h (hq _ (List.getElem_mem A4) h3)
    |some x=>exact⟨x,rfl⟩
   obtain⟨p,e,Bk⟩:=CP _ x hx;have hQ:=fun W=>rE row[m].text W (by have:=hsh _ (List.getElem_mem A4);omega);simp only[Bk] at hQ;have Bp:=Hh (A8.out.step A4 h3 hx);have AA:decide ((M:Int)<(N:Int))=true:=by rw[decide_eq_true_iff];omega
   generalize row[m]=tk at *;have k1:=HS.out.k1;have k2:=HS.out.k2;have Bj:=k1.lt;have Bv:=k2.lt;obtain⟨Ab,Ae,Ac,Af,Ad,Ag⟩:=k1.n3 rfl;obtain⟨AG,AN,AH,AO,AI,AP,AJ,AQ,AK,AR,AL,AS,AM,AT⟩:=k2.n7 rfl;clear k1 k2 hr AC Bk hM;have Bo:=Hh HS.out.drew;have Bz:∀w:World,(Instr.field 126 (.agg #[.string x,.int .i64 p,.int .i64 e]) 0).run Tryz.prog w=.ok (.string x) w:=fun _=>by kernel_rfl
   have Bs:=hQ wr.drew;clear hQ;go_wp2_with fail
   go_region_law (first
    |(go_simp;go_at_call 83;(with_reducible refine Bs.mono ?_);rintro _ w2 ⟨rfl,hb2⟩;have Aj:=Hh (Bo.out.step hb2);have z2:=Aj.out.k2;have BD:=z2.lt;have BB:=z2.cell 5 _ rfl;have BC:=z2.frozen 5;have Bb:=Hh Aj.out.own;clear z2 hb2)
    |(refine vv rfl _ _ _ rfl (w.heap.size+3) 9 16 (.string ⟨#[]⟩) Tryz.underlying34 Tryz.infoStr rfl (fun _=>rfl) pre [x] (by exact Bb.out.alloc _) (by exact (aT.lit (f:=Value.string) (E:=9) (base:=w2.heap.size) (w:=w2) [x] lz (by simp[maxLen])).row) (by (try simp);unfold maxLen;omega) (by (try simp);omega) (by have:=Aj.out.le;(try simp);omega) (w2.alloc (.cells #[.string x] 9)) (Below.refl _ _) ?_;intro v3 w3 hown3 hb3 hg3;obtain⟨B5,B7,rfl,-⟩:=hown3.row.len;have AV:=Hh (((Below.refl w2.heap.size w2).alloc lz (.cells #[.string x] 9)).mono Aj.out.le |>.trans hb3);have y2:=Aj.out.k2.below AV.out (by omega);have BA:=y2.lt;have B8:=y2.cell 5 _ rfl;have B9:=y2.frozen 5;have Bc:=Hh hown3;clear y2 hown3 hb3 hg3))
   all_goals
    have HN:=Hh (Aj.out.label AV.out Bc.out);clear Bc Bb AV;go_wp2;go_roundw
   all_goals first
    |(exact⟨m+1,_,_,by omega,by go_num,Bp,by have q:=HN.out;simp only[List.length_append,List.length_cons,List.length_nil,Nat.zero_add] at q;exact Hh q⟩)
    |(simp[intOf]<;>omega)
  ·have A6:fA row=pre/\pre.length=m:=by
    by_cases A4:m<row.length
    ·exact A8.out.stop A4 (fun h3=>hlab ⟨A4,h3⟩)
    ·exact A8.out.done (by omega)
   have Aa:=HR.out;unfold fE at Aa;simp only[List.drop_succ_cons,List.drop_zero,A6.1,A6.2] at Aa;rw[<-hM] at Aa;clear A6 A8 HR hM
   by_cases A4:m<row.length
   case' pos=>
    have A7:M<(t::row).length:=by simp;omega
    obtain⟨bb,ob,he,AD,c0,c1,c2⟩:=hr.get A7;cases he
    have AC:(t::row)[M]=row[m]:=by
     have hM:M=1+m:=by omega
     subst hM;simp[Nat.add_comm 1]
    have h3:((t::row)[M].kind==3)=false:=by
     rw[beq_eq_false_iff_ne,AC];exact fun h3=>hlab ⟨A4,h3⟩
    have AA:decide ((M:Int)<(N:Int))=true:=by rw[decide_eq_true_iff];omega
    have Bh:(t::row)[M]?=some (t::row)[M]:=List.getElem?_eq_getElem A7;generalize (t::row)[M]=tk at *;have AZ:=Hh Bh;have Aq:=Hh Aa;clear AC hlab Bh hr Aa c1;have An:=lK _ (.slice (some ⟨b,As,none⟩) N sc) (t::row) Ai Ah (M) ut (H0.out.below HS.out.b lz) (by simp;omega) (by omega);rw[show (((M:Nat)):Int)=(M:Int) by omega] at An;obtain⟨sb,Al⟩:∃x,bK ((t::row).drop (M)) ut=x:=⟨_,rfl⟩;rw[Al] at An;have k1:=HS.out.k1;have Ak:=k1.lt;obtain⟨Ab,Ae,Ac,Af,Ad,Ag⟩:=k1.n3 rfl;clear k1;go_wp2_with fail;refine An.mono ?_;clear An Ab Ac Ad Ae Af Ag Ak;rintro _ w2 ⟨rfl,hb2⟩;have Aj:=Hh (HS.out.step hb2);clear hb2;clear c0 h3 AD;cases sb
    case' false=>
     have Aa:=Aq.out;rw[Al,if_pos rfl] at Aa;clear Aq Al;have hL:=fu _ (.slice (some ⟨b,As,none⟩) N sc) (t::row) Ai Ah (M) (H0.out.below Aj.out.b lz) (by simp;omega) (by omega);rw[show (((M:Nat)):Int)=(M:Int) by omega] at hL;rw[mr] at Aa;have Ar:=Hh Aa;clear Aa;generalize (cK (t::row) Ai Ah (M)).1=pa at *;generalize (cK (t::row) Ai Ah (M)).2=pe at *;simp only[bz] at hL;have k1:=Aj.out.k1;have Ak:=k1.lt;obtain⟨Ab,Ae,Ac,Af,Ad,Ag⟩:=k1.n3 rfl;clear k1;go_wp2_with fail;refine hL.mono ?_;clear hL Ab Ac Ad Ae Af Ag Ak;rintro _ w4 ⟨rfl,hb4⟩;have Ap:=Hh (Aj.out.step hb4);clear hb4
    case' true=>
     have Aa:=Aq.out;rw[Al,if_neg (by decide),AZ.out] at Aa;clear Aq Al
     by_cases hd64:d=64
     case pos=>
      rw[if_pos (by omega)] at Aa;simp only at Aa;subst hd64;obtain⟨bb,ob,he,AD,c0,c1,c2⟩:=(H0.out.below Aj.out.b lz).get A7;cases he
      have AF:(t::row)[M].pos=tk.pos:=by
       have:=AZ.out;rw[List.getElem?_eq_getElem A7] at this;rw[Option.some.inj this]
      rw[AF] at c2;have Ar:=Hh Aa;have k1:=Aj.out.k1;have Ak:=k1.lt;obtain⟨Ab,Ae,Ac,Af,Ad,Ag⟩:=k1.n3 rfl;clear k1 Aa c0 c1 AF;go_wp2_with (with_reducible first|refine bH ?_)
      refine Stop.out ?_;refine az rfl 56 _ _ rfl rfl _ rfl (bz tk.pos 5) rfl _ _ (Aj.out.k0) rfl (by kernel_rfl) (jR _ _ _ _ _ _ _ _ _ _ _ _ _ _ _ _ _ _ _) ?_;have hq:ae ((w2).setRow w.heap.size (bz tk.pos 5)) w.heap.size (bz tk.pos 5) 56:=setRow_heap _ _ _ _ _ _ (Aj.out.k0);go_wp2_with fail;obtain⟨At,Au,Av,Aw,Ax,Ay,Az,A0,A1,A2,Am⟩:=hq.m11 rfl;refine bodyPost_ret (v:=.agg (bz tk.pos 5)) (by simp[results,Tryz.results94,go_sem,At,Au,Av,Aw,Ax,Ay,Az,A0,A1,A2,Am]) rfl ?_
      rw[Ar.out,Ec];exact .bad (below_setRow Aj.out.b lz _)
     case' neg=>
      rw[if_neg (by omega)] at Aa;have By:decide ((64:Int)<=(d:Int))=false:=by rw[decide_eq_false_iff_not];omega
      have Aq:=Hh Aa;clear Aa;have An:=lK _ (.slice (some ⟨b,As,none⟩) N sc) (t::row) Ai Ah (M+1) nW (H0.out.below Aj.out.b lz) (by simp;omega) (by omega);rw[show (((M+1:Nat)):Int)=(M:Int)+1 by omega] at An;obtain⟨sb,Al⟩:∃x,bK ((t::row).drop (M+1)) nW=x:=⟨_,rfl⟩;rw[Al] at An;have k1:=Aj.out.k1;have Ak:=k1.lt;obtain⟨Ab,Ae,Ac,Af,Ad,Ag⟩:=k1.n3 rfl;clear k1;go_wp2_with fail;refine An.mono ?_;clear An Ab Ac Ad Ae Af Ag Ak;rintro _ w3 ⟨rfl,hb2⟩;have Ao:=Hh (Aj.out.step hb2);clear hb2;have Aa:=Aq.out;rw[<-HN.out] at Aa;have k1:=Ao.out.k1;have Bt:=k1.lt;cases sb
      case' true=>
       have AE:=K7 Al;rw[<-HN.out] at AE;simp only[List.drop_succ_cons] at Al;rw[if_neg (by omega),Al,if_neg (by decide)] at Aa;clear Aq Al
       by_cases h2:M+2<N
       case' pos=>
        rw[if_pos h2] at Aa;have Bf:(M:Int)+2<(N:Int):=by omega
        clear h2;obtain⟨Ab,Ae,Ac,Af,Ad,Ag⟩:=k1.n3 rfl;clear k1;have hL:=fu _ (.slice (some ⟨b,As,none⟩) N sc) (t::row) Ai Ah (M+2) (H0.out.below Ao.out.b lz) (by simp;omega) (by omega);rw[show (((M+2:Nat)):Int)=(M:Int)+2 by omega] at hL;rw[mr] at Aa;have Ar:=Hh Aa;clear Aa;generalize (cK (t::row) Ai Ah (M+2)).1=pa at *;generalize (cK (t::row) Ai Ah (M+2)).2=pe at *;simp only[bz] at hL;go_wp2_with fail;refine hL.mono ?_;clear hL Ab Ac Ad Ae Af Ag;rintro _ w4 ⟨rfl,hb4⟩;have Ap:=Hh (Ao.out.step hb4);clear hb4
       case neg=>
        rw[if_neg h2] at Aa;have Bf:decide ((M:Int)+2<(N:Int))=false:=by rw[decide_eq_false_iff_not];omega
        have Ar:=Hh Aa;have k2:=Ao.out.k2;have AX:=k2.lt;obtain⟨Ab,Ae,Ac,Af,Ad,Ag⟩:=k1.n3 rfl;obtain⟨AG,AN,AH,AO,AI,AP,AJ,AQ,AK,AR,AL,AS,AM,AT⟩:=k2.n7 rfl;clear k1 k2 h2 Aa;go_wp2_with (with_reducible first|refine bH ?_)
        refine Stop.out ?_;refine az rfl 56 _ _ rfl rfl _ rfl (#[.slice none 0 0,.int .i64 (1),.int .i64 0,.int .i64 0,.bool true,.string t.text,.string ⟨#[]⟩,.string ⟨#[]⟩,.slice none 0 0,.slice va pre.length vc,.slice none 0 0]) rfl _ _ (Ao.out.k0) rfl (by kernel_rfl) (jR _ _ _ _ _ _ _ _ _ _ _ _ _ _ _ _ _ _ _) ?_;have hq:ae ((w3).setRow w.heap.size (#[.slice none 0 0,.int .i64 (1),.int .i64 0,.int .i64 0,.bool true,.string t.text,.string ⟨#[]⟩,.string ⟨#[]⟩,.slice none 0 0,.slice va pre.length vc,.slice none 0 0])) w.heap.size (#[.slice none 0 0,.int .i64 (1),.int .i64 0,.int .i64 0,.bool true,.string t.text,.string ⟨#[]⟩,.string ⟨#[]⟩,.slice none 0 0,.slice va pre.length vc,.slice none 0 0]) 56:=setRow_heap _ _ _ _ _ _ (Ao.out.k0);go_wp2_with fail;obtain⟨At,Au,Av,Aw,Ax,Ay,Az,A0,A1,A2,Am⟩:=hq.m11 rfl;refine bodyPost_ret (v:=.agg (#[.slice none 0 0,.int .i64 (1),.int .i64 0,.int .i64 0,.bool true,.string t.text,.string ⟨#[]⟩,.string ⟨#[]⟩,.slice none 0 0,.slice va pre.length vc,.slice none 0 0])) (by simp[results,Tryz.results94,go_sem,At,Au,Av,Aw,Ax,Ay,Az,A0,A1,A2,Am]) rfl ?_
        rw[Ar.out,Ju];refine⟨below_setRow Ao.out.b lz _,true,t.text,⟨#[]⟩,⟨#[]⟩,none,0,0,va,pre.length,vc,none,0,0,rfl,?_⟩;exact aP.leaf (af.leaf _ _ _ _) (GL Ao.out.own (Nat.le_of_eq (setRow_size _ _ _).symm) (fun k hk _=>setRow_other _ _ _ _ (by omega)))
      case' false=>
       by_cases h1:N=M+1
       case pos=>
        rw[if_pos h1] at Aa;have Bx:decide ((M:Int)+1<(N:Int))=false:=by rw[decide_eq_false_iff_not];omega
        have AU:=HI.out (by omega) w3 _ B (Bn.out.below2 Ao.out.b);rw[show ((i+1:Nat):Int)=(i:Int)+1 by omega,show ((d+1:Nat):Int)=(d:Int)+1 by omega] at AU;have Ar:=Hh Aa;obtain⟨g,hg⟩:=exq (dw size (R.drop (i+1)) (d+1) [] 0);rw[<-hg] at AU;have HG:=Hh hg;obtain⟨gl,gn,ga,ge⟩:=g;obtain⟨Ab,Ae,Ac,Af,Ad,Ag⟩:=k1.n3 rfl;clear k1 h1 Aa hg Aq Al;go_wp2_with fail;refine AU.mono ?_;clear AU Ab Ac Ad Ae Af Ag;rintro e4 w4 ⟨hb4,hbad,hok⟩;simp only at hbad hok;have Ap:=Hh (Ao.out.step hb4)
        by_cases he:ge=0
        ·subst he
         obtain⟨ia,ic,rfl,Bi⟩:=hok rfl;have HX:=Jh Bi Ao.out.le;clear hok hbad hb4 Bi;have k2:=Ap.out.k2;have AX:=k2.lt;obtain⟨AG,AN,AH,AO,AI,AP,AJ,AQ,AK,AR,AL,AS,AM,AT⟩:=k2.n7 rfl;clear k2
         have B0:gn<=1000000:=by
          have:=Dy size (R.drop (i+1)) (d+1) [] 0 (by rw[<-HG.out]);rw[<-HG.out] at this;simp only[List.length_drop] at this;omega
         have A9:=Hh ((Ap.out.b.setCell (p:=⟨w.heap.size+2,6,none⟩) (by show w.heap.size<=w.heap.size+2;omega) (.slice ia gl.length ic)).alloc (by rw[World.size_setCell];have:=Ap.out.le;omega) (.cells #[.slice ia gl.length ic,.int .i64 (gn:Nat),.int .i64 0,.int .i64 0,.bool false,.string ⟨#[]⟩,.string ⟨#[]⟩,.string ⟨#[]⟩,.slice none 0 0,.slice none 0 0,.slice none 0 0] 56));have Ba:Hid (ae ((w4.setCell ⟨w.heap.size+2,6,none⟩ (.slice ia gl.length ic)).alloc (.cells #[.slice ia gl.length ic,.int .i64 (gn:Nat),.int .i64 0,.int .i64 0,.bool false,.string ⟨#[]⟩,.string ⟨#[]⟩,.string ⟨#[]⟩,.slice none 0 0,.slice none 0 0,.slice none 0 0] 56)) w.heap.size (bz 0 0) 56):=Hh ((Ap.out.k0.setOther _ _ (by show w.heap.size+2≠_;omega)).alloc _);go_upto_region 21 with fail
         go_wp2_with (with_reducible first|refine bH ?_)
         refine Stop.out ?_;refine az rfl 56 _ _ rfl rfl _ rfl (#[.slice none 0 0,.int .i64 ((gn:Int)+1),.int .i64 0,.int .i64 0,.bool true,.string t.text,.string ⟨#[]⟩,.string ⟨#[]⟩,.slice none 0 0,.slice va pre.length vc,.slice ia gl.length ic]) rfl _ _ (Ba.out) rfl (by kernel_rfl) (jR _ _ _ _ _ _ _ _ _ _ _ _ _ _ _ _ _ _ _) ?_;have hq:ae ((((w4.setCell ⟨w.heap.size+2,6,none⟩ (.slice ia gl.length ic)).alloc (.cells #[.slice ia gl.length ic,.int .i64 (gn:Nat),.int .i64 0,.int .i64 0,.bool false,.string ⟨#[]⟩,.string ⟨#[]⟩,.string ⟨#[]⟩,.slice none 0 0,.slice none 0 0,.slice none 0 0] 56))).setRow w.heap.size (#[.slice none 0 0,.int .i64 ((gn:Int)+1),.int .i64 0,.int .i64 0,.bool true,.string t.text,.string ⟨#[]⟩,.string ⟨#[]⟩,.slice none 0 0,.slice va pre.length vc,.slice ia gl.length ic])) w.heap.size (#[.slice none 0 0,.int .i64 ((gn:Int)+1),.int .i64 0,.int .i64 0,.bool true,.string t.text,.string ⟨#[]⟩,.string ⟨#[]⟩,.slice none 0 0,.slice va pre.length vc,.slice ia gl.length ic]) 56:=setRow_heap _ _ _ _ _ _ (Ba.out);go_wp2_with fail;obtain⟨At,Au,Av,Aw,Ax,Ay,Az,A0⟩:=hq.m8 rfl
         obtain⟨-,-,-,-,-,-,-,-,A1,A2,Am⟩:=hq.m11 rfl;refine bodyPost_ret (v:=.agg (#[.slice none 0 0,.int .i64 ((gn:Int)+1),.int .i64 0,.int .i64 0,.bool true,.string t.text,.string ⟨#[]⟩,.string ⟨#[]⟩,.slice none 0 0,.slice va pre.length vc,.slice ia gl.length ic])) (by simp[results,Tryz.results94,go_sem,At,Au,Av,Aw,Ax,Ay,Az,A0,A1,A2,Am]) rfl ?_;rw[Ar.out];unfold vD;rw[<-HG.out];simp only;rw[if_neg (by simp)]
         have AB:∀k,w.heap.size+3<=k->k<w4.heap.size->(((w4.setCell ⟨w.heap.size+2,6,none⟩ (.slice ia gl.length ic)).alloc (.cells #[.slice ia gl.length ic,.int .i64 (gn:Nat),.int .i64 0,.int .i64 0,.bool false,.string ⟨#[]⟩,.string ⟨#[]⟩,.string ⟨#[]⟩,.slice none 0 0,.slice none 0 0,.slice none 0 0] 56)).setRow w.heap.size (#[.slice none 0 0,.int .i64 ((gn:Int)+1),.int .i64 0,.int .i64 0,.bool true,.string t.text,.string ⟨#[]⟩,.string ⟨#[]⟩,.slice none 0 0,.slice va pre.length vc,.slice ia gl.length ic])).heap[k]?=w4.heap[k]?:=fun k h1 h2=>by
          rw[setRow_other _ _ _ _ (by omega),Below.heap_alloc _ _ _ (by rw[World.size_setCell];exact h2),Below.heap_setCell _ _ _ _ (by show k≠w.heap.size+2;omega)]
         have Bl:w4.heap.size<=(((w4.setCell ⟨w.heap.size+2,6,none⟩ (.slice ia gl.length ic)).alloc (.cells #[.slice ia gl.length ic,.int .i64 (gn:Nat),.int .i64 0,.int .i64 0,.bool false,.string ⟨#[]⟩,.string ⟨#[]⟩,.string ⟨#[]⟩,.slice none 0 0,.slice none 0 0,.slice none 0 0] 56)).setRow w.heap.size (#[.slice none 0 0,.int .i64 ((gn:Int)+1),.int .i64 0,.int .i64 0,.bool true,.string t.text,.string ⟨#[]⟩,.string ⟨#[]⟩,.slice none 0 0,.slice va pre.length vc,.slice ia gl.length ic])).heap.size:=by rw[setRow_size,World.size_alloc,World.size_setCell];omega
         refine⟨below_setRow A9.out lz _,true,t.text,⟨#[]⟩,⟨#[]⟩,none,0,0,va,pre.length,vc,ia,gl.length,ic,rfl,?_⟩;exact aP.whole (af.leaf _ _ _ _) (GL Ap.out.own Bl AB) (gM.move Bl (fun k hk hl=>AB k (Nat.le_trans HX.out.2 hk) hl) (fun k hk _=>by have h9:=HX.out.2;have h8:w3.heap.size<=k:=hk;show w.heap.size<=k;omega) HX.out.1)
        ·have Bg:=hbad he
         simp only[bz] at Bg;subst Bg;have B1:(ge != 0)=true:=by simpa using he
         clear hok hbad hb4;have Be:∀o,Below w4.heap.size w4 (w4.alloc o):=fun o=>(Below.refl _ w4).alloc lz o;have A9:=Hh (fun o=>Ap.out.step (Be o));clear Be;go_upto_region 19 with fail
         go_wp2_with (with_reducible first|refine bH ?_)
         refine Stop.out ?_;refine az rfl 56 _ _ rfl rfl _ rfl (bz ga ge) rfl _ _ ((A9.out _).k0) rfl (by kernel_rfl) (jR _ _ _ _ _ _ _ _ _ _ _ _ _ _ _ _ _ _ _) ?_;have hq:ae ((w4.alloc (.cells (bz ga ge) 56)).setRow w.heap.size (bz ga ge)) w.heap.size (bz ga ge) 56:=setRow_heap _ _ _ _ _ _ ((A9.out _).k0);go_wp2_with fail;obtain⟨At,Au,Av,Aw,Ax,Ay,Az,A0,A1,A2,Am⟩:=hq.m11 rfl;refine bodyPost_ret (v:=.agg (bz ga ge)) (by simp[results,Tryz.results94,go_sem,At,Au,Av,Aw,Ax,Ay,Az,A0,A1,A2,Am]) rfl ?_
         rw[Ar.out];unfold vD;rw[<-HG.out];simp only;rw[if_pos he];exact .bad (below_setRow (A9.out _).b lz _)
       case' neg=>
        simp only[List.drop_succ_cons] at Al;rw[if_neg h1,Al,if_pos rfl] at Aa;have AE:M+1<N:=by omega
        have Bf:(M:Int)+1<(N:Int):=by omega
        clear h1 Aq Al;obtain⟨Ab,Ae,Ac,Af,Ad,Ag⟩:=k1.n3 rfl;clear k1;have hL:=fu _ (.slice (some ⟨b,As,none⟩) N sc) (t::row) Ai Ah (M+1) (H0.out.below Ao.out.b lz) (by simp;omega) (by omega);rw[show (((M+1:Nat)):Int)=(M:Int)+1 by omega] at hL;rw[mr] at Aa;have Ar:=Hh Aa;clear Aa;generalize (cK (t::row) Ai Ah (M+1)).1=pa at *;generalize (cK (t::row) Ai Ah (M+1)).2=pe at *;simp only[bz] at hL;go_wp2_with fail;refine hL.mono ?_;clear hL Ab Ac Ad Ae Af Ag;rintro _ w4 ⟨rfl,hb4⟩;have Ap:=Hh (Ao.out.step hb4);clear hb4
   case' neg=>
    have Bd:N=M:=by omega
    have AA:decide ((M:Int)<(N:Int))=false:=by rw[decide_eq_false_iff_not];omega
    have Aq:=Hh Aa;have Bm:=Hh Bd;clear hlab Aa hr Bd;have An:=lK _ (.slice (some ⟨b,As,none⟩) N sc) (t::row) Ai Ah (M) ut (H0.out.below HS.out.b lz) (by simp;omega) (by omega);rw[show (((M:Nat)):Int)=(M:Int) by omega] at An;obtain⟨sb,Al⟩:∃x,bK ((t::row).drop (M)) ut=x:=⟨_,rfl⟩;rw[Al] at An;have k1:=HS.out.k1;have Ak:=k1.lt;obtain⟨Ab,Ae,Ac,Af,Ad,Ag⟩:=k1.n3 rfl;clear k1;go_wp2_with fail;refine An.mono ?_;clear An Ab Ac Ad Ae Af Ag Ak;rintro _ w2 ⟨rfl,hb2⟩;have Aj:=Hh (HS.out.step hb2);clear hb2;have Aa:=Aq.out;rw[show bK ((t::row).drop M) ut=false by rw[List.drop_eq_nil_of_le (by rw[<-HN.out,Bm.out];exact Nat.le_refl _)];rfl] at Al Aa;subst Al;rw[if_pos rfl] at Aa;clear Aq;have hL:=fu _ (.slice (some ⟨b,As,none⟩) N sc) (t::row) Ai Ah (M) (H0.out.below Aj.out.b lz) (by simp;omega) (by omega);rw[show (((M:Nat)):Int)=(M:Int) by omega] at hL;rw[mr] at Aa;have Ar:=Hh Aa;clear Aa;generalize (cK (t::row) Ai Ah (M)).1=pa at *;generalize (cK (t::row) Ai Ah (M)).2=pe at *;simp only[bz] at hL;have k1:=Aj.out.k1;have Ak:=k1.lt;obtain⟨Ab,Ae,Ac,-⟩:=k1.n2 rfl
    obtain⟨-,-,-,Af,Ad,Ag⟩:=k1.n3 rfl;clear k1;go_wp2_with fail;refine hL.mono ?_;clear hL Ab Ac Ad Ae Af Ag Ak;rintro _ w4 ⟨rfl,hb4⟩;have Ap:=Hh (Aj.out.step hb4);clear hb4
   all_goals
    go_wp2_with (with_reducible first|refine bH ?_)
    refine Stop.out ?_;refine az rfl 56 _ _ rfl rfl _ rfl (bz pa pe) rfl _ _ (Ap.out.k0) rfl (by kernel_rfl) (jR _ _ _ _ _ _ _ _ _ _ _ _ _ _ _ _ _ _ _) ?_;have hq:ae ((w4).setRow w.heap.size (bz pa pe)) w.heap.size (bz pa pe) 56:=setRow_heap _ _ _ _ _ _ (Ap.out.k0);go_wp2_with fail;obtain⟨At,Au,Av,Aw,Ax,Ay,Az,A0,A1,A2,Am⟩:=hq.m11 rfl;refine bodyPost_ret (v:=.agg (bz pa pe)) (by simp[results,Tryz.results94,go_sem,At,Au,Av,Aw,Ax,Ay,Az,A0,A1,A2,Am]) rfl ?_
    rw[Ar.out,Ec];exact .bad (below_setRow Ap.out.b lz _)
structure G9(B:Nat)(w:World)(lv:Value)(D:List (bA×List Value)):Prop where
 own:w.ownsRow B 54 7 lv D.length (D.flatMap (·.2))
 fin:∀d∈D,aP (fun q=>B<=q/\lv.ownBlock≠some q) w d.1 d.2
theorem G9.nil(B:Nat)(w:World):G9 B w (.slice none 0 0) []:=⟨World.ownsRow_nil _ _ _ _,fun d hd=>by cases hd⟩
section
variable {B:Nat} {w w' w'':World} {lv v':Value} {D:List (bA×List Value)}
theorem G9.below(h:G9 B w lv D)(hb:Below w.heap.size w w'):G9 B w' lv D:=
 ⟨bZ h.own (fun k e=>hb.block k (World.ownsRow.lt h.own k e).2),fun d hd=>aP.below hb _ _ (h.fin d hd)⟩
theorem G9.push(h:G9 B w lv D){x:bA}{cs:List Value}{g2 c2:Nat}(hb:Below w.heap.size w w')(hx:aP (fun q=>w.heap.size<=q) w' x cs)(hg:w'.grownBy w'' lv.ownBlock)
  (hown:w''.ownsRow B 54 7 (.slice (some ⟨g2,0,none⟩) (D.length+1) c2) (D.length+1) (D.flatMap (·.2)++cs)) (hat:lv.ownBlock=some g2\/g2=w'.heap.size) (hB:B<=w.heap.size):G9 B w'' (.slice (some ⟨g2,0,none⟩) (D.length+1) c2) (D++[(x,cs)]):=by
 have hl:=fun k e=>(World.ownsRow.lt h.own k e).2;have hs:=hb.size;refine⟨?_,fun d hd=>?_⟩
 ·rw[List.flatMap_append,List.length_append,List.length_singleton]
  simpa using hown
 ·rcases List.mem_append.1 hd with hd|hd
  ·refine aP.move (Nat.le_trans hb.size hg.size) (fun k hk hl2=>?_) (fun k hk hl2=>⟨hk.1,?_⟩) _ _ (h.fin d hd)
   ·rw[hg.block k (by omega) (fun e=>hk.2 e.symm),hb.block k hl2]
   ·intro e
    have e:g2=k:=by simpa [Value.ownBlock] using e
    subst e;rcases hat with q|q
    ·exact hk.2 q
    ·omega
  ·rw[List.mem_singleton.1 hd]
   refine aP.move hg.size (fun k hk hl2=>hg.block k hl2 (fun e=>by have hk:w.heap.size<=k:=hk;have:=hl k e.symm;omega)) (fun k hk hl2=>⟨by have hk:w.heap.size<=k:=hk;omega,?_⟩) _ _ hx;intro e;have hk:w.heap.size<=k:=hk;have e:g2=k:=by simpa [Value.ownBlock] using e
   subst e;rcases hat with q|q
   ·have:=hl _ q;omega
   ·omega
theorem G9.form(h:G9 B w lv D):∃a c,lv=.slice a D.length c:=Bc h.own
theorem G9.done(h:G9 B w lv D)(hs:w.heap.size<=w'.heap.size)(hh:∀k,B<=k->k<w.heap.size->w'.heap[k]?=w.heap[k]?):gM (fun q=>B<=q) w' lv (D.map (·.1)):=by
 have Ac:=World.ownsRow.lt h.own
 have h7:∀cs∈D.map (·.2),cs.length=7:=fun cs hcs=>by
  obtain⟨s,hs,rfl⟩:=List.mem_map.1 hcs;exact lm.len7 (h.fin s hs)
 have Ab:JG B w lv (D.map (·.2)):=⟨by rw[List.length_map,<-List.flatMap_def];exact h.own,h7⟩;refine gM.move (w:=w) (P:=fun q=>B<=q) hs (fun k hk hl=>hh k hk hl) (fun k hk _=>hk) ?_
 have Aa:∃a cap,lv=.slice a D.length cap/\D.length<=cap/\cap<=maxLen/\(a=none->cap=0)/\∀x,a=some x->x.spot=none/\lv.ownBlock=some x.block:=by
  rcases h.own.2 with ⟨q1,q2⟩|⟨g,cap,cur,q1,-,-,q2,q3,-⟩
  ·exact⟨none,0,by rw[q1,q2],by rw[q2];exact Nat.le_refl _,Nat.zero_le _,fun _=>rfl,fun x hx=>by cases hx⟩
  ·exact⟨_,cap,q1,q2,q3,(fun h=>by cases h),fun x hx=>by cases hx;exact⟨rfl,by rw[q1];rfl⟩⟩
 obtain⟨a,cap,q1,q2,q3,q4,q5⟩:=Aa;refine⟨a,cap,by rw[q1,List.length_map],by rw[List.length_map];exact q2,q3,q4,fun x hx hne=>?_⟩;obtain⟨r1,r2⟩:=q5 x hx;refine⟨r1,⟨(Ac _ r2).2,(Ac _ r2).1⟩,fJ.make _ _ (fun k hk=>?_)⟩;rw[List.length_map] at hk;rw[q1] at Ab;obtain⟨g,he,-,-,hc,-⟩:=Ab.cellAt (k:=k) (by simpa using hk);rw[hx] at he;cases he
 refine⟨D[k].2,fun j u hu=>?_,?_⟩
 ·rw[Nat.zero_add]
  exact hc j u (by simpa using hu)
 ·rw[List.getElem_map]
  exact aP.move lz (fun _ _ _=>rfl) (fun k hk _=>hk.1) _ _ (h.fin _ (List.getElem_mem hk))
end
theorem uh{w:World}{ops:Array Oper}{rest:List Oper}{p:Oper}{a:Act}{Q:Exit->Act->World->Prop}(hgd:p.guard=none)(s x:Operand)
  (hop:p.op=.call { callee:=.builtin .append,args:=#[s,x],argTypes:=#[42,42] }) (B:Nat) (lv:Value) (D:List (bA×List Value)) (cs:List Value) (hs:a.eval s=lv)
  (hown:w.ownsRow B 54 7 lv D.length (D.flatMap (·.2))) (g:Nat) (hx:a.eval x=.slice (some ⟨g,0,none⟩) 1 1) (hc:ae w g cs.toArray 54) (h7:cs.length=7) (h1:∀u∈cs,u.oneCell'=true)
  (hD:D.length<=1000000) (hbase:B<=w.heap.size) (H:Nat) (hH:w.heap.size=H)
  (hK:∀g2 c2 w',w'.ownsRow B 54 7 (.slice (some ⟨g2,0,none⟩) (D.length+1) c2) (D.length+1) (D.flatMap (·.2)++cs)->w.grownBy w' lv.ownBlock->(lv.ownBlock=some g2\/g2=H)->
   wpList Tryz.prog ops Q rest (a.put p.dst (.slice (some ⟨g2,0,none⟩) (D.length+1) c2)) w'):wpList Tryz.prog ops Q (p::rest) a w:=by
 obtain⟨i,Aa,Ab,Ac,Ad⟩:=info_parts Tryz.infoItm;refine wpList_append_lies w hgd s x 42 hop B 54 i _ 7 128 Tryz.underlying42 Aa Ab Ac Ad rfl (by decide) lv D.length (D.flatMap (·.2)) hs hown ⟨g,0,none⟩ 1 1 cs hx (by rw[h7]) ?_ h1 (by omega) (by unfold maxLen;omega) (by omega) hbase H hH (fun g2 c2 w' h1 h2 h3 _=>hK g2 c2 w' h1 h2 h3);intro j u hu;rw[Addr.add_lit,Nat.zero_add];exact hc.cell _ _ (by simpa using hu)
theorem xU(size:Int)(R:List fF)(i d:Nat)(hi:i<R.length)(out:List bA)(n:Nat):dw size (R.drop i) d out n=(match aY (d+1) R[i].toks R[i].stop R[i].last with
  |.wrong a e=>⟨[],0,a,e⟩
  |.empty=>dw size (R.drop (i+1)) d out (n+1)
  |.attr x=>dw size (R.drop (i+1)) d (out++[x]) (n+1)
  |.bare x=>dw size (R.drop (i+1)) d (out++[x]) (n+1)
  |.fin=>⟨out,n+1,0,0⟩
  |.begins x=>if (dw size (R.drop (i+1)) (d+1) [] 0).e≠0 then ⟨[],0,(dw size (R.drop (i+1)) (d+1) [] 0).at_,(dw size (R.drop (i+1)) (d+1) [] 0).e⟩ else dw size (R.drop (i+1+(dw size (R.drop (i+1)) (d+1) [] 0).n)) d (out++[.mk x.block x.name x.value x.labels (dw size (R.drop (i+1)) (d+1) [] 0).l]) (n+((dw size (R.drop (i+1)) (d+1) [] 0).n+1))):=by
 unfold dw;rw[List.drop_eq_getElem_cons hi,List.length_cons,mD]
 cases aY (d+1) R[i].toks R[i].stop R[i].last with
 |wrong a e=>rfl
 |empty=>rfl
 |attr x=>rfl
 |bare x=>rfl
 |fin=>rfl
 |begins x=>
  simp only;split
  ·rfl
  ·rw[List.drop_drop]
   exact jr size _ _ _ d _ _ (by simp only[List.length_drop];omega) (by omega)
theorem Jc(size:Int)(R:List fF)(i d:Nat)(hi:R.length<=i)(out:List bA)(n:Nat):dw size (R.drop i) d out n=if 0<d then ⟨[],0,size,2⟩ else ⟨out,n,0,0⟩:=by
 unfold dw;rw[List.drop_eq_nil_of_le hi];rfl
theorem uZ(row:List ag)(stop:Int)(last:Bool)(name:ByteArray):(∃a e,jI row stop last name=.wrong a e)\/∃x,jI row stop last name=.attr x:=by
 unfold jI dZ;repeat' split
 all_goals first
  |exact .inl ⟨_,_,rfl⟩
  |exact .inr ⟨_,rfl⟩
theorem Aq(n:Nat)(row:List ag)(stop:Int)(last:Bool)(name:ByteArray):fE n row stop last name≠.empty/\fE n row stop last name≠.fin:=by
 unfold fE dZ;constructor
 all_goals
  simp only;repeat' split
  all_goals (intro q;cases q)
def GZ(size:Int)(R:List fF)(d k:Nat)(T:F4)(out:List bA)(m:Nat):JH->Prop
 |.bad a e=>e≠0/\T=⟨[],0,a,e⟩
 |.one x n=>1<=n/\k+n<=R.length/\T=dw size (R.drop (k+n)) d (out++[x]) (m+n)
theorem J4(size:Int)(R:List fF)(k d:Nat)(hi:k<R.length)(kk:oL)(hs:aY (d+1) R[k].toks R[k].stop R[k].last=kk)(h1:kk≠.empty)(h2:kk≠.fin)(out:List bA)(m:Nat) :
  GZ size R d k (dw size (R.drop k) d out m) out m (vD size (R.drop (k+1)) d kk):=by
 rw[xU size R k d hi,hs]
 cases kk with
 |wrong a e=>
  refine⟨?_,rfl⟩;rcases vO (d+1) R[k].toks R[k].stop R[k].last with ⟨a2,e2,h3,h4⟩|h3
  ·rw[hs] at h4
   cases h4
   exact h3
  ·rw[hs] at h3
   generalize R[k].toks=tk at h3;cases h3
 |empty=>exact absurd rfl h1
 |fin=>exact absurd rfl h2
 |attr x=>exact⟨Nat.le_refl _,hi,rfl⟩
 |bare x=>exact⟨Nat.le_refl _,hi,rfl⟩
 |begins x=>
  unfold vD;simp only;have hn:=Dy size (R.drop (k+1)) (d+1) [] 0;generalize dw size (R.drop (k+1)) (d+1) [] 0=g at *
  by_cases he:g.e≠0
  ·rw[if_pos he,if_pos he]
   exact⟨he,rfl⟩
  ·rw[if_neg he,if_neg he]
   have:=hn (by simpa using he);rw[List.length_drop] at this;refine⟨by omega,by omega,?_⟩;rw[show k+(g.n+1)=k+1+g.n by omega]
theorem ul{size:Int}{R rest:List fF}{d k:Nat}{T:F4}{out:List bA}{m:Nat}{a e:Int}(h:GZ size R d k T out m (vD size rest d (.wrong a e))):e≠0/\T=⟨[],0,a,e⟩:=h
def OC(w wr:World)(R:List fF)(size:Int)(d i k:Nat)(T:F4)(lv:Value)(D:List (bA×List Value)):Prop:=
 G9 (w.heap.size+1) wr lv D/\T=dw size (R.drop k) d (D.map (·.1)) (k-i)/\D.length<=k/\Below w.heap.size w wr/\ae wr w.heap.size (bz 0 0) 56/\i<=k/\w.heap.size+1<=wr.heap.size
theorem OC.below{w wr W:World}{R:List fF}{size:Int}{d i k:Nat}{T:F4}{lv:Value}{D:List (bA×List Value)}(h:OC w wr R size d i k T lv D)(hb:Below wr.heap.size wr W):OC w W R size d i k T lv D:=
 ⟨h.1.below hb,h.2.1,h.2.2.1,h.2.2.2.1.trans (hb.mono h.2.2.2.1.size),h.2.2.2.2.1.below hb h.2.2.2.2.1.lt,h.2.2.2.2.2.1,Nat.le_trans h.2.2.2.2.2.2 hb.size⟩
theorem OV(b:Bool)(n o s:ByteArray)(va:Option Addr)(vn vc:Nat)(la:Option Addr)(ln lc:Nat)(ia:Option Addr)(k c:Nat):∀v∈([.bool b,.string n,.string o,.string s,.slice va vn vc,.slice la ln lc,.slice ia k c]:List Value),v.oneCell'=true:=by
 intro v hv;simp at hv
 rcases hv with rfl|rfl|rfl|rfl|rfl|rfl|rfl<;>rfl
theorem xS(R:List fF)(size:Int)(hRn:R.length<=1000000)(hne:0<R.length)(hlast:(R[R.length-1]'(by omega)).stop=size)(hrow:∀r∈R,r.toks.length<=900000/\∀t∈r.toks,t.text.size<=1048576/\(t.kind=3->jD t.text≠none))(i d:Nat)(hi:i<=R.length)(hd:d<=64)
  (IH:∀j e,i<j->j<=R.length->e<=64->BP R size j e):BP R size i d:=by
 intro w v B hR;obtain⟨Cb,Bx,rfl,BZ,BO⟩:=hR.len;unfold maxLen at BO;obtain⟨T,hT⟩:=exq (dw size (R.drop i) d [] 0);rw[<-hT];have HA:Hid (OC w (w.alloc (.cells (bz 0 0) 56)) R size d i i T (.slice none 0 0) []):=Hh ⟨G9.nil _ _,by rw[hT,Nat.sub_self];rfl,Nat.zero_le _,(Below.refl _ w).alloc lz _,ae.new w _ _,Nat.le_refl _,by simp⟩;have HR:=Hh hR;have B9:=Hh IH;clear hR hT IH;go_enter Tryz.func52,Tryz.ntmps52;go_wp2_with fail;go_loopw [1,7] (fun iv lv wr=>∃(k:Nat) (D:List (bA×List Value)),k<=R.length/\iv=.int .i64 (k:Int)/\Hid (OC w wr R size d i k T lv D)) (fun iv _ _=>R.length-(intOf iv).toNat)
 case atStart=>exact⟨i,[],hi,rfl,HA⟩
 case round=>
  clear HA;obtain⟨k,D,hk,rfl,HS⟩:=hrel;obtain⟨la,lc,rfl⟩:=HS.out.1.form;have Ca:=HS.out.2.2.2.2.2.2;have BT:=HS.out.2.2.1
  by_cases hkl:k<R.length
  ·have Bs:=HR.out.below HS.out.2.2.2.1
   obtain⟨rb,s,rfl,BM,Bc,r0,r1,r2⟩:=Bs.get hkl;have Ba:=hrow R[k] (List.getElem_mem hkl);have Bb:=xU size R k d hkl (D.map (·.1)) (k-i);have Ar:=fun kk hs h1 h2=>J4 size R k d hkl kk hs h1 h2 (D.map (·.1)) (k-i);rw[<-HS.out.2.1] at Bb Ar;obtain⟨Ab,Ap⟩:=exq R[k].stop;obtain⟨Aa,Ac⟩:=exq R[k].last;obtain⟨Az,Ak⟩:=exq R[k].toks;rw[<-Ap,<-Ac,<-Ak] at Bb;rw[<-Ap] at r1;rw[<-Ac] at r2;rw[<-Ak] at Bc Ba;have AV:Hid (∀kk,aY (d+1) Az Ab Aa=kk->kk≠.empty->kk≠.fin->GZ size R d k T (D.map (·.1)) (k-i) (vD size (R.drop (k+1)) d kk)):=Hh (by rw[Ak,Ap,Ac];exact Ar)
   have Bn:Hid (∀t row W,Az=t::row->Ej B W (.slice (some ⟨rb,0,none⟩) R.length Bx) R->Calls Tryz.prog 94 #[.slice (some ⟨rb,0,none⟩) R.length Bx,.int .i64 (k:Nat),.int .i64 (d:Nat)] W (OL W (vD size (R.drop (k+1)) d (fE (d+1) Az Ab Aa t.text)))):=Hh (by
    intro t row W ht hW;have hw:=Ba;rw[ht] at hw;have:=CF R size k d B W _ hW hkl t row (by rw[<-Ak];exact ht) hd (by have:=hw.1;simp at this;omega) (fun u hu=>(hw.2 u (by simp[hu])).1) (fun u hu=>(hw.2 u (by simp[hu])).2) hRn (fun h64=>B9.out (k+1) (d+1) (by have:=HS.out.2.2.2.2.2.1;omega) hkl (by omega));rw[<-Ak,<-Ap,<-Ac] at this
    exact this)
   have Bg:Hid (∀W,Below wr.heap.size wr W->Ej B W (.slice (some ⟨rb,0,none⟩) R.length Bx) R):=Hh (fun W hW=>Bs.below hW);obtain⟨sa,sn,sc⟩:=s;simp only[eO] at r0 Bc;have Bh:=Bc.toks;obtain⟨a',c',he,q1,q2,-⟩:=Bh.len;cases he
   unfold maxLen at q2;clear Ar Ap Ac Ak Bc Bs
   cases Az with
   |nil=>
    have HN:Hid (OC w (wr.alloc (.cells #[.slice sa 0 sc,.int .i64 Ab,.bool Aa] 137)) R size d i (k+1) T (.slice la D.length lc) D):=Hh (by
     have q:=HS.out.below ((Below.refl _ wr).alloc lz (.cells #[.slice sa 0 sc,.int .i64 Ab,.bool Aa] 137));refine⟨q.1,?_,by have:=q.2.2.1;omega,q.2.2.2.1,q.2.2.2.2.1,by have:=q.2.2.2.2.2.1;omega,q.2.2.2.2.2.2⟩;rw[Bb,show k+1-i=k-i+1 by have:=q.2.2.2.2.2.1;omega]
     rfl)
    clear Bb Ba Bh AV Bn Bg HS;simp only[List.length_nil] at r0;go_wp2_with fail;go_roundw
    case rel=>exact⟨k+1,D,hkl,by go_num,HN⟩
    case measure=>simp[intOf]<;>omega
   |cons t row=>
    have B4:=Hh Ba;have BN:row.length<=900000:=by have:=Ba.1;simp at this;omega
    have AZ:=Hh Bh;have Bo:=Hh Bb;obtain⟨N,hN⟩:=exq ((t::row).length);have BE:N<=row.length+1/\row.length+1<=N:=by rw[hN];simp
    rw[<-hN] at r0 q1;have HN:=Hh hN;have Br:=(Below.refl _ wr).alloc lz (.cells #[.slice sa N sc,.int .i64 Ab,.bool Aa] 137);have B0:=Hh (ae.new wr #[.slice sa N sc,.int .i64 Ab,.bool Aa] 137);have At:=lK (wr.alloc (.cells #[.slice sa N sc,.int .i64 Ab,.bool Aa] 137)) (.slice sa (t::row).length sc) (t::row) Ab Aa 0 nW (Bh.below Br lz) (by simp;omega) (by omega);rw[<-hN] at At;simp only[List.drop_zero,show ((0:Nat):Int)=0 from rfl] at At;obtain⟨sb,Ar⟩:∃x,bK (t::row) nW=x:=⟨_,rfl⟩;rw[Ar] at At;have By:=Hh Br;clear Bb Ba Bh hN Br;go_wp2_with fail;refine At.mono ?_;clear At;rintro _ w2 ⟨rfl,hb2⟩;have An:=Hh (By.out.trans (hb2.mono By.out.size));have AA:=Hh (B0.out.below hb2 B0.out.lt);clear hb2 r0 r1 r2;obtain⟨b0,As,rfl,BK,c0,c1,c2⟩:=(AZ.out.below An.out lz).get (j:=0) (by simp);simp only[Nat.zero_mul,Nat.add_zero,List.getElem_cons_zero] at c0 c1 c2;have BU:0<N:=by omega
    have BV:(0:Int)<(N:Int):=by omega
    cases sb
    case' true=>
     have Bv:t.kind=4:=by
      have:=Ar;unfold bK at this;simp at this
      exact this.1
     by_cases hd0:d=0
     case' pos=>
      have B5:decide ((0:Int)<(d:Int))=false:=by rw[decide_eq_false_iff_not];omega
      rw[Bv] at c0;have Bi:=Hh hd0;have Ax:=Hh Ar;have BH:¬0<d:=by omega
      clear Bv hd0 Ar c1 c2;have Ao:Hid ((cK (t::row) Ab Aa (0)).2≠0/\T=⟨[],0,(cK (t::row) Ab Aa (0)).1,(cK (t::row) Ab Aa (0)).2⟩):=Hh (ul (AV.out (.wrong (cK (t::row) Ab Aa (0)).1 (cK (t::row) Ab Aa (0)).2) (by rw[<-mr];simp only[aY];rw[if_pos Ax.out,if_pos (by rw[Bi.out])]) (by intro q;cases q) (by intro q;cases q)));have hL:=fu w2 (.slice (some ⟨b0,As,none⟩) (t::row).length sc) (t::row) Ab Aa (0) (AZ.out.below An.out lz) (by simp;omega) (by omega);rw[<-HN.out] at hL;generalize (cK (t::row) Ab Aa (0)).1=pa at *;generalize (cK (t::row) Ab Aa (0)).2=pe at *;simp only[bz,show ((0:Nat):Int)=0 from rfl] at hL;have k1:=AA.out;have Ad:=k1.lt;obtain⟨Ae,Ah,Af,Ai,Ag,Aj⟩:=k1.n3 rfl;clear k1;go_wp2_with fail;refine hL.mono ?_;clear hL Ae Af Ag Ah Ai Aj Ad;rintro _ w9 ⟨rfl,hb9⟩;have Am:=Hh (HS.out.below (An.out.trans (hb9.mono An.out.size)));clear hb9
     case' neg=>
      have B5:decide ((0:Int)<(d:Int))=true:=by rw[decide_eq_true_iff];omega
      have Bi:=Hh hd0;have Ax:=Hh Ar;have BH:0<d:=by omega
      clear Bv hd0 Ar c0 c1 c2
      by_cases h1:1<N
      case' pos=>
       have BD:(1:Int)<(N:Int):=by omega
       have B8:=Hh h1;have Ao:Hid ((cK (t::row) Ab Aa (1)).2≠0/\T=⟨[],0,(cK (t::row) Ab Aa (1)).1,(cK (t::row) Ab Aa (1)).2⟩):=Hh (ul (AV.out (.wrong (cK (t::row) Ab Aa (1)).1 (cK (t::row) Ab Aa (1)).2) (by rw[<-mr];simp only[aY];rw[if_pos Ax.out,if_neg (fun q=>Bi.out (by omega)),if_pos (by rw[<-HN.out];exact B8.out)]) (by intro q;cases q) (by intro q;cases q)));have hL:=fu w2 (.slice (some ⟨b0,As,none⟩) (t::row).length sc) (t::row) Ab Aa (1) (AZ.out.below An.out lz) (by simp;omega) (by omega);rw[<-HN.out] at hL;generalize (cK (t::row) Ab Aa (1)).1=pa at *;generalize (cK (t::row) Ab Aa (1)).2=pe at *;simp only[bz,show ((1:Nat):Int)=1 from rfl] at hL;have k1:=AA.out;have Ad:=k1.lt;obtain⟨Ae,Ah,Af,Ai,Ag,Aj⟩:=k1.n3 rfl;clear k1;go_wp2_with fail;refine hL.mono ?_;clear hL Ae Af Ag Ah Ai Aj Ad;rintro _ w9 ⟨rfl,hb9⟩;have Am:=Hh (HS.out.below (An.out.trans (hb9.mono An.out.size)));clear hb9
      case neg=>
       have BD:decide ((1:Int)<(N:Int))=false:=by rw[decide_eq_false_iff_not];omega
       have Ao:Hid (T=⟨D.map (·.1),k-i+1,0,0⟩):=Hh (by
        have hf:aY (d+1) (t::row) Ab Aa=.fin:=by
         simp only[aY];rw[if_pos Ax.out,if_neg (fun q=>Bi.out (by omega)),if_neg (by rw[<-HN.out];exact h1)]
        have:=Bo.out;rw[hf] at this
        exact this)
       have BI:=HS.out.2.2.2.2.2.1;have Am:=Hh (HS.out.below An.out);have k1:=AA.out;have Ad:=k1.lt;obtain⟨Ae,Ah,Af,Ai,Ag,Aj⟩:=k1.n3 rfl;have BS:=Hh h1;clear k1 Bo AV Bn;go_wp2_with (with_reducible first|refine bH ?_)
       refine Stop.out ?_;refine az rfl 56 _ _ rfl rfl _ rfl (#[.slice la D.length lc,.int .i64 ((k:Int)+1-(i:Int)),.int .i64 0,.int .i64 0,.bool false,.string ⟨#[]⟩,.string ⟨#[]⟩,.string ⟨#[]⟩,.slice none 0 0,.slice none 0 0,.slice none 0 0]) rfl _ _ (Am.out.2.2.2.2.1) rfl (by kernel_rfl) (jR _ _ _ _ _ _ _ _ _ _ _ _ _ _ _ _ _ _ _) ?_;have hq:ae ((w2).setRow w.heap.size (#[.slice la D.length lc,.int .i64 ((k:Int)+1-(i:Int)),.int .i64 0,.int .i64 0,.bool false,.string ⟨#[]⟩,.string ⟨#[]⟩,.string ⟨#[]⟩,.slice none 0 0,.slice none 0 0,.slice none 0 0])) w.heap.size (#[.slice la D.length lc,.int .i64 ((k:Int)+1-(i:Int)),.int .i64 0,.int .i64 0,.bool false,.string ⟨#[]⟩,.string ⟨#[]⟩,.string ⟨#[]⟩,.slice none 0 0,.slice none 0 0,.slice none 0 0]) 56:=setRow_heap _ _ _ _ _ _ (Am.out.2.2.2.2.1);go_wp2_with fail;obtain⟨A0,A1,A2,A3,A4,A5,A6,A7,A8,A9,Al⟩:=hq.m11 rfl;refine bodyPost_ret (v:=.agg (#[.slice la D.length lc,.int .i64 ((k:Int)+1-(i:Int)),.int .i64 0,.int .i64 0,.bool false,.string ⟨#[]⟩,.string ⟨#[]⟩,.string ⟨#[]⟩,.slice none 0 0,.slice none 0 0,.slice none 0 0])) (by simp[results,Tryz.results52,go_sem,A0,A1,A2,A3,A4,A5,A6,A7,A8,A9,Al]) rfl ?_
       refine⟨below_setRow Am.out.2.2.2.1 lz _,fun h=>absurd (by rw[Ao.out]) h,fun _=>?_⟩;rw[Ao.out];refine⟨la,lc,?_,?_⟩
       ·simp only[List.length_map]
        rw[show ((k-i+1:Nat):Int)=(k:Int)+1-(i:Int) by omega]
       ·simp only[List.length_map]
        exact gM.move lz (fun _ _ _=>rfl) (fun q hq _=>by have hq:w.heap.size+1<=q:=hq;show w.heap.size<=q;omega) (Am.out.1.done (Nat.le_of_eq (setRow_size _ _ _).symm) (fun q hq _=>setRow_other _ _ _ _ (by omega)))
    case' false=>
     by_cases hk1:t.kind=1
     case pos=>
      rw[hk1] at c0;obtain⟨kk,Bw⟩:∃kk,aY (d+1) (t::row) Ab Aa=kk:=⟨_,rfl⟩
      have Bu:kk=if bK row Ie then jI (t::row) Ab Aa t.text else fE (d+1) (t::row) Ab Aa t.text:=by
       rw[<-Bw];simp only[aY];rw[if_neg (by rw[Ar];decide),if_neg (by rw[hk1];decide)]
      have AW:=(Below.refl _ w2).alloc lz (.cells (bz 0 0) 56);have At:=lK (w2.alloc (.cells (bz 0 0) 56)) (.slice (some ⟨b0,As,none⟩) (t::row).length sc) (t::row) Ab Aa 1 Ie (AZ.out.below (An.out.trans (AW.mono An.out.size)) lz) (by simp;omega) (by omega);rw[<-HN.out] at At;simp only[List.drop_succ_cons,List.drop_zero,show ((1:Nat):Int)=1 from rfl] at At;obtain⟨BR,AY⟩:∃x,bK row Ie=x:=⟨_,rfl⟩;rw[AY] at At Bu;have Bf:=Hh Bu;have B2:=Hh Bw;have BC:=Hh AY;have Aw:=Hh AW;have B1:=Hh (ae.new w2 (bz 0 0) 56);have k1:=AA.out;have Ad:=k1.lt;obtain⟨Ae,Ah,Af,Ai,Ag,Aj⟩:=k1.n3 rfl;clear k1 hk1 Bw Bu AY AW Ar c1 c2 Bo;go_wp2_with fail;refine At.mono ?_;clear At Ae Af Ag Ah Ai Aj Ad c0;rintro _ w3 ⟨rfl,hb3⟩;have Bd:=Hh (An.out.trans ((Aw.out.trans (hb3.mono Aw.out.size)).mono An.out.size));have B7:=Hh ((AA.out.below Aw.out AA.out.lt).below hb3 (Nat.lt_of_lt_of_le AA.out.lt Aw.out.size));have Bp:=Hh (B1.out.below hb3 B1.out.lt);have BX:w2.heap.size<w3.heap.size:=Bp.out.lt;clear hb3;cases BR
      case' true=>
       cases row
       case nil=>have:=BC.out;simp[bK] at this
       case' cons t2 row=>
        have hC:=ER w3 t t2 row (.slice (some ⟨b0,As,none⟩) (t::t2::row).length sc) Ab Aa (AZ.out.below Bd.out lz) (by simp at BN;omega) (fun u hu=>(B4.out.2 u (by simp[hu])).1) (fun u hu=>(B4.out.2 u (by simp[hu])).2);rw[<-HN.out] at hC
        have Bk:Hid (aY (d+1) (t::t2::row) Ab Aa=kk/\kk≠.empty/\kk≠.fin):=Hh (by
         refine⟨B2.out,?_,?_⟩<;>(rw[Bf.out,if_pos rfl];rcases uZ (t::t2::row) Ab Aa t.text with ⟨a,e,q⟩|⟨x,q⟩<;>rw[q]<;>intro z<;>cases z))
        have hC:Calls Tryz.prog 93 #[.agg #[.slice (some ⟨b0,As,none⟩) N sc,.int .i64 Ab,.bool Aa]] w3 (OL w3 (vD size (R.drop (k+1)) d kk)):=by
         have q:=Bf.out;rw[if_pos rfl] at q;rw[q];rcases uZ (t::t2::row) Ab Aa t.text with ⟨a,e,q⟩|⟨x,q⟩<;>rw[q] at hC ⊢<;>exact hC
      case' false=>
       have hC:=Bn.out t row w3 rfl (Bg.out w3 Bd.out);have Bk:Hid (aY (d+1) (t::row) Ab Aa=kk/\kk≠.empty/\kk≠.fin):=Hh ⟨B2.out,by rw[Bf.out,if_neg (by decide)];exact (Aq _ _ _ _ _).1,by rw[Bf.out,if_neg (by decide)];exact (Aq _ _ _ _ _).2⟩;have q:=Bf.out;rw[if_neg (by decide)] at q;rw[<-q] at hC;clear q
      all_goals
       obtain⟨gr,Bt⟩:=exq (vD size (R.drop (k+1)) d kk);have Ax:Hid (GZ size R d k T (D.map (·.1)) (k-i) gr):=Hh (by rw[Bt];exact AV.out kk Bk.out.1 Bk.out.2.1 Bk.out.2.2);rw[<-Bt] at hC;clear Bt AV;have k1:=B7.out;have Ad:=k1.lt;obtain⟨Ae,Ah,Af,Ai,Ag,Aj⟩:=k1.n3 rfl;clear k1;go_wp2_with fail;refine hC.mono ?_;clear hC Ae Af Ag Ah Ai Aj Ad;rintro _ w5 ⟨hb5,hres⟩;have Bz:=Hh (Bd.out.trans (hb5.mono Bd.out.size));have Bj:=Hh (Bp.out.below hb5 Bp.out.lt);have BY:=hb5.size;clear hb5
       cases gr with
       |bad a e=>
        have hres:_=_:=hres;simp only[bz] at hres;subst hres;have Ao:Hid (e≠0/\T=⟨[],0,a,e⟩):=Hh Ax.out;have hne:(e != 0)=true:=by simpa using Ao.out.1
        go_wp2_with (with_reducible first|refine bH ?_)
        refine Stop.out ?_;refine az rfl 56 _ _ rfl rfl _ rfl (bz a e) rfl _ _ Bj.out rfl (by kernel_rfl) (jR _ _ _ _ _ _ _ _ _ _ _ _ _ _ _ _ _ _ _) ?_;have Ay:ae (w5.setRow w2.heap.size (bz a e)) w2.heap.size (bz a e) 56:=setRow_heap _ _ _ _ _ _ Bj.out;have Be:Hid (Below wr.heap.size wr (w5.setRow w2.heap.size (bz a e))):=Hh (below_setRow Bz.out An.out.size _);have Bl:Hid ((∀q,w3.heap.size<=q->q<w5.heap.size->(w5.setRow w2.heap.size (bz a e)).heap[q]?=w5.heap[q]?)/\w5.heap.size<=(w5.setRow w2.heap.size (bz a e)).heap.size):=Hh ⟨fun q hq _=>setRow_other _ _ _ _ (by omega),Nat.le_of_eq (setRow_size _ _ _).symm⟩
        generalize w5.setRow w2.heap.size (bz a e)=w6 at *;have BJ:=Ay.lt;have Bq:=Hh Ay;obtain⟨AB,AL,AC,AM,AD,AN,AE,AO,AF,AP,AG,AQ,AH,AR,AI,AS,AJ,AT,AK,AU,Au,Av⟩:=Ay.n11 rfl;clear Ay;have Am:=Hh (HS.out.below Be.out);go_upto_region 18 with fail
        go_wp2_with (with_reducible first|refine bH ?_)
        refine Stop.out ?_;refine az rfl 56 _ _ rfl rfl _ rfl (bz a e) rfl _ _ (Am.out.2.2.2.2.1) rfl (by kernel_rfl) (jR _ _ _ _ _ _ _ _ _ _ _ _ _ _ _ _ _ _ _) ?_;have hq:ae ((w6).setRow w.heap.size (bz a e)) w.heap.size (bz a e) 56:=setRow_heap _ _ _ _ _ _ (Am.out.2.2.2.2.1);go_wp2_with fail;obtain⟨A0,A1,A2,A3,A4,A5,A6,A7,A8,A9,Al⟩:=hq.m11 rfl;refine bodyPost_ret (v:=.agg (bz a e)) (by simp[results,Tryz.results52,go_sem,A0,A1,A2,A3,A4,A5,A6,A7,A8,A9,Al]) rfl ?_
        exact⟨below_setRow Am.out.2.2.2.1 lz _,fun _=>by rw[Ao.out.2],fun h=>absurd h (by rw[Ao.out.2];exact Ao.out.1)⟩
       |one x n=>
        obtain⟨bb,nm,vo,vt,xa,xn,xc,ya,yn,yc,za,zn,zc,rfl,B6⟩:=hres;have BA:=Hh B6;have Ao:Hid (1<=n/\k+n<=R.length/\T=dw size (R.drop (k+n)) d (D.map (·.1)++[x]) (k-i+n)):=Hh Ax.out;have BL:1<=n/\k+n<=R.length:=⟨Ao.out.1,Ao.out.2.1⟩;clear B6;go_wp2_with (with_reducible first|refine bH ?_)
        refine Stop.out ?_;refine az rfl 56 _ _ rfl rfl _ rfl (#[.slice none 0 0,.int .i64 (n:Nat),.int .i64 0,.int .i64 0,.bool bb,.string nm,.string vo,.string vt,.slice xa xn xc,.slice ya yn yc,.slice za zn zc]) rfl _ _ Bj.out rfl (by kernel_rfl) (jR _ _ _ _ _ _ _ _ _ _ _ _ _ _ _ _ _ _ _) ?_;have Ay:ae (w5.setRow w2.heap.size (#[.slice none 0 0,.int .i64 (n:Nat),.int .i64 0,.int .i64 0,.bool bb,.string nm,.string vo,.string vt,.slice xa xn xc,.slice ya yn yc,.slice za zn zc])) w2.heap.size (#[.slice none 0 0,.int .i64 (n:Nat),.int .i64 0,.int .i64 0,.bool bb,.string nm,.string vo,.string vt,.slice xa xn xc,.slice ya yn yc,.slice za zn zc]) 56:=setRow_heap _ _ _ _ _ _ Bj.out;have Be:Hid (Below wr.heap.size wr (w5.setRow w2.heap.size (#[.slice none 0 0,.int .i64 (n:Nat),.int .i64 0,.int .i64 0,.bool bb,.string nm,.string vo,.string vt,.slice xa xn xc,.slice ya yn yc,.slice za zn zc]))):=Hh (below_setRow Bz.out An.out.size _);have Bl:Hid ((∀q,w3.heap.size<=q->q<w5.heap.size->(w5.setRow w2.heap.size (#[.slice none 0 0,.int .i64 (n:Nat),.int .i64 0,.int .i64 0,.bool bb,.string nm,.string vo,.string vt,.slice xa xn xc,.slice ya yn yc,.slice za zn zc])).heap[q]?=w5.heap[q]?)/\w5.heap.size<=(w5.setRow w2.heap.size (#[.slice none 0 0,.int .i64 (n:Nat),.int .i64 0,.int .i64 0,.bool bb,.string nm,.string vo,.string vt,.slice xa xn xc,.slice ya yn yc,.slice za zn zc])).heap.size):=Hh ⟨fun q hq _=>setRow_other _ _ _ _ (by omega),Nat.le_of_eq (setRow_size _ _ _).symm⟩
        generalize w5.setRow w2.heap.size (#[.slice none 0 0,.int .i64 (n:Nat),.int .i64 0,.int .i64 0,.bool bb,.string nm,.string vo,.string vt,.slice xa xn xc,.slice ya yn yc,.slice za zn zc])=w6 at *;have BJ:=Ay.lt;have Bq:=Hh Ay;obtain⟨AB,AL,AC,AM,AD,AN,AE,AO,AF,AP,AG,AQ,AH,AR,AI,AS,AJ,AT,AK,AU,Au,Av⟩:=Ay.n11 rfl;clear Ay;have Am:=Hh (HS.out.below Be.out);go_wp2_with (with_reducible first|refine aK ?_)
        refine Stop.out ?_;have AX:Below w6.heap.size w6 (w6.alloc (.cells #[.bool bb,.string nm,.string vo,.string vt,.slice xa xn xc,.slice ya yn yc,.slice za zn zc] 54)):=(Below.refl _ w6).alloc lz _;refine uh rfl _ _ rfl (w.heap.size+1) (.slice la D.length lc) D [.bool bb,.string nm,.string vo,.string vt,.slice xa xn xc,.slice ya yn yc,.slice za zn zc] rfl (by exact (Am.out.1.below AX).own) w6.heap.size rfl (ae.new w6 _ _) rfl (OV _ _ _ _ _ _ _ _ _ _ _ _ _) (by omega) (by have:=Am.out.2.2.2.2.2.2;simp;omega) _ rfl ?_;intro g7 c7 w7 hown7 hg7 hat7
        have B3:Hid (OC w w7 R size d i (k+n) T (.slice (some ⟨g7,0,none⟩) (D.length+1) c7) (D++[(x,[.bool bb,.string nm,.string vo,.string vt,.slice xa xn xc,.slice ya yn yc,.slice za zn zc])])/\ae w7 w2.heap.size (#[.slice none 0 0,.int .i64 (n:Nat),.int .i64 0,.int .i64 0,.bool bb,.string nm,.string vo,.string vt,.slice xa xn xc,.slice ya yn yc,.slice za zn zc]) 56):=Hh (by
         have BG:=Be.out.trans (AX.mono Be.out.size);have BQ:aP (fun q=>wr.heap.size<=q) (w6.alloc (.cells #[.bool bb,.string nm,.string vo,.string vt,.slice xa xn xc,.slice ya yn yc,.slice za zn zc] 54)) x [.bool bb,.string nm,.string vo,.string vt,.slice xa xn xc,.slice ya yn yc,.slice za zn zc]:=aP.move (Nat.le_trans Bl.out.2 AX.size) (fun q hq hl=>by rw[AX.block q (by have:=Bl.out.2;omega)];exact Bl.out.1 q hq hl) (fun q hq _=>Nat.le_trans Bd.out.size hq) _ _ BA.out;have hp:=HS.out.1.push BG BQ hg7 hown7 hat7 HS.out.2.2.2.2.2.2;have hi:=Am.out.below AX;have BF:=hi.2.2.2.1.grown hg7 (by have:=hi.2.2.2.2.2.2;omega) (fun q e=>by have:=(World.ownsRow.lt hi.1.own q e).1;omega);refine⟨⟨hp,?_,by rw[List.length_append,List.length_singleton];omega,BF,hi.2.2.2.2.1.kept hg7 (fun e=>dC hi.1.own hi.2.2.2.2.1 (by decide) _ e.symm rfl),by have:=hi.2.2.2.2.2.1;omega,Nat.le_trans hi.2.2.2.2.2.2 hg7.size⟩,?_⟩
         ·rw[Ao.out.2.2,List.map_append,show k+n-i=k-i+n by have:=hi.2.2.2.2.2.1;omega]
          rfl
         ·have hc:=Bq.out.below AX Bq.out.lt
          exact hc.kept hg7 (fun e=>dC hi.1.own hc (by decide) _ e.symm rfl))
        clear hown7 hg7 hat7 AX AB AC AD AE AF AG AH AI AJ AK Au AL AM AN AO AP AQ AR AS AT AU Av;have z7:=B3.out.2.cell 1 _ rfl;go_wp2_with fail;go_roundw
        case rel=>exact⟨k+n,_,BL.2,by go_num,Hh B3.out.1⟩
        case measure=>simp[intOf]<;>omega
     case' neg=>
      have BW:(t.kind != 1)=true:=by simpa using hk1
      have BB:=Hh hk1;have Ax:=Hh Ar;clear hk1 Ar c1 c2;have Ao:Hid ((cK (t::row) Ab Aa (0)).2≠0/\T=⟨[],0,(cK (t::row) Ab Aa (0)).1,(cK (t::row) Ab Aa (0)).2⟩):=Hh (ul (AV.out (.wrong (cK (t::row) Ab Aa (0)).1 (cK (t::row) Ab Aa (0)).2) (by rw[<-mr];simp only[aY];rw[if_neg (by rw[Ax.out];decide),if_pos BB.out]) (by intro q;cases q) (by intro q;cases q)));have hL:=fu w2 (.slice (some ⟨b0,As,none⟩) (t::row).length sc) (t::row) Ab Aa (0) (AZ.out.below An.out lz) (by simp;omega) (by omega);rw[<-HN.out] at hL;generalize (cK (t::row) Ab Aa (0)).1=pa at *;generalize (cK (t::row) Ab Aa (0)).2=pe at *;simp only[bz,show ((0:Nat):Int)=0 from rfl] at hL;have k1:=AA.out;have Ad:=k1.lt;obtain⟨Ae,Ah,Af,Ai,Ag,Aj⟩:=k1.n3 rfl;clear k1;go_wp2_with fail;refine hL.mono ?_;clear hL Ae Af Ag Ah Ai Aj Ad;rintro _ w9 ⟨rfl,hb9⟩;have Am:=Hh (HS.out.below (An.out.trans (hb9.mono An.out.size)));clear hb9
    all_goals
     go_wp2_with (with_reducible first|refine bH ?_)
     refine Stop.out ?_;refine az rfl 56 _ _ rfl rfl _ rfl (bz pa pe) rfl _ _ (Am.out.2.2.2.2.1) rfl (by kernel_rfl) (jR _ _ _ _ _ _ _ _ _ _ _ _ _ _ _ _ _ _ _) ?_;have hq:ae ((w9).setRow w.heap.size (bz pa pe)) w.heap.size (bz pa pe) 56:=setRow_heap _ _ _ _ _ _ (Am.out.2.2.2.2.1);go_wp2_with fail;obtain⟨A0,A1,A2,A3,A4,A5,A6,A7,A8,A9,Al⟩:=hq.m11 rfl;refine bodyPost_ret (v:=.agg (bz pa pe)) (by simp[results,Tryz.results52,go_sem,A0,A1,A2,A3,A4,A5,A6,A7,A8,A9,Al]) rfl ?_
     exact⟨below_setRow Am.out.2.2.2.1 lz _,fun _=>by rw[Ao.out.2],fun h=>absurd h (by rw[Ao.out.2];exact Ao.out.1)⟩
  ·obtain rfl:k=R.length:=by omega
   have Bm:Hid (T=if 0<d then ⟨[],0,size,2⟩ else ⟨D.map (·.1),R.length-i,0,0⟩):=Hh (by rw[HS.out.2.1,Jc size R _ d lz])
   by_cases hd0:0<d
   ·have B5:decide ((0:Int)<(d:Int))=true:=by rw[decide_eq_true_iff];omega
    obtain⟨rb,s,rfl,BM,Bc,r0,r1,r2⟩:=(HR.out.below HS.out.2.2.2.1).get (j:=R.length-1) (by omega);rw[hlast] at r1;have i1:IntKind.i64.wrap ((R.length:Int)-1)=((R.length-1:Nat):Int):=by rw[IntWalk.i64_in _ (by omega)];omega
    have i2:(0:Int)<=((R.length-1:Nat):Int)/\((R.length-1:Nat):Int)<(R.length:Int):=by omega
    clear Bc r0 r2;go_wp2_with (with_reducible first|refine bH ?_)
    refine Stop.out ?_;refine az rfl 56 _ _ rfl rfl _ rfl (bz size 2) rfl _ _ (HS.out.2.2.2.2.1) rfl (by kernel_rfl) (jR _ _ _ _ _ _ _ _ _ _ _ _ _ _ _ _ _ _ _) ?_;have hq:ae ((wr).setRow w.heap.size (bz size 2)) w.heap.size (bz size 2) 56:=setRow_heap _ _ _ _ _ _ (HS.out.2.2.2.2.1);go_wp2_with fail;obtain⟨A0,A1,A2,A3,A4,A5,A6,A7,A8,A9,Al⟩:=hq.m11 rfl;refine bodyPost_ret (v:=.agg (bz size 2)) (by simp[results,Tryz.results52,go_sem,A0,A1,A2,A3,A4,A5,A6,A7,A8,A9,Al]) rfl ?_
    refine⟨below_setRow HS.out.2.2.2.1 lz _,fun _=>by rw[Bm.out,if_pos hd0],fun h=>absurd h (by rw[Bm.out,if_pos hd0];exact (by decide:(2:Int)≠0))⟩
   ·have BI:=HS.out.2.2.2.2.2.1
    go_wp2_with (with_reducible first|refine bH ?_)
    refine Stop.out ?_;refine az rfl 56 _ _ rfl rfl _ rfl (#[.slice la D.length lc,.int .i64 ((R.length:Int)-(i:Int)),.int .i64 0,.int .i64 0,.bool false,.string ⟨#[]⟩,.string ⟨#[]⟩,.string ⟨#[]⟩,.slice none 0 0,.slice none 0 0,.slice none 0 0]) rfl _ _ (HS.out.2.2.2.2.1) rfl (by kernel_rfl) (jR _ _ _ _ _ _ _ _ _ _ _ _ _ _ _ _ _ _ _) ?_;have hq:ae ((wr).setRow w.heap.size (#[.slice la D.length lc,.int .i64 ((R.length:Int)-(i:Int)),.int .i64 0,.int .i64 0,.bool false,.string ⟨#[]⟩,.string ⟨#[]⟩,.string ⟨#[]⟩,.slice none 0 0,.slice none 0 0,.slice none 0 0])) w.heap.size (#[.slice la D.length lc,.int .i64 ((R.length:Int)-(i:Int)),.int .i64 0,.int .i64 0,.bool false,.string ⟨#[]⟩,.string ⟨#[]⟩,.string ⟨#[]⟩,.slice none 0 0,.slice none 0 0,.slice none 0 0]) 56:=setRow_heap _ _ _ _ _ _ (HS.out.2.2.2.2.1);go_wp2_with fail;obtain⟨A0,A1,A2,A3,A4,A5,A6,A7,A8,A9,Al⟩:=hq.m11 rfl;refine bodyPost_ret (v:=.agg (#[.slice la D.length lc,.int .i64 ((R.length:Int)-(i:Int)),.int .i64 0,.int .i64 0,.bool false,.string ⟨#[]⟩,.string ⟨#[]⟩,.string ⟨#[]⟩,.slice none 0 0,.slice none 0 0,.slice none 0 0])) (by simp[results,Tryz.results52,go_sem,A0,A1,A2,A3,A4,A5,A6,A7,A8,A9,Al]) rfl ?_
    refine⟨below_setRow HS.out.2.2.2.1 lz _,fun h=>absurd (by rw[Bm.out,if_neg hd0]) h,fun _=>?_⟩;rw[Bm.out,if_neg hd0];refine⟨la,lc,?_,?_⟩
    ·simp only[List.length_map]
     rw[show ((R.length-i:Nat):Int)=(R.length:Int)-(i:Int) by omega]
    ·simp only[List.length_map]
     exact gM.move lz (fun _ _ _=>rfl) (fun q hq _=>by have hq:w.heap.size+1<=q:=hq;show w.heap.size<=q;omega) (HS.out.1.done (Nat.le_of_eq (setRow_size _ _ _).symm) (fun q hq _=>setRow_other _ _ _ _ (by omega)))
theorem aO.one(base:Nat)(w:World)(t:ag)(hb:base<=w.heap.size):aO base (w.alloc (.cells #[.int .i64 t.kind,.string t.text,.int .i64 t.pos] 63)) (.slice (some ⟨w.heap.size,0,Option.none⟩) 1 1) [t]:=by
 have h:=World.ownsRow_lit (base:=base) (e:=63) (size:=3) w #[.int .i64 t.kind,.string t.text,.int .i64 t.pos] 1 hb (by decide) (by simp);unfold aO
 simpa [jL] using h
def Au(w:World)(l:List ag)(a e:Int)(r:Ending)(w':World):Prop:=∃v,r=.returned (.agg #[v,.int .i64 a,.int .i64 e])/\aO w.heap.size w' v l/\Below w.heap.size w w'
theorem iw(c:UInt8)(w:World):Calls Tryz.prog 80 #[.int .u8 c.toNat] w fun e w'=>e=.returned (.bool (jO c))/\w=w':=by
 have hL:jO c=(decide (65<=c.toNat/\c.toNat<=90) || (decide (97<=c.toNat/\c.toNat<=122) || decide (c.toNat=95))):=rfl;generalize jO c=b at hL;generalize c.toNat=n at hL
 have hr:((n<65\/(n<97/\65<=n/\90<n/\n<95)\/(n<97/\65<=n/\90<n/\n=96)\/(97<=n/\122<n))/\b=false)\/(((n<97/\65<=n/\n<=90)\/(97<=n/\n<=122)\/(n<97/\65<=n/\90<n/\n=95))/\b=true):=by
  cases b with
  |false=>
   have h:=hL.symm;simp only[Bool.or_eq_false_iff,decide_eq_false_iff_not] at h
   left
   exact⟨by omega,rfl⟩
  |true=>
   have h:=hL.symm;simp only[Bool.or_eq_true,decide_eq_true_eq] at h
   right
   exact⟨by omega,rfl⟩
 clear hL;rcases hr with ⟨(h|⟨h1,h2,h3,h4⟩|⟨h1,h2,h3,rfl⟩|⟨h1,h2⟩),rfl⟩|⟨(⟨h1,h2,h3⟩|⟨h1,h2⟩|⟨h1,h2,h3,rfl⟩),rfl⟩
 all_goals
  go_enter Tryz.func80,Tryz.ntmps80;go_wp2;go_ret;first
  |exact⟨rfl,rfl⟩
  |exact⟨iQ (by simp only[ne_eq,Bool.or_eq_false_iff,Bool.or_eq_true,Bool.and_eq_true,Bool.and_eq_false_iff,decide_eq_false_iff_not,decide_eq_true_eq,beq_eq_false_iff_ne,beq_iff_eq];omega),rfl⟩
theorem Az(c:UInt8)(w:World):Calls Tryz.prog 45 #[.int .u8 c.toNat] w fun e w'=>e=.returned (.bool (bG c))/\w=w':=by
 by_cases h1:c=32
 ·subst h1
  go_enter Tryz.func45,Tryz.ntmps45;go_wp2;go_ret;exact⟨rfl,rfl⟩
 by_cases h2:c=9
 ·subst h2
  go_enter Tryz.func45,Tryz.ntmps45;go_wp2;go_ret;exact⟨rfl,rfl⟩
 by_cases h3:c=13
 ·subst h3
  go_enter Tryz.func45,Tryz.ntmps45;go_wp2;go_ret;exact⟨rfl,rfl⟩
 have hb:bG c=false:=by simp[bG,iX,h1,h2,h3]
 rw[hb];have d1:=eY h1 (m:=32) rfl;have d2:=eY h2 (m:=9) rfl;have d3:=eY h3 (m:=13) rfl;clear h1 h2 h3 hb;go_enter Tryz.func45,Tryz.ntmps45;go_wp2;go_ret;exact⟨rfl,rfl⟩
theorem Nf{s w:ByteArray}{k:Nat}(h:k+w.size<=s.size):(s.extract k (k+w.size)=w)↔w.data.toList.isPrefixOf (s.data.toList.drop k)=true:=by
 rw[List.isPrefixOf_iff_prefix]
 have e1:(s.extract k (k+w.size)).data.toList=(s.data.toList.drop k).take w.data.toList.length:=by
  rw[eQ,List.drop_take,<-au];congr 1;omega
 constructor
 ·intro he
  rw[he] at e1;rw[List.prefix_iff_eq_take];exact e1
 ·intro hp
  apply kg
  rw[e1];exact (List.prefix_iff_eq_take.1 hp).symm
theorem rR(s:ByteArray)(k:Nat)(p:ByteArray)(w:World)(hs:s.size<=1048576)(hk:k<=s.size)(hp:p.size<=1000) :
  Calls Tryz.prog 84 #[.string s,.int .i64 (k:Nat),.string p] w fun e w'=>e=.returned (.bool (p.data.toList.isPrefixOf (s.data.toList.drop k)))/\w=w':=by
 by_cases h:k+p.size<=s.size
 ·have hx:=Nf h
  generalize p.data.toList.isPrefixOf (s.data.toList.drop k)=b at hx;have Aa:s.extract k (k+p.size)=s.extract k (k+p.size):=rfl;have HX:=Hh hx;clear hx
  cases b with
  |true=>
   have he:=HX.out.2 rfl;go_enter Tryz.func84,Tryz.ntmps84;go_wp2;go_ret;exact⟨rfl,rfl⟩
  |false=>
   have he:=nT (fun e=>by have:=HX.out.1 e;cases this);go_enter Tryz.func84,Tryz.ntmps84;go_wp2;go_ret;exact⟨rfl,rfl⟩
 ·have hb:p.data.toList.isPrefixOf (s.data.toList.drop k)=false:=by
   rw[<-Bool.not_eq_true];intro hp;have:=(List.isPrefixOf_iff_prefix.1 hp).length_le;rw[List.length_drop,<-au,<-au] at this;omega
  rw[hb];clear hb;go_enter Tryz.func84,Tryz.ntmps84;go_wp2;go_ret;exact⟨rfl,rfl⟩
theorem Fw(l:Bs)(k:Nat)(h:k<l.length):bR (l.drop k)=if l[k]=10 then 0 else bR (l.drop (k+1))+1:=by
 rw[List.drop_eq_getElem_cons h,bR]
theorem GQ(s:ByteArray)(k:Nat)(w:World)(hs:s.size<=1048576)(hk:k<=s.size) :
  Calls Tryz.prog 85 #[.string s,.int .i64 (k:Nat)] w fun e w'=>e=.returned (.int .i64 ((k+bR (s.data.toList.drop k):Nat):Int))/\w=w':=by
 obtain⟨q,hq⟩:∃q,k+bR (s.data.toList.drop k)=q:=⟨_,rfl⟩;rw[hq];have HQ:=Hh hq;clear hq;go_enter Tryz.func85,Tryz.ntmps85;go_wp2_with fail;go_loop [1] (fun i=>∃j:Nat,i=.int .i64 (j:Int)/\j<=s.size/\j+bR (s.data.toList.drop j)=q) (fun i=>s.size-(intOf i).toNat)
 case atStart=>exact⟨k,rfl,hk,HQ.out⟩
 case round=>
  clear HQ;obtain⟨j,rfl,hj,hI⟩:=hrel
  by_cases hlt:j<s.size
  ·have Aa:=Fw s.data.toList j (by rw[<-au];exact hlt)
   rw[Aa,<-iU hlt] at hI;clear Aa
   by_cases h10:s[j]'hlt=10
   ·have d:(((s[j]'hlt).toNat:Int) != 10)=false:=by rw[h10];rfl
    rw[if_pos h10] at hI;have HI:=Hh hI;clear hI h10;go_wp2;go_ret;exact⟨dW (by have:=HI.out;omega),rfl⟩
   ·have d:(((s[j]'hlt).toNat:Int) != 10)=true:=by
     have:=eY h10 (m:=10) rfl;rw[beq_eq_false_iff_ne] at this;rw[bne_iff_ne];exact this
    rw[if_neg h10] at hI;have HI:=Hh hI;clear hI h10;go_wp2;go_round
    case rel=>exact⟨j+1,by go_num,by omega,by have:=HI.out;omega⟩
    case measure=>simp[intOf];omega
  ·obtain rfl:j=s.size:=by omega
   have he:bR (s.data.toList.drop s.size)=0:=by rw[au,List.drop_length];rfl
   rw[he] at hI;have HI:=Hh hI;clear hI he;go_wp2;go_ret;exact⟨dW (by have:=HI.out;omega),rfl⟩
theorem lu(s:ByteArray)(k n:Nat)(kd:Int)(w:World)(hs:s.size<=1048576)(hk:k+n<=s.size) :
  Calls Tryz.prog 79 #[.string s,.int .i64 (k:Nat),.int .i64 kd,.int .i64 (n:Nat)] w (Au w [⟨kd,s.extract k (k+n),(k:Nat)⟩] 0 0):=by
 go_enter Tryz.func79,Tryz.ntmps79;go_wp2;have hc:=(ae.new w #[.slice (some ⟨w.heap.size+1,0,none⟩) 1 1,.int .i64 0,.int .i64 0] 38).alloc (.cells #[.int .i64 kd,.string (s.extract k (k+n)),.int .i64 (k:Nat)] 63);obtain⟨Ab,Ae,Ac,Af,Ad,Ag⟩:=hc.n3 rfl;have Aa:=aO.one w.heap.size (w.alloc (.cells #[.slice (some ⟨w.heap.size+1,0,none⟩) 1 1,.int .i64 0,.int .i64 0] 38)) ⟨kd,s.extract k (k+n),(k:Nat)⟩ (by simp);rw[World.size_alloc] at Aa;refine bodyPost_ret (v:=.agg #[.slice (some ⟨w.heap.size+1,0,none⟩) 1 1,.int .i64 0,.int .i64 0]) (by simp[results,Tryz.results79,go_sem,Ab,Ac,Ad]) rfl ?_;exact⟨_,rfl,Aa,((Below.refl _ w).alloc lz _).alloc (by simp) _⟩
def xF(s:ByteArray)(k:Nat):LR->List ag×Int×Int
 |.tok kd n=>([⟨(kd:Nat),s.extract k (k+n),(k:Nat)⟩],0,0)
 |.bad o e=>([],((k+o:Nat):Int),e)
theorem Ov(s:ByteArray)(a b:Nat):bs (s.extract a b)=nb ((s.data.toList.take b).drop a):=by
 unfold bs nb;rw[eQ]
theorem MP(l:Bs)(k:Nat):nb (l.drop k)=(nb l).drop k:=by unfold nb;rw[List.map_drop]
theorem uY(s:ByteArray)(k stop kd:Nat)(w:World)(hs:s.size<=1048576)(hk:k<=stop)(hst:stop<=s.size) :
  Calls Tryz.prog 86 #[.string s,.int .i64 (k:Nat),.int .i64 (stop:Nat),.int .i64 (kd:Nat)] w
   (Au w (xF s k (fP ((s.data.toList.take stop).drop k) kd)).1 (xF s k (fP ((s.data.toList.take stop).drop k) kd)).2.1 (xF s k (fP ((s.data.toList.take stop).drop k) kd)).2.2):=by
 obtain⟨L,hL⟩:∃L,(s.data.toList.take stop).drop k=L:=⟨_,rfl⟩;have Aq:L.length=stop-k:=by rw[<-hL,List.length_drop,List.length_take,<-au];omega
 have Ab:∀(j:Nat) W,j<=L.length->Calls Tryz.prog 120 #[.string (s.extract 0 stop),.int .i64 ((k+j:Nat):Int)] W fun e w'=>e=.returned (.tuple #[.int .i64 (aF ((nb L).drop j)).1,.int .i64 (aF ((nb L).drop j)).2])/\Below W.heap.size W w':=fun j W hj=>by
  have h:=G8 (s.extract 0 stop) (k+j) W (by rw[kI hst];omega) (by rw[kI hst];omega);rw[Ov,List.drop_zero] at h;rw[<-hL,MP,List.drop_drop];exact h
 rw[hL];clear hL;go_enter Tryz.func86,Tryz.ntmps86;go_wp2_with fail;go_loopw [9,10,11] (fun i _ _ wr=>∃(j:Nat) (pre:List (Nat×Nat)),i=.int .i64 ((k+j:Nat):Int)/\j<=L.length/\nQ (nb L) j pre/\(∀x∈pre,mJ x=false)/\Below w.heap.size w wr/\ae wr w.heap.size #[.slice none 0 0,.int .i64 0,.int .i64 0] 38) (fun i _ _ _=>stop-(intOf i).toNat)
 case atStart=>exact⟨0,[],rfl,Nat.zero_le _,nQ.zero _,by simp,(Below.refl _ w).alloc lz _,ae.new w _ _⟩
 case round=>
  obtain⟨j,pre,rfl,hj,hR,hg,hb,hc⟩:=hrel;have Ak:=hc.lt
  by_cases h:j<L.length
  ·have A1:k+j<stop:=by omega
   have hO:=fun W=>Ab j W hj;obtain⟨c,n,h1⟩:∃c n,aF ((nb L).drop j)=(c,n):=⟨_,_,rfl⟩;rw[h1] at hO;have As:=(ko ((nb L).drop j) ((gy L).drop j)).1;rw[h1] at As;simp only[List.length_drop,j3] at As;have HR:=Hh hR;have HG:=Hh hg;have H1:=Hh h1;clear hR hg h1 Ab
   by_cases hn:n=0
   ·subst hn
    have hw:yN L=some (j,7):=by
     have h2:=HR.out.bad (by rw[j3];exact h) (by rw[H1.out]);rw[wh (by rw[h2];exact HG.out),h2]
    have HW:=Hh hw;clear hw;go_wp2_with fail;refine (hO _).mono ?_;rintro _ w2 ⟨rfl,hb2⟩;have Aa:=hc.below hb2 Ak;have Ao:=Aa.lt;have HB:=Hh (hb.trans (hb2.mono hb.size));clear hb hb2 hc;obtain⟨Ad,Ag,Ae,Ah,Af,Ai⟩:=Aa.n3 rfl;go_wp2;have hq:=((Aa.setI 0 (.slice none 0 0)).setI 1 (.int .i64 ((k:Int)+j))).setI 2 (.int .i64 7);obtain⟨hx,hy,hz⟩:=hq.m3 rfl;refine bodyPost_ret (v:=.agg #[.slice none 0 0,.int .i64 ((k:Int)+j),.int .i64 7]) (by simp[results,Tryz.results86,go_sem,hx,hy,hz]) rfl ?_;rw[jZ HW.out];exact⟨_,by simp[xF],aO.nil,aS _ _ lz [.slice none 0 0,.int .i64 ((k:Int)+j),.int .i64 7] 0 _ _ HB.out⟩
   ·have Ar:=HR.out.good (by rw[j3];exact h) H1.out hn
    have A2:((n:Int)==0)=false:=by rw[beq_eq_false_iff_ne];omega
    have Al:=Hh Ar;clear Ar
    by_cases hx:c<32/\c≠9
    ·have d1:decide ((c:Int)<32)=true:=by rw[decide_eq_true_eq];omega
     have d2:((c:Int) != 9)=true:=by rw[bne_iff_ne];omega
     have Ac:mJ (j,c)=true:=by simp[mJ,hx.1,hx.2]
     have hw:yN L=some (j,3):=BU (x:=(j,c)) ⟨(scan ((nb L).drop (j+n)) (j+n)).1,by have:=Al.out;unfold nQ at this;rw[this]⟩ HG.out Ac;clear hx Ac;have HW:=Hh hw;clear hw;go_wp2_with fail;refine (hO _).mono ?_;rintro _ w2 ⟨rfl,hb2⟩;have Aa:=hc.below hb2 Ak;have Ao:=Aa.lt;have HB:=Hh (hb.trans (hb2.mono hb.size));clear hb hb2 hc;obtain⟨Ad,Ag,Ae,Ah,Af,Ai⟩:=Aa.n3 rfl;go_wp2;have hq:=((Aa.setI 0 (.slice none 0 0)).setI 1 (.int .i64 ((k:Int)+j))).setI 2 (.int .i64 3);obtain⟨hx,hy,hz⟩:=hq.m3 rfl;refine bodyPost_ret (v:=.agg #[.slice none 0 0,.int .i64 ((k:Int)+j),.int .i64 3]) (by simp[results,Tryz.results86,go_sem,hx,hy,hz]) rfl ?_;rw[jZ HW.out];exact⟨_,by simp[xF],aO.nil,aS _ _ lz [.slice none 0 0,.int .i64 ((k:Int)+j),.int .i64 3] 0 _ _ HB.out⟩
    ·have Ac:mJ (j,c)=false:=by
      simp only[mJ,Bool.and_eq_false_iff,decide_eq_false_iff_not,bne_eq_false_iff_eq];omega
     have Ap:=Hh (uJ HG.out Ac);have hr:32<=c\/c=9:=by omega
     have A3:1<=n:=by omega
     clear hx Ac hn;rcases hr with hr|hr
     ·have d1:decide ((c:Int)<32)=false:=by rw[decide_eq_false_iff_not];omega
      go_wp2_with fail;refine (hO _).mono ?_;rintro _ w2 ⟨rfl,hb2⟩;have Aa:=hc.below hb2 Ak;have Am:=hb.trans (hb2.mono hb.size);go_wp2;go_roundw
      case rel=>exact⟨j+n,_,by go_num,by omega,Al.out,Ap.out,Am,Aa⟩
      case measure=>simp[intOf];omega
     ·have d1:decide ((c:Int)<32)=true:=by rw[decide_eq_true_eq];omega
      have d2:((c:Int) != 9)=false:=by rw[bne_eq_false_iff_eq];omega
      go_wp2_with fail;refine (hO _).mono ?_;rintro _ w2 ⟨rfl,hb2⟩;have Aa:=hc.below hb2 Ak;have Am:=hb.trans (hb2.mono hb.size);go_wp2;go_roundw
      case rel=>exact⟨j+n,_,by go_num,by omega,Al.out,Ap.out,Am,Aa⟩
      case measure=>simp[intOf];omega
  ·obtain rfl:j=L.length:=by omega
   have hw:yN L=none:=by
    have h2:=hR.done (by rw[j3]);rw[wh (by rw[h2];exact hg),h2]
   have An:k+L.length=stop:=by omega
   have HW:=Hh hw;have A0:=Hh Aq;clear hw hR hg Ab h Aq;rw[An];have Aa:=hc;have HB:=Hh hb;clear hb;obtain⟨At,Ax,Av,Ay,Aw,Az⟩:=hc.n3 rfl;go_wp2;have hq:=(((Aa.setI 0 (.slice (some ⟨wr.heap.size,0,none⟩) 1 1)).setI 1 (.int .i64 0)).setI 2 (.int .i64 0)).alloc (.cells #[.int .i64 (kd:Nat),.string (s.extract k stop),.int .i64 (k:Nat)] 63);obtain⟨hx,hy,hz⟩:=hq.m3 rfl;refine bodyPost_ret (v:=.agg #[.slice (some ⟨wr.heap.size,0,none⟩) 1 1,.int .i64 0,.int .i64 0]) (by simp[results,Tryz.results86,go_sem,hx,hy,hz]) rfl ?_;rw[lD HW.out];have Aj:=aO.one w.heap.size (ak wr w.heap.size 0 [.slice (some ⟨wr.heap.size,0,none⟩) 1 1,.int .i64 0,.int .i64 0]) ⟨(kd:Nat),s.extract k (k+L.length),(k:Nat)⟩ (by rw[aA];exact HB.out.size);rw[aA,An] at Aj;exact⟨_,rfl,by simp only[xF];rw[An];exact Aj,(aS _ _ lz [.slice (some ⟨wr.heap.size,0,none⟩) 1 1,.int .i64 0,.int .i64 0] 0 _ _ HB.out).alloc (by rw[aA];exact HB.out.size) _⟩
end Go.Proofs.YtbcdaaobbebooaaGreatDoor
