import Derived.Test.YtbcdaaobbebooaaGreatDoorMgt
set_option linter.unusedSimpArgs false
set_option linter.unusedVariables false
set_option maxRecDepth 100000
set_option maxHeartbeats 20000000
namespace Go.Proofs.YtbcdaaobbebooaaGreatDoor
open Go.RowKit Go.Tab
theorem Jq.drew{w W:World}{s:Value}{stop:Int}{last:Bool}{nm:ByteArray}{v:Value}{pre:List ByteArray}(h:Jq w W s stop last nm v pre):Jq w W.drew s stop last nm v pre:=
 ⟨h.b.drew,h.k0.drew,h.k1.drew,h.k2.drew,h.own.moved (fun _ _=>rfl),h.le⟩
theorem De(size:Int)(l:List fO)(d:Nat)(out:List bP)(n:Nat)(h:(dm size l d out n).e=0):(dm size l d out n).n<=n+l.length:=
 ((jv size (l.length+1) l d out n (List.replicate d bY) bY (by omega) (by simp)).2 h).2.1
theorem DZ.below2{B:Nat}{w w':World}{v:Value}{R:List fO}(h:DZ B w v R)(hb:Below w.heap.size w w'):DZ B w' v R:=h.below hb
theorem Gt{w w3 W:World}{v:Value}{l:List ByteArray}(hx:aX Value.string 9 (w.heap.size+3) w3 v l)(hs:w3.heap.size<=W.heap.size)(hh:∀k,w.heap.size+3<=k->k<w3.heap.size->W.heap[k]?=w3.heap[k]?):mo (fun b=>w.heap.size<=b) W v l:=by
 have ho:aX Value.string 9 (w.heap.size+3) W v l:=hx.moved (fun k hk=>hh k (World.ownsRow.lt hx k hk).1 (World.ownsRow.lt hx k hk).2);exact⟨ho.row,fun k hk=>by have h9:=World.ownsRow.lt ho k hk;exact⟨by omega,h9.2⟩⟩
theorem Co(R:List fO)(size:Int)(i d B:Nat)(w:World)(v:Value)(hR:DZ B w v R)(hi:i<R.length)(t:ag)(row:List ag)(ht:R[i].toks=t::row)(hd:d<=64)(hn:row.length<=900000)(hsh:∀t∈row,t.text.size<=1048576)(hq:∀t∈row,t.kind=3->jP t.text≠none)(hRn:R.length<=1000000)(hI:d<64->BG R size (i+1) (d+1)) :
  Calls Tryz.prog 94 #[v,.int .i64 (i:Nat),.int .i64 (d:Nat)] w (Oz w (vX size (R.drop (i+1)) d (gL (d+1) R[i].toks R[i].stop R[i].last t.text))):=by
 obtain⟨B4,B6,rfl,B3,-⟩:=hR.len;obtain⟨rb,s,rfl,B2,AY,r0,r1,r2⟩:=hR.get hi;rw[ht] at AY ⊢;obtain⟨Ai,A5⟩:=exq R[i].stop;obtain⟨Ah,A3⟩:=exq R[i].last;rw[<-A5] at r1 ⊢;rw[<-A3] at r2 ⊢;clear A5 A3 ht;have hr:=AY.toks;clear AY;obtain⟨sa,sn,sc⟩:=s;simp only[bQ] at r0 hr;obtain⟨ra,rc,he,Bj,Bu,-⟩:=hr.len;cases he
 obtain⟨N,hN⟩:=exq ((t::row).length);have Br:N<=row.length+1/\row.length+1<=N:=by rw[hN];simp
 rw[<-hN] at hr Bj r0;unfold maxLen at Bu;have HN:=Hh hN;clear hN;obtain⟨R0,AW⟩:=exq (gL (d+1) (t::row) Ai Ah t.text);have HR:=Hh AW;rw[<-AW];clear AW;obtain⟨b,As,rfl,AD,c0,c1,c2⟩:=hr.get (j:=0) (by simp);simp only[Nat.zero_mul,Nat.add_zero,List.getElem_cons_zero] at c0 c1 c2;have H0:=Hh hr;have Bn:=Hh hR;have HI:=Hh hI;clear hr hR hI;have HA:=Hh (Jq.start w (.slice (some ⟨b,As,none⟩) N sc) Ai Ah t.text);go_enter Tryz.func94,Tryz.ntmps94;go_wp2_with fail;go_loopw [9] (fun iv wr=>∃(m:Nat) (pre:List ByteArray) (v:Value),m<=row.length/\iv=.int .i64 ((1+m:Nat):Int)/\Hid (vz row m pre)/\Hid (Jq w wr (.slice (some ⟨b,As,none⟩) N sc) Ai Ah t.text v pre)) (fun iv _=>N-(intOf iv).toNat)
 case atStart=>exact⟨0,[],_,Nat.zero_le _,rfl,Hh (vz.zero _),HA⟩
 case round=>
  clear HA c0 c1 c2 AD r0 r1 r2;obtain⟨m,pre,v,hm,rfl,A8,HS⟩:=hrel;have Bw:pre.length<=row.length:=by rw[A8.out.1];exact hm
  obtain⟨M,hM⟩:=exq (1+m);have Bq:M<=1+m/\1+m<=M:=by omega
  rw[<-hM];have hr:=H0.out.below HS.out.b lz;obtain⟨va,vc,rfl,-⟩:=HS.out.own.row.len
  by_cases hlab:∃h:m<row.length,row[m].kind=3
  ·obtain⟨A4,h3⟩:=hlab
   have A7:M<(t::row).length:=by simp;omega
   have AC:(t::row)[M]=row[m]:=by subst hM;simp[Nat.add_comm 1]
   obtain⟨bb,ob,he,AD,c0,c1,c2⟩:=hr.get A7;cases he
   rw[AC] at c0 c1 c2;rw[h3] at c0
   obtain⟨x,hx⟩:∃x,jP row[m].text=some x:=by
    cases h:jP row[m].text with
    |none=>exact absurd h (hq _ (List.getElem_mem A4) h3)
    |some x=>exact⟨x,rfl⟩
   obtain⟨p,e,Bk⟩:=Cx _ x hx;have hQ:=fun W=>rO row[m].text W (by have:=hsh _ (List.getElem_mem A4);omega);simp only[Bk] at hQ;have Bp:=Hh (A8.out.step A4 h3 hx);have AA:decide ((M:Int)<(N:Int))=true:=by rw[decide_eq_true_iff];omega
   generalize row[m]=tk at *;have k1:=HS.out.k1;have k2:=HS.out.k2;have Bj:=k1.lt;have Bv:=k2.lt;obtain⟨Ab,Ae,Ac,Af,Ad,Ag⟩:=k1.n3 rfl;obtain⟨AG,AN,AH,AO,AI,AP,AJ,AQ,AK,AR,AL,AS,AM,AT⟩:=k2.n7 rfl;clear k1 k2 hr AC Bk hM;have Bo:=Hh HS.out.drew;have Bz:∀w:World,(Instr.field 126 (.agg #[.string x,.int .i64 p,.int .i64 e]) 0).run Tryz.prog w=.ok (.string x) w:=fun _=>by kernel_rfl
   have Bs:=hQ wr.drew;clear hQ;go_wp2_with fail
   go_region_law (first
    |(go_simp;go_at_call 83;(with_reducible refine Bs.mono ?_);rintro _ w2 ⟨rfl,hb2⟩;have Aj:=Hh (Bo.out.step hb2);have z2:=Aj.out.k2;have BD:=z2.lt;have BB:=z2.cell 5 _ rfl;have BC:=z2.frozen 5;have Bb:=Hh Aj.out.own;clear z2 hb2)
    |(refine vS rfl _ _ _ rfl (w.heap.size+3) 9 16 (.string ⟨#[]⟩) Tryz.underlying34 Tryz.infoStr rfl (fun _=>rfl) pre [x] (by exact Bb.out.alloc _) (by exact (aX.lit (f:=Value.string) (E:=9) (base:=w2.heap.size) (w:=w2) [x] lz (by simp[maxLen])).row) (by (try simp);unfold maxLen;omega) (by (try simp);omega) (by have:=Aj.out.le;(try simp);omega) (w2.alloc (.cells #[.string x] 9)) (Below.refl _ _) ?_;intro v3 w3 hown3 hb3 hg3;obtain⟨B5,B7,rfl,-⟩:=hown3.row.len;have AV:=Hh (((Below.refl w2.heap.size w2).alloc lz (.cells #[.string x] 9)).mono Aj.out.le |>.trans hb3);have y2:=Aj.out.k2.below AV.out (by omega);have BA:=y2.lt;have B8:=y2.cell 5 _ rfl;have B9:=y2.frozen 5;have Bc:=Hh hown3;clear y2 hown3 hb3 hg3))
   all_goals
    have HN:=Hh (Aj.out.label AV.out Bc.out);clear Bc Bb AV;go_wp2;go_roundw
   all_goals first
    |(exact⟨m+1,_,_,by omega,by go_num,Bp,by have q:=HN.out;simp only[List.length_append,List.length_cons,List.length_nil,Nat.zero_add] at q;exact Hh q⟩)
    |(simp[intOf]<;>omega)
  ·have A6:jr row=pre/\pre.length=m:=by
    by_cases A4:m<row.length
    ·exact A8.out.stop A4 (fun h3=>hlab ⟨A4,h3⟩)
    ·exact A8.out.done (by omega)
   have Aa:=HR.out;unfold gL at Aa;simp only[List.drop_succ_cons,List.drop_zero,A6.1,A6.2] at Aa;rw[<-hM] at Aa;clear A6 A8 HR hM
   by_cases A4:m<row.length
   case' pos=>
    have A7:M<(t::row).length:=by simp;omega
    obtain⟨bb,ob,he,AD,c0,c1,c2⟩:=hr.get A7;cases he
    have AC:(t::row)[M]=row[m]:=by
     have hM:M=1+m:=by omega
     subst hM;simp[Nat.add_comm 1]
    have h3:((t::row)[M].kind==3)=false:=by
     rw[beq_eq_false_iff_ne,AC];exact fun h3=>hlab ⟨A4,h3⟩
    have AA:decide ((M:Int)<(N:Int))=true:=by rw[decide_eq_true_iff];omega
    have Bh:(t::row)[M]?=some (t::row)[M]:=List.getElem?_eq_getElem A7;generalize (t::row)[M]=tk at *;have AZ:=Hh Bh;have Aq:=Hh Aa;clear AC hlab Bh hr Aa c1;have An:=lW _ (.slice (some ⟨b,As,none⟩) N sc) (t::row) Ai Ah (M) rF (H0.out.below HS.out.b lz) (by simp;omega) (by omega);rw[show (((M:Nat)):Int)=(M:Int) by omega] at An;obtain⟨sb,Al⟩:∃x,bO ((t::row).drop (M)) rF=x:=⟨_,rfl⟩;rw[Al] at An;have k1:=HS.out.k1;have Ak:=k1.lt;obtain⟨Ab,Ae,Ac,Af,Ad,Ag⟩:=k1.n3 rfl;clear k1;go_wp2_with fail;refine An.mono ?_;clear An Ab Ac Ad Ae Af Ag Ak;rintro _ w2 ⟨rfl,hb2⟩;have Aj:=Hh (HS.out.step hb2);clear hb2;clear c0 h3 AD;cases sb
    case' false=>
     have Aa:=Aq.out;rw[Al,if_pos rfl] at Aa;clear Aq Al;have hL:=fH _ (.slice (some ⟨b,As,none⟩) N sc) (t::row) Ai Ah (M) (H0.out.below Aj.out.b lz) (by simp;omega) (by omega);rw[show (((M:Nat)):Int)=(M:Int) by omega] at hL;rw[mQ] at Aa;have Ar:=Hh Aa;clear Aa;generalize (cB (t::row) Ai Ah (M)).1=pa at *;generalize (cB (t::row) Ai Ah (M)).2=pe at *;simp only[bz] at hL;have k1:=Aj.out.k1;have Ak:=k1.lt;obtain⟨Ab,Ae,Ac,Af,Ad,Ag⟩:=k1.n3 rfl;clear k1;go_wp2_with fail;refine hL.mono ?_;clear hL Ab Ac Ad Ae Af Ag Ak;rintro _ w4 ⟨rfl,hb4⟩;have Ap:=Hh (Aj.out.step hb4);clear hb4
    case' true=>
     have Aa:=Aq.out;rw[Al,if_neg (by decide),AZ.out] at Aa;clear Aq Al
     by_cases hd64:d=64
     case pos=>
      rw[if_pos (by omega)] at Aa;simp only at Aa;subst hd64;obtain⟨bb,ob,he,AD,c0,c1,c2⟩:=(H0.out.below Aj.out.b lz).get A7;cases he
      have AF:(t::row)[M].pos=tk.pos:=by
       have:=AZ.out;rw[List.getElem?_eq_getElem A7] at this;rw[Option.some.inj this]
      rw[AF] at c2;have Ar:=Hh Aa;have k1:=Aj.out.k1;have Ak:=k1.lt;obtain⟨Ab,Ae,Ac,Af,Ad,Ag⟩:=k1.n3 rfl;clear k1 Aa c0 c1 AF;go_wp2_with (with_reducible first|refine bC ?_)
      refine Stop.out ?_;refine az rfl 56 _ _ rfl rfl _ rfl (bz tk.pos 5) rfl _ _ (Aj.out.k0) rfl (by kernel_rfl) (jZ _ _ _ _ _ _ _ _ _ _ _ _ _ _ _ _ _ _ _) ?_;have hq:aa ((w2).setRow w.heap.size (bz tk.pos 5)) w.heap.size (bz tk.pos 5) 56:=setRow_heap _ _ _ _ _ _ (Aj.out.k0);go_wp2_with fail;obtain⟨At,Au,Av,Aw,Ax,Ay,Az,A0,A1,A2,Am⟩:=hq.m11 rfl;refine bodyPost_ret (v:=.agg (bz tk.pos 5)) (by simp[results,Tryz.results94,go_sem,At,Au,Av,Aw,Ax,Ay,Az,A0,A1,A2,Am]) rfl ?_
      rw[Ar.out,DK];exact .bad (below_setRow Aj.out.b lz _)
     case' neg=>
      rw[if_neg (by omega)] at Aa;have By:decide ((64:Int)<=(d:Int))=false:=by rw[decide_eq_false_iff_not];omega
      have Aq:=Hh Aa;clear Aa;have An:=lW _ (.slice (some ⟨b,As,none⟩) N sc) (t::row) Ai Ah (M+1) ng (H0.out.below Aj.out.b lz) (by simp;omega) (by omega);rw[show (((M+1:Nat)):Int)=(M:Int)+1 by omega] at An;obtain⟨sb,Al⟩:∃x,bO ((t::row).drop (M+1)) ng=x:=⟨_,rfl⟩;rw[Al] at An;have k1:=Aj.out.k1;have Ak:=k1.lt;obtain⟨Ab,Ae,Ac,Af,Ad,Ag⟩:=k1.n3 rfl;clear k1;go_wp2_with fail;refine An.mono ?_;clear An Ab Ac Ad Ae Af Ag Ak;rintro _ w3 ⟨rfl,hb2⟩;have Ao:=Hh (Aj.out.step hb2);clear hb2;have Aa:=Aq.out;rw[<-HN.out] at Aa;have k1:=Ao.out.k1;have Bt:=k1.lt;cases sb
      case' true=>
       have AE:=KS Al;rw[<-HN.out] at AE;simp only[List.drop_succ_cons] at Al;rw[if_neg (by omega),Al,if_neg (by decide)] at Aa;clear Aq Al
       by_cases h2:M+2<N
       case' pos=>
        rw[if_pos h2] at Aa;have Bf:(M:Int)+2<(N:Int):=by omega
        clear h2;obtain⟨Ab,Ae,Ac,Af,Ad,Ag⟩:=k1.n3 rfl;clear k1;have hL:=fH _ (.slice (some ⟨b,As,none⟩) N sc) (t::row) Ai Ah (M+2) (H0.out.below Ao.out.b lz) (by simp;omega) (by omega);rw[show (((M+2:Nat)):Int)=(M:Int)+2 by omega] at hL;rw[mQ] at Aa;have Ar:=Hh Aa;clear Aa;generalize (cB (t::row) Ai Ah (M+2)).1=pa at *;generalize (cB (t::row) Ai Ah (M+2)).2=pe at *;simp only[bz] at hL;go_wp2_with fail;refine hL.mono ?_;clear hL Ab Ac Ad Ae Af Ag;rintro _ w4 ⟨rfl,hb4⟩;have Ap:=Hh (Ao.out.step hb4);clear hb4
       case neg=>
        rw[if_neg h2] at Aa;have Bf:decide ((M:Int)+2<(N:Int))=false:=by rw[decide_eq_false_iff_not];omega
        have Ar:=Hh Aa;have k2:=Ao.out.k2;have AX:=k2.lt;obtain⟨Ab,Ae,Ac,Af,Ad,Ag⟩:=k1.n3 rfl;obtain⟨AG,AN,AH,AO,AI,AP,AJ,AQ,AK,AR,AL,AS,AM,AT⟩:=k2.n7 rfl;clear k1 k2 h2 Aa;go_wp2_with (with_reducible first|refine bC ?_)
        refine Stop.out ?_;refine az rfl 56 _ _ rfl rfl _ rfl (#[.slice none 0 0,.int .i64 (1),.int .i64 0,.int .i64 0,.bool true,.string t.text,.string ⟨#[]⟩,.string ⟨#[]⟩,.slice none 0 0,.slice va pre.length vc,.slice none 0 0]) rfl _ _ (Ao.out.k0) rfl (by kernel_rfl) (jZ _ _ _ _ _ _ _ _ _ _ _ _ _ _ _ _ _ _ _) ?_;have hq:aa ((w3).setRow w.heap.size (#[.slice none 0 0,.int .i64 (1),.int .i64 0,.int .i64 0,.bool true,.string t.text,.string ⟨#[]⟩,.string ⟨#[]⟩,.slice none 0 0,.slice va pre.length vc,.slice none 0 0])) w.heap.size (#[.slice none 0 0,.int .i64 (1),.int .i64 0,.int .i64 0,.bool true,.string t.text,.string ⟨#[]⟩,.string ⟨#[]⟩,.slice none 0 0,.slice va pre.length vc,.slice none 0 0]) 56:=setRow_heap _ _ _ _ _ _ (Ao.out.k0);go_wp2_with fail;obtain⟨At,Au,Av,Aw,Ax,Ay,Az,A0,A1,A2,Am⟩:=hq.m11 rfl;refine bodyPost_ret (v:=.agg (#[.slice none 0 0,.int .i64 (1),.int .i64 0,.int .i64 0,.bool true,.string t.text,.string ⟨#[]⟩,.string ⟨#[]⟩,.slice none 0 0,.slice va pre.length vc,.slice none 0 0])) (by simp[results,Tryz.results94,go_sem,At,Au,Av,Aw,Ax,Ay,Az,A0,A1,A2,Am]) rfl ?_
        rw[Ar.out,Je];refine⟨below_setRow Ao.out.b lz _,true,t.text,⟨#[]⟩,⟨#[]⟩,none,0,0,va,pre.length,vc,none,0,0,rfl,?_⟩;exact aN.leaf (ae.leaf _ _ _ _) (Gt Ao.out.own (Nat.le_of_eq (setRow_size _ _ _).symm) (fun k hk _=>setRow_other _ _ _ _ (by omega)))
      case' false=>
       by_cases h1:N=M+1
       case pos=>
        rw[if_pos h1] at Aa;have Bx:decide ((M:Int)+1<(N:Int))=false:=by rw[decide_eq_false_iff_not];omega
        have AU:=HI.out (by omega) w3 _ B (Bn.out.below2 Ao.out.b);rw[show ((i+1:Nat):Int)=(i:Int)+1 by omega,show ((d+1:Nat):Int)=(d:Int)+1 by omega] at AU;have Ar:=Hh Aa;obtain⟨g,hg⟩:=exq (dm size (R.drop (i+1)) (d+1) [] 0);rw[<-hg] at AU;have HG:=Hh hg;obtain⟨gl,gn,ga,ge⟩:=g;obtain⟨Ab,Ae,Ac,Af,Ad,Ag⟩:=k1.n3 rfl;clear k1 h1 Aa hg Aq Al;go_wp2_with fail;refine AU.mono ?_;clear AU Ab Ac Ad Ae Af Ag;rintro e4 w4 ⟨hb4,hbad,hok⟩;simp only at hbad hok;have Ap:=Hh (Ao.out.step hb4)
        by_cases he:ge=0
        ·subst he
         obtain⟨ia,ic,rfl,Bi⟩:=hok rfl;have HX:=Jh Bi Ao.out.le;clear hok hbad hb4 Bi;have k2:=Ap.out.k2;have AX:=k2.lt;obtain⟨AG,AN,AH,AO,AI,AP,AJ,AQ,AK,AR,AL,AS,AM,AT⟩:=k2.n7 rfl;clear k2
         have B0:gn<=1000000:=by
          have:=De size (R.drop (i+1)) (d+1) [] 0 (by rw[<-HG.out]);rw[<-HG.out] at this;simp only[List.length_drop] at this;omega
         have A9:=Hh ((Ap.out.b.setCell (p:=⟨w.heap.size+2,6,none⟩) (by show w.heap.size<=w.heap.size+2;omega) (.slice ia gl.length ic)).alloc (by rw[World.size_setCell];have:=Ap.out.le;omega) (.cells (gotY (.slice ia gl.length ic) (gn:Nat) 0 0) 56));have Ba:Hid (aa ((w4.setCell ⟨w.heap.size+2,6,none⟩ (.slice ia gl.length ic)).alloc (.cells (gotY (.slice ia gl.length ic) (gn:Nat) 0 0) 56)) w.heap.size (bz 0 0) 56):=Hh ((Ap.out.k0.setOther _ _ (by show w.heap.size+2≠_;omega)).alloc _);go_upto_region 21 with fail
         go_wp2_with (with_reducible first|refine bC ?_)
         refine Stop.out ?_;refine az rfl 56 _ _ rfl rfl _ rfl (#[.slice none 0 0,.int .i64 ((gn:Int)+1),.int .i64 0,.int .i64 0,.bool true,.string t.text,.string ⟨#[]⟩,.string ⟨#[]⟩,.slice none 0 0,.slice va pre.length vc,.slice ia gl.length ic]) rfl _ _ (Ba.out) rfl (by kernel_rfl) (jZ _ _ _ _ _ _ _ _ _ _ _ _ _ _ _ _ _ _ _) ?_;have hq:aa ((((w4.setCell ⟨w.heap.size+2,6,none⟩ (.slice ia gl.length ic)).alloc (.cells (gotY (.slice ia gl.length ic) (gn:Nat) 0 0) 56))).setRow w.heap.size (#[.slice none 0 0,.int .i64 ((gn:Int)+1),.int .i64 0,.int .i64 0,.bool true,.string t.text,.string ⟨#[]⟩,.string ⟨#[]⟩,.slice none 0 0,.slice va pre.length vc,.slice ia gl.length ic])) w.heap.size (#[.slice none 0 0,.int .i64 ((gn:Int)+1),.int .i64 0,.int .i64 0,.bool true,.string t.text,.string ⟨#[]⟩,.string ⟨#[]⟩,.slice none 0 0,.slice va pre.length vc,.slice ia gl.length ic]) 56:=setRow_heap _ _ _ _ _ _ (Ba.out);go_wp2_with fail;obtain⟨At,Au,Av,Aw,Ax,Ay,Az,A0⟩:=hq.m8 rfl
         obtain⟨-,-,-,-,-,-,-,-,A1,A2,Am⟩:=hq.m11 rfl;refine bodyPost_ret (v:=.agg (#[.slice none 0 0,.int .i64 ((gn:Int)+1),.int .i64 0,.int .i64 0,.bool true,.string t.text,.string ⟨#[]⟩,.string ⟨#[]⟩,.slice none 0 0,.slice va pre.length vc,.slice ia gl.length ic])) (by simp[results,Tryz.results94,go_sem,At,Au,Av,Aw,Ax,Ay,Az,A0,A1,A2,Am]) rfl ?_;rw[Ar.out];unfold vX;rw[<-HG.out];simp only;rw[if_neg (by simp)]
         have AB:∀k,w.heap.size+3<=k->k<w4.heap.size->(((w4.setCell ⟨w.heap.size+2,6,none⟩ (.slice ia gl.length ic)).alloc (.cells (gotY (.slice ia gl.length ic) (gn:Nat) 0 0) 56)).setRow w.heap.size (#[.slice none 0 0,.int .i64 ((gn:Int)+1),.int .i64 0,.int .i64 0,.bool true,.string t.text,.string ⟨#[]⟩,.string ⟨#[]⟩,.slice none 0 0,.slice va pre.length vc,.slice ia gl.length ic])).heap[k]?=w4.heap[k]?:=fun k h1 h2=>by
          rw[setRow_other _ _ _ _ (by omega),Below.heap_alloc _ _ _ (by rw[World.size_setCell];exact h2),Below.heap_setCell _ _ _ _ (by show k≠w.heap.size+2;omega)]
         have Bl:w4.heap.size<=(((w4.setCell ⟨w.heap.size+2,6,none⟩ (.slice ia gl.length ic)).alloc (.cells (gotY (.slice ia gl.length ic) (gn:Nat) 0 0) 56)).setRow w.heap.size (#[.slice none 0 0,.int .i64 ((gn:Int)+1),.int .i64 0,.int .i64 0,.bool true,.string t.text,.string ⟨#[]⟩,.string ⟨#[]⟩,.slice none 0 0,.slice va pre.length vc,.slice ia gl.length ic])).heap.size:=by rw[setRow_size,World.size_alloc,World.size_setCell];omega
         refine⟨below_setRow A9.out lz _,true,t.text,⟨#[]⟩,⟨#[]⟩,none,0,0,va,pre.length,vc,ia,gl.length,ic,rfl,?_⟩;exact aN.whole (ae.leaf _ _ _ _) (Gt Ap.out.own Bl AB) (iT.move Bl (fun k hk hl=>AB k (Nat.le_trans HX.out.2 hk) hl) (fun k hk _=>by have h9:=HX.out.2;have h8:w3.heap.size<=k:=hk;show w.heap.size<=k;omega) HX.out.1)
        ·have Bg:=hbad he
         simp only[bz] at Bg;subst Bg;have B1:(ge != 0)=true:=by simpa using he
         clear hok hbad hb4;have Be:∀o,Below w4.heap.size w4 (w4.alloc o):=fun o=>(Below.refl _ w4).alloc lz o;have A9:=Hh (fun o=>Ap.out.step (Be o));clear Be;go_upto_region 19 with fail
         go_wp2_with (with_reducible first|refine bC ?_)
         refine Stop.out ?_;refine az rfl 56 _ _ rfl rfl _ rfl (bz ga ge) rfl _ _ ((A9.out _).k0) rfl (by kernel_rfl) (jZ _ _ _ _ _ _ _ _ _ _ _ _ _ _ _ _ _ _ _) ?_;have hq:aa ((w4.alloc (.cells (bz ga ge) 56)).setRow w.heap.size (bz ga ge)) w.heap.size (bz ga ge) 56:=setRow_heap _ _ _ _ _ _ ((A9.out _).k0);go_wp2_with fail;obtain⟨At,Au,Av,Aw,Ax,Ay,Az,A0,A1,A2,Am⟩:=hq.m11 rfl;refine bodyPost_ret (v:=.agg (bz ga ge)) (by simp[results,Tryz.results94,go_sem,At,Au,Av,Aw,Ax,Ay,Az,A0,A1,A2,Am]) rfl ?_
         rw[Ar.out];unfold vX;rw[<-HG.out];simp only;rw[if_pos he];exact .bad (below_setRow (A9.out _).b lz _)
       case' neg=>
        simp only[List.drop_succ_cons] at Al;rw[if_neg h1,Al,if_pos rfl] at Aa;have AE:M+1<N:=by omega
        have Bf:(M:Int)+1<(N:Int):=by omega
        clear h1 Aq Al;obtain⟨Ab,Ae,Ac,Af,Ad,Ag⟩:=k1.n3 rfl;clear k1;have hL:=fH _ (.slice (some ⟨b,As,none⟩) N sc) (t::row) Ai Ah (M+1) (H0.out.below Ao.out.b lz) (by simp;omega) (by omega);rw[show (((M+1:Nat)):Int)=(M:Int)+1 by omega] at hL;rw[mQ] at Aa;have Ar:=Hh Aa;clear Aa;generalize (cB (t::row) Ai Ah (M+1)).1=pa at *;generalize (cB (t::row) Ai Ah (M+1)).2=pe at *;simp only[bz] at hL;go_wp2_with fail;refine hL.mono ?_;clear hL Ab Ac Ad Ae Af Ag;rintro _ w4 ⟨rfl,hb4⟩;have Ap:=Hh (Ao.out.step hb4);clear hb4
   case' neg=>
    have Bd:N=M:=by omega
    have AA:decide ((M:Int)<(N:Int))=false:=by rw[decide_eq_false_iff_not];omega
    have Aq:=Hh Aa;have Bm:=Hh Bd;clear hlab Aa hr Bd;have An:=lW _ (.slice (some ⟨b,As,none⟩) N sc) (t::row) Ai Ah (M) rF (H0.out.below HS.out.b lz) (by simp;omega) (by omega);rw[show (((M:Nat)):Int)=(M:Int) by omega] at An;obtain⟨sb,Al⟩:∃x,bO ((t::row).drop (M)) rF=x:=⟨_,rfl⟩;rw[Al] at An;have k1:=HS.out.k1;have Ak:=k1.lt;obtain⟨Ab,Ae,Ac,Af,Ad,Ag⟩:=k1.n3 rfl;clear k1;go_wp2_with fail;refine An.mono ?_;clear An Ab Ac Ad Ae Af Ag Ak;rintro _ w2 ⟨rfl,hb2⟩;have Aj:=Hh (HS.out.step hb2);clear hb2;have Aa:=Aq.out;rw[show bO ((t::row).drop M) rF=false by rw[List.drop_eq_nil_of_le (by rw[<-HN.out,Bm.out];exact Nat.le_refl _)];rfl] at Al Aa;subst Al;rw[if_pos rfl] at Aa;clear Aq;have hL:=fH _ (.slice (some ⟨b,As,none⟩) N sc) (t::row) Ai Ah (M) (H0.out.below Aj.out.b lz) (by simp;omega) (by omega);rw[show (((M:Nat)):Int)=(M:Int) by omega] at hL;rw[mQ] at Aa;have Ar:=Hh Aa;clear Aa;generalize (cB (t::row) Ai Ah (M)).1=pa at *;generalize (cB (t::row) Ai Ah (M)).2=pe at *;simp only[bz] at hL;have k1:=Aj.out.k1;have Ak:=k1.lt;obtain⟨Ab,Ae,Ac,-⟩:=k1.n2 rfl
    obtain⟨-,-,-,Af,Ad,Ag⟩:=k1.n3 rfl;clear k1;go_wp2_with fail;refine hL.mono ?_;clear hL Ab Ac Ad Ae Af Ag Ak;rintro _ w4 ⟨rfl,hb4⟩;have Ap:=Hh (Aj.out.step hb4);clear hb4
   all_goals
    go_wp2_with (with_reducible first|refine bC ?_)
    refine Stop.out ?_;refine az rfl 56 _ _ rfl rfl _ rfl (bz pa pe) rfl _ _ (Ap.out.k0) rfl (by kernel_rfl) (jZ _ _ _ _ _ _ _ _ _ _ _ _ _ _ _ _ _ _ _) ?_;have hq:aa ((w4).setRow w.heap.size (bz pa pe)) w.heap.size (bz pa pe) 56:=setRow_heap _ _ _ _ _ _ (Ap.out.k0);go_wp2_with fail;obtain⟨At,Au,Av,Aw,Ax,Ay,Az,A0,A1,A2,Am⟩:=hq.m11 rfl;refine bodyPost_ret (v:=.agg (bz pa pe)) (by simp[results,Tryz.results94,go_sem,At,Au,Av,Aw,Ax,Ay,Az,A0,A1,A2,Am]) rfl ?_
    rw[Ar.out,DK];exact .bad (below_setRow Ap.out.b lz _)
structure GR(B:Nat)(w:World)(lv:Value)(D:List (bP×List Value)):Prop where
 own:w.ownsRow B 54 7 lv D.length (D.flatMap (·.2))
 fin:∀d∈D,aN (fun q=>B<=q/\lv.ownBlock≠some q) w d.1 d.2
theorem GR.nil(B:Nat)(w:World):GR B w (.slice none 0 0) []:=⟨World.ownsRow_nil _ _ _ _,fun d hd=>by cases hd⟩
section
variable {B:Nat} {w w' w'':World} {lv v':Value} {D:List (bP×List Value)}
theorem GR.below(h:GR B w lv D)(hb:Below w.heap.size w w'):GR B w' lv D:=
 ⟨bJ h.own (fun k e=>hb.block k (World.ownsRow.lt h.own k e).2),fun d hd=>aN.below hb _ _ (h.fin d hd)⟩
theorem GR.push(h:GR B w lv D){x:bP}{cs:List Value}{g2 c2:Nat}(hb:Below w.heap.size w w')(hx:aN (fun q=>w.heap.size<=q) w' x cs)(hg:w'.grownBy w'' lv.ownBlock)
  (hown:w''.ownsRow B 54 7 (.slice (some ⟨g2,0,none⟩) (D.length+1) c2) (D.length+1) (D.flatMap (·.2)++cs)) (hat:lv.ownBlock=some g2\/g2=w'.heap.size) (hB:B<=w.heap.size):GR B w'' (.slice (some ⟨g2,0,none⟩) (D.length+1) c2) (D++[(x,cs)]):=by
 have hl:=fun k e=>(World.ownsRow.lt h.own k e).2;have hs:=hb.size;refine⟨?_,fun d hd=>?_⟩
 ·rw[List.flatMap_append,List.length_append,List.length_singleton]
  simpa using hown
 ·rcases List.mem_append.1 hd with hd|hd
  ·refine aN.move (Nat.le_trans hb.size hg.size) (fun k hk hl2=>?_) (fun k hk hl2=>⟨hk.1,?_⟩) _ _ (h.fin d hd)
   ·rw[hg.block k (by omega) (fun e=>hk.2 e.symm),hb.block k hl2]
   ·intro e
    have e:g2=k:=by simpa [Value.ownBlock] using e
    subst e;rcases hat with q|q
    ·exact hk.2 q
    ·omega
  ·rw[List.mem_singleton.1 hd]
   refine aN.move hg.size (fun k hk hl2=>hg.block k hl2 (fun e=>by have hk:w.heap.size<=k:=hk;have:=hl k e.symm;omega)) (fun k hk hl2=>⟨by have hk:w.heap.size<=k:=hk;omega,?_⟩) _ _ hx;intro e;have hk:w.heap.size<=k:=hk;have e:g2=k:=by simpa [Value.ownBlock] using e
   subst e;rcases hat with q|q
   ·have:=hl _ q;omega
   ·omega
theorem GR.form(h:GR B w lv D):∃a c,lv=.slice a D.length c:=AV h.own
theorem GR.done(h:GR B w lv D)(hs:w.heap.size<=w'.heap.size)(hh:∀k,B<=k->k<w.heap.size->w'.heap[k]?=w.heap[k]?):iT (fun q=>B<=q) w' lv (D.map (·.1)):=by
 have Ac:=World.ownsRow.lt h.own
 have h7:∀cs∈D.map (·.2),cs.length=7:=fun cs hcs=>by
  obtain⟨s,hs,rfl⟩:=List.mem_map.1 hcs;exact mI.len7 (h.fin s hs)
 have Ab:Jn B w lv (D.map (·.2)):=⟨by rw[List.length_map,<-List.flatMap_def];exact h.own,h7⟩;refine iT.move (w:=w) (P:=fun q=>B<=q) hs (fun k hk hl=>hh k hk hl) (fun k hk _=>hk) ?_
 have Aa:∃a cap,lv=.slice a D.length cap/\D.length<=cap/\cap<=maxLen/\(a=none->cap=0)/\∀x,a=some x->x.spot=none/\lv.ownBlock=some x.block:=by
  rcases h.own.2 with ⟨q1,q2⟩|⟨g,cap,cur,q1,-,-,q2,q3,-⟩
  ·exact⟨none,0,by rw[q1,q2],by rw[q2];exact Nat.le_refl _,Nat.zero_le _,fun _=>rfl,fun x hx=>by cases hx⟩
  ·exact⟨_,cap,q1,q2,q3,(fun h=>by cases h),fun x hx=>by cases hx;exact⟨rfl,by rw[q1];rfl⟩⟩
 obtain⟨a,cap,q1,q2,q3,q4,q5⟩:=Aa;refine⟨a,cap,by rw[q1,List.length_map],by rw[List.length_map];exact q2,q3,q4,fun x hx hne=>?_⟩;obtain⟨r1,r2⟩:=q5 x hx;refine⟨r1,⟨(Ac _ r2).2,(Ac _ r2).1⟩,jH.make _ _ (fun k hk=>?_)⟩;rw[List.length_map] at hk;rw[q1] at Ab;obtain⟨g,he,-,-,hc,-⟩:=Ab.cellAt (k:=k) (by simpa using hk);rw[hx] at he;cases he
 refine⟨D[k].2,fun j u hu=>?_,?_⟩
 ·rw[Nat.zero_add]
  exact hc j u (by simpa using hu)
 ·rw[List.getElem_map]
  exact aN.move lz (fun _ _ _=>rfl) (fun k hk _=>hk.1) _ _ (h.fin _ (List.getElem_mem hk))
end
theorem uC{w:World}{ops:Array Oper}{rest:List Oper}{p:Oper}{a:Act}{Q:Exit->Act->World->Prop}(hgd:p.guard=none)(s x:Operand)
  (hop:p.op=.call { callee:=.builtin .append,args:=#[s,x],argTypes:=#[42,42] }) (B:Nat) (lv:Value) (D:List (bP×List Value)) (cs:List Value) (hs:a.eval s=lv)
  (hown:w.ownsRow B 54 7 lv D.length (D.flatMap (·.2))) (g:Nat) (hx:a.eval x=.slice (some ⟨g,0,none⟩) 1 1) (hc:aa w g cs.toArray 54) (h7:cs.length=7) (h1:∀u∈cs,u.oneCell'=true)
  (hD:D.length<=1000000) (hbase:B<=w.heap.size) (H:Nat) (hH:w.heap.size=H)
  (hK:∀g2 c2 w',w'.ownsRow B 54 7 (.slice (some ⟨g2,0,none⟩) (D.length+1) c2) (D.length+1) (D.flatMap (·.2)++cs)->w.grownBy w' lv.ownBlock->(lv.ownBlock=some g2\/g2=H)->
   wpList Tryz.prog ops Q rest (a.put p.dst (.slice (some ⟨g2,0,none⟩) (D.length+1) c2)) w'):wpList Tryz.prog ops Q (p::rest) a w:=by
 obtain⟨i,Aa,Ab,Ac,Ad⟩:=info_parts Tryz.infoItm;refine wpList_append_lies w hgd s x 42 hop B 54 i _ 7 128 Tryz.underlying42 Aa Ab Ac Ad rfl (by decide) lv D.length (D.flatMap (·.2)) hs hown ⟨g,0,none⟩ 1 1 cs hx (by rw[h7]) ?_ h1 (by omega) (by unfold maxLen;omega) (by omega) hbase H hH (fun g2 c2 w' h1 h2 h3 _=>hK g2 c2 w' h1 h2 h3);intro j u hu;rw[Addr.add_lit,Nat.zero_add];exact hc.cell _ _ (by simpa using hu)
theorem yl(size:Int)(R:List fO)(i d:Nat)(hi:i<R.length)(out:List bP)(n:Nat):dm size (R.drop i) d out n=(match bn (d+1) R[i].toks R[i].stop R[i].last with
  |.wrong a e=>⟨[],0,a,e⟩
  |.empty=>dm size (R.drop (i+1)) d out (n+1)
  |.attr x=>dm size (R.drop (i+1)) d (out++[x]) (n+1)
  |.bare x=>dm size (R.drop (i+1)) d (out++[x]) (n+1)
  |.fin=>⟨out,n+1,0,0⟩
  |.begins x=>if (dm size (R.drop (i+1)) (d+1) [] 0).e≠0 then ⟨[],0,(dm size (R.drop (i+1)) (d+1) [] 0).at_,(dm size (R.drop (i+1)) (d+1) [] 0).e⟩ else dm size (R.drop (i+1+(dm size (R.drop (i+1)) (d+1) [] 0).n)) d (out++[.mk x.block x.name x.value x.labels (dm size (R.drop (i+1)) (d+1) [] 0).l]) (n+((dm size (R.drop (i+1)) (d+1) [] 0).n+1))):=by
 unfold dm;rw[List.drop_eq_getElem_cons hi,List.length_cons,mR]
 cases bn (d+1) R[i].toks R[i].stop R[i].last with
 |wrong a e=>rfl
 |empty=>rfl
 |attr x=>rfl
 |bare x=>rfl
 |fin=>rfl
 |begins x=>
  simp only;split
  ·rfl
  ·rw[List.drop_drop]
   exact jE size _ _ _ d _ _ (by simp only[List.length_drop];omega) (by omega)
theorem IX(size:Int)(R:List fO)(i d:Nat)(hi:R.length<=i)(out:List bP)(n:Nat):dm size (R.drop i) d out n=if 0<d then ⟨[],0,size,2⟩ else ⟨out,n,0,0⟩:=by
 unfold dm;rw[List.drop_eq_nil_of_le hi];rfl
theorem vP(row:List ag)(stop:Int)(last:Bool)(name:ByteArray):(∃a e,j3 row stop last name=.wrong a e)\/∃x,j3 row stop last name=.attr x:=by
 unfold j3 eU;repeat' split
 all_goals first
  |exact .inl ⟨_,_,rfl⟩
  |exact .inr ⟨_,rfl⟩
theorem Ao(n:Nat)(row:List ag)(stop:Int)(last:Bool)(name:ByteArray):gL n row stop last name≠.empty/\gL n row stop last name≠.fin:=by
 unfold gL eU;constructor
 all_goals
  simp only;repeat' split
  all_goals (intro q;cases q)
def GJ(size:Int)(R:List fO)(d k:Nat)(T:FJ)(out:List bP)(m:Nat):Jo->Prop
 |.bad a e=>e≠0/\T=⟨[],0,a,e⟩
 |.one x n=>1<=n/\k+n<=R.length/\T=dm size (R.drop (k+n)) d (out++[x]) (m+n)
theorem JO(size:Int)(R:List fO)(k d:Nat)(hi:k<R.length)(kk:oW)(hs:bn (d+1) R[k].toks R[k].stop R[k].last=kk)(h1:kk≠.empty)(h2:kk≠.fin)(out:List bP)(m:Nat) :
  GJ size R d k (dm size (R.drop k) d out m) out m (vX size (R.drop (k+1)) d kk):=by
 rw[yl size R k d hi,hs]
 cases kk with
 |wrong a e=>
  refine⟨?_,rfl⟩;rcases wo (d+1) R[k].toks R[k].stop R[k].last with ⟨a2,e2,h3,h4⟩|h3
  ·rw[hs] at h4
   cases h4
   exact h3
  ·rw[hs] at h3
   generalize R[k].toks=tk at h3;cases h3
 |empty=>exact absurd rfl h1
 |fin=>exact absurd rfl h2
 |attr x=>exact⟨Nat.le_refl _,hi,rfl⟩
 |bare x=>exact⟨Nat.le_refl _,hi,rfl⟩
 |begins x=>
  unfold vX;simp only;have hn:=De size (R.drop (k+1)) (d+1) [] 0;generalize dm size (R.drop (k+1)) (d+1) [] 0=g at *
  by_cases he:g.e≠0
  ·rw[if_pos he,if_pos he]
   exact⟨he,rfl⟩
  ·rw[if_neg he,if_neg he]
   have:=hn (by simpa using he);rw[List.length_drop] at this;refine⟨by omega,by omega,?_⟩;rw[show k+(g.n+1)=k+1+g.n by omega]
theorem uH{size:Int}{R rest:List fO}{d k:Nat}{T:FJ}{out:List bP}{m:Nat}{a e:Int}(h:GJ size R d k T out m (vX size rest d (.wrong a e))):e≠0/\T=⟨[],0,a,e⟩:=h
def Oo(w wr:World)(R:List fO)(size:Int)(d i k:Nat)(T:FJ)(lv:Value)(D:List (bP×List Value)):Prop:=
 GR (w.heap.size+1) wr lv D/\T=dm size (R.drop k) d (D.map (·.1)) (k-i)/\D.length<=k/\Below w.heap.size w wr/\aa wr w.heap.size (bz 0 0) 56/\i<=k/\w.heap.size+1<=wr.heap.size
theorem Oo.below{w wr W:World}{R:List fO}{size:Int}{d i k:Nat}{T:FJ}{lv:Value}{D:List (bP×List Value)}(h:Oo w wr R size d i k T lv D)(hb:Below wr.heap.size wr W):Oo w W R size d i k T lv D:=
 ⟨h.1.below hb,h.2.1,h.2.2.1,h.2.2.2.1.trans (hb.mono h.2.2.2.1.size),h.2.2.2.2.1.below hb h.2.2.2.2.1.lt,h.2.2.2.2.2.1,Nat.le_trans h.2.2.2.2.2.2 hb.size⟩
theorem OI(b:Bool)(n o s:ByteArray)(va:Option Addr)(vn vc:Nat)(la:Option Addr)(ln lc:Nat)(ia:Option Addr)(k c:Nat):∀v∈([.bool b,.string n,.string o,.string s,.slice va vn vc,.slice la ln lc,.slice ia k c]:List Value),v.oneCell'=true:=by
 intro v hv;simp at hv
 rcases hv with rfl|rfl|rfl|rfl|rfl|rfl|rfl<;>rfl
theorem yj(R:List fO)(size:Int)(hRn:R.length<=1000000)(hne:0<R.length)(hlast:(R[R.length-1]'(by omega)).stop=size)(hrow:∀r∈R,r.toks.length<=900000/\∀t∈r.toks,t.text.size<=1048576/\(t.kind=3->jP t.text≠none))(i d:Nat)(hi:i<=R.length)(hd:d<=64)
  (IH:∀j e,i<j->j<=R.length->e<=64->BG R size j e):BG R size i d:=by
 intro w v B hR;obtain⟨Cc,Bx,rfl,BZ,BP⟩:=hR.len;unfold maxLen at BP;obtain⟨T,hT⟩:=exq (dm size (R.drop i) d [] 0);rw[<-hT];have HA:Hid (Oo w (w.alloc (.cells (bz 0 0) 56)) R size d i i T (.slice none 0 0) []):=Hh ⟨GR.nil _ _,by rw[hT,Nat.sub_self];rfl,Nat.zero_le _,(Below.refl _ w).alloc lz _,aa.new w _ _,Nat.le_refl _,by simp⟩;have HR:=Hh hR;have B9:=Hh IH;clear hR hT IH;go_enter Tryz.func52,Tryz.ntmps52;go_wp2_with fail;go_loopw [1,7] (fun iv lv wr=>∃(k:Nat) (D:List (bP×List Value)),k<=R.length/\iv=.int .i64 (k:Int)/\Hid (Oo w wr R size d i k T lv D)) (fun iv _ _=>R.length-(intOf iv).toNat)
 case atStart=>exact⟨i,[],hi,rfl,HA⟩
 case round=>
  clear HA;obtain⟨k,D,hk,rfl,HS⟩:=hrel;obtain⟨la,lc,rfl⟩:=HS.out.1.form;have Cb:=HS.out.2.2.2.2.2.2;have BT:=HS.out.2.2.1
  by_cases hkl:k<R.length
  ·have Bs:=HR.out.below HS.out.2.2.2.1
   obtain⟨rb,s,rfl,BN,Bc,r0,r1,r2⟩:=Bs.get hkl;have Ba:=hrow R[k] (List.getElem_mem hkl);have Bb:=yl size R k d hkl (D.map (·.1)) (k-i);have Ar:=fun kk hs h1 h2=>JO size R k d hkl kk hs h1 h2 (D.map (·.1)) (k-i);rw[<-HS.out.2.1] at Bb Ar;obtain⟨Ab,Aq⟩:=exq R[k].stop;obtain⟨Aa,Ac⟩:=exq R[k].last;obtain⟨Az,Ak⟩:=exq R[k].toks;rw[<-Aq,<-Ac,<-Ak] at Bb;rw[<-Aq] at r1;rw[<-Ac] at r2;rw[<-Ak] at Bc Ba;have AV:Hid (∀kk,bn (d+1) Az Ab Aa=kk->kk≠.empty->kk≠.fin->GJ size R d k T (D.map (·.1)) (k-i) (vX size (R.drop (k+1)) d kk)):=Hh (by rw[Ak,Aq,Ac];exact Ar)
   have Bn:Hid (∀t row W,Az=t::row->DZ B W (.slice (some ⟨rb,0,none⟩) R.length Bx) R->Calls Tryz.prog 94 #[.slice (some ⟨rb,0,none⟩) R.length Bx,.int .i64 (k:Nat),.int .i64 (d:Nat)] W (Oz W (vX size (R.drop (k+1)) d (gL (d+1) Az Ab Aa t.text)))):=Hh (by
    intro t row W ht hW;have hw:=Ba;rw[ht] at hw;have:=Co R size k d B W _ hW hkl t row (by rw[<-Ak];exact ht) hd (by have:=hw.1;simp at this;omega) (fun u hu=>(hw.2 u (by simp[hu])).1) (fun u hu=>(hw.2 u (by simp[hu])).2) hRn (fun h64=>B9.out (k+1) (d+1) (by have:=HS.out.2.2.2.2.2.1;omega) hkl (by omega));rw[<-Ak,<-Aq,<-Ac] at this
    exact this)
   have Bg:Hid (∀W,Below wr.heap.size wr W->DZ B W (.slice (some ⟨rb,0,none⟩) R.length Bx) R):=Hh (fun W hW=>Bs.below hW);obtain⟨sa,sn,sc⟩:=s;simp only[bQ] at r0 Bc;have Bh:=Bc.toks;obtain⟨a',c',he,q1,q2,-⟩:=Bh.len;cases he
   unfold maxLen at q2;clear Ar Aq Ac Ak Bc Bs
   cases Az with
   |nil=>
    have HN:Hid (Oo w (wr.alloc (.cells #[.slice sa 0 sc,.int .i64 Ab,.bool Aa] 137)) R size d i (k+1) T (.slice la D.length lc) D):=Hh (by
     have q:=HS.out.below ((Below.refl _ wr).alloc lz (.cells #[.slice sa 0 sc,.int .i64 Ab,.bool Aa] 137));refine⟨q.1,?_,by have:=q.2.2.1;omega,q.2.2.2.1,q.2.2.2.2.1,by have:=q.2.2.2.2.2.1;omega,q.2.2.2.2.2.2⟩;rw[Bb,show k+1-i=k-i+1 by have:=q.2.2.2.2.2.1;omega]
     rfl)
    clear Bb Ba Bh AV Bn Bg HS;simp only[List.length_nil] at r0;go_wp2_with fail;go_roundw
    case rel=>exact⟨k+1,D,hkl,by go_num,HN⟩
    case measure=>simp[intOf]<;>omega
   |cons t row=>
    have B4:=Hh Ba;have BO:row.length<=900000:=by have:=Ba.1;simp at this;omega
    have AZ:=Hh Bh;have Bo:=Hh Bb;obtain⟨N,hN⟩:=exq ((t::row).length);have BE:N<=row.length+1/\row.length+1<=N:=by rw[hN];simp
    rw[<-hN] at r0 q1;have HN:=Hh hN;have Br:=(Below.refl _ wr).alloc lz (.cells #[.slice sa N sc,.int .i64 Ab,.bool Aa] 137);have B0:=Hh (aa.new wr #[.slice sa N sc,.int .i64 Ab,.bool Aa] 137);have At:=lW (wr.alloc (.cells #[.slice sa N sc,.int .i64 Ab,.bool Aa] 137)) (.slice sa (t::row).length sc) (t::row) Ab Aa 0 ng (Bh.below Br lz) (by simp;omega) (by omega);rw[<-hN] at At;simp only[List.drop_zero,show ((0:Nat):Int)=0 from rfl] at At;obtain⟨sb,Ar⟩:∃x,bO (t::row) ng=x:=⟨_,rfl⟩;rw[Ar] at At;have By:=Hh Br;clear Bb Ba Bh hN Br;go_wp2_with fail;refine At.mono ?_;clear At;rintro _ w2 ⟨rfl,hb2⟩;have An:=Hh (By.out.trans (hb2.mono By.out.size));have AA:=Hh (B0.out.below hb2 B0.out.lt);clear hb2 r0 r1 r2;obtain⟨b0,As,rfl,BL,c0,c1,c2⟩:=(AZ.out.below An.out lz).get (j:=0) (by simp);simp only[Nat.zero_mul,Nat.add_zero,List.getElem_cons_zero] at c0 c1 c2;have BU:0<N:=by omega
    have BV:(0:Int)<(N:Int):=by omega
    cases sb
    case' true=>
     have Bv:t.kind=4:=by
      have:=Ar;unfold bO at this;simp at this
      exact this.1
     by_cases hd0:d=0
     case' pos=>
      have B5:decide ((0:Int)<(d:Int))=false:=by rw[decide_eq_false_iff_not];omega
      rw[Bv] at c0;have Bi:=Hh hd0;have Ax:=Hh Ar;have BI:¬0<d:=by omega
      clear Bv hd0 Ar c1 c2;have Ap:Hid ((cB (t::row) Ab Aa (0)).2≠0/\T=⟨[],0,(cB (t::row) Ab Aa (0)).1,(cB (t::row) Ab Aa (0)).2⟩):=Hh (uH (AV.out (.wrong (cB (t::row) Ab Aa (0)).1 (cB (t::row) Ab Aa (0)).2) (by rw[<-mQ];simp only[bn];rw[if_pos Ax.out,if_pos (by rw[Bi.out])]) (by intro q;cases q) (by intro q;cases q)));have hL:=fH w2 (.slice (some ⟨b0,As,none⟩) (t::row).length sc) (t::row) Ab Aa (0) (AZ.out.below An.out lz) (by simp;omega) (by omega);rw[<-HN.out] at hL;generalize (cB (t::row) Ab Aa (0)).1=pa at *;generalize (cB (t::row) Ab Aa (0)).2=pe at *;simp only[bz,show ((0:Nat):Int)=0 from rfl] at hL;have k1:=AA.out;have Ad:=k1.lt;obtain⟨Ae,Ah,Af,Ai,Ag,Aj⟩:=k1.n3 rfl;clear k1;go_wp2_with fail;refine hL.mono ?_;clear hL Ae Af Ag Ah Ai Aj Ad;rintro _ w9 ⟨rfl,hb9⟩;have Am:=Hh (HS.out.below (An.out.trans (hb9.mono An.out.size)));clear hb9
     case' neg=>
      have B5:decide ((0:Int)<(d:Int))=true:=by rw[decide_eq_true_iff];omega
      have Bi:=Hh hd0;have Ax:=Hh Ar;have BI:0<d:=by omega
      clear Bv hd0 Ar c0 c1 c2
      by_cases h1:1<N
      case' pos=>
       have BD:(1:Int)<(N:Int):=by omega
       have B8:=Hh h1;have Ap:Hid ((cB (t::row) Ab Aa (1)).2≠0/\T=⟨[],0,(cB (t::row) Ab Aa (1)).1,(cB (t::row) Ab Aa (1)).2⟩):=Hh (uH (AV.out (.wrong (cB (t::row) Ab Aa (1)).1 (cB (t::row) Ab Aa (1)).2) (by rw[<-mQ];simp only[bn];rw[if_pos Ax.out,if_neg (fun q=>Bi.out (by omega)),if_pos (by rw[<-HN.out];exact B8.out)]) (by intro q;cases q) (by intro q;cases q)));have hL:=fH w2 (.slice (some ⟨b0,As,none⟩) (t::row).length sc) (t::row) Ab Aa (1) (AZ.out.below An.out lz) (by simp;omega) (by omega);rw[<-HN.out] at hL;generalize (cB (t::row) Ab Aa (1)).1=pa at *;generalize (cB (t::row) Ab Aa (1)).2=pe at *;simp only[bz,show ((1:Nat):Int)=1 from rfl] at hL;have k1:=AA.out;have Ad:=k1.lt;obtain⟨Ae,Ah,Af,Ai,Ag,Aj⟩:=k1.n3 rfl;clear k1;go_wp2_with fail;refine hL.mono ?_;clear hL Ae Af Ag Ah Ai Aj Ad;rintro _ w9 ⟨rfl,hb9⟩;have Am:=Hh (HS.out.below (An.out.trans (hb9.mono An.out.size)));clear hb9
      case neg=>
       have BD:decide ((1:Int)<(N:Int))=false:=by rw[decide_eq_false_iff_not];omega
       have Ap:Hid (T=⟨D.map (·.1),k-i+1,0,0⟩):=Hh (by
        have hf:bn (d+1) (t::row) Ab Aa=.fin:=by
         simp only[bn];rw[if_pos Ax.out,if_neg (fun q=>Bi.out (by omega)),if_neg (by rw[<-HN.out];exact h1)]
        have:=Bo.out;rw[hf] at this
        exact this)
       have BJ:=HS.out.2.2.2.2.2.1;have Am:=Hh (HS.out.below An.out);have k1:=AA.out;have Ad:=k1.lt;obtain⟨Ae,Ah,Af,Ai,Ag,Aj⟩:=k1.n3 rfl;have BS:=Hh h1;clear k1 Bo AV Bn;go_wp2_with (with_reducible first|refine bC ?_)
       refine Stop.out ?_;refine az rfl 56 _ _ rfl rfl _ rfl (gotY (.slice la D.length lc) ((k:Int)+1-(i:Int)) 0 0) rfl _ _ (Am.out.2.2.2.2.1) rfl (by kernel_rfl) (jZ _ _ _ _ _ _ _ _ _ _ _ _ _ _ _ _ _ _ _) ?_;have hq:aa ((w2).setRow w.heap.size (gotY (.slice la D.length lc) ((k:Int)+1-(i:Int)) 0 0)) w.heap.size (gotY (.slice la D.length lc) ((k:Int)+1-(i:Int)) 0 0) 56:=setRow_heap _ _ _ _ _ _ (Am.out.2.2.2.2.1);go_wp2_with fail;obtain⟨A0,A1,A2,A3,A4,A5,A6,A7,A8,A9,Al⟩:=hq.m11 rfl;refine bodyPost_ret (v:=.agg (gotY (.slice la D.length lc) ((k:Int)+1-(i:Int)) 0 0)) (by simp[results,Tryz.results52,go_sem,A0,A1,A2,A3,A4,A5,A6,A7,A8,A9,Al]) rfl ?_
       refine⟨below_setRow Am.out.2.2.2.1 lz _,fun h=>absurd (by rw[Ap.out]) h,fun _=>?_⟩;rw[Ap.out];refine⟨la,lc,?_,?_⟩
       ·simp only[List.length_map]
        rw[show ((k-i+1:Nat):Int)=(k:Int)+1-(i:Int) by omega]
       ·simp only[List.length_map]
        exact iT.move lz (fun _ _ _=>rfl) (fun q hq _=>by have hq:w.heap.size+1<=q:=hq;show w.heap.size<=q;omega) (Am.out.1.done (Nat.le_of_eq (setRow_size _ _ _).symm) (fun q hq _=>setRow_other _ _ _ _ (by omega)))
    case' false=>
     by_cases hk1:t.kind=1
     case pos=>
      rw[hk1] at c0;obtain⟨kk,Bw⟩:∃kk,bn (d+1) (t::row) Ab Aa=kk:=⟨_,rfl⟩
      have Bu:kk=if bO row Ca then j3 (t::row) Ab Aa t.text else gL (d+1) (t::row) Ab Aa t.text:=by
       rw[<-Bw];simp only[bn];rw[if_neg (by rw[Ar];decide),if_neg (by rw[hk1];decide)]
      have AW:=(Below.refl _ w2).alloc lz (.cells (bz 0 0) 56);have At:=lW (w2.alloc (.cells (bz 0 0) 56)) (.slice (some ⟨b0,As,none⟩) (t::row).length sc) (t::row) Ab Aa 1 Ca (AZ.out.below (An.out.trans (AW.mono An.out.size)) lz) (by simp;omega) (by omega);rw[<-HN.out] at At;simp only[List.drop_succ_cons,List.drop_zero,show ((1:Nat):Int)=1 from rfl] at At;obtain⟨BR,AY⟩:∃x,bO row Ca=x:=⟨_,rfl⟩;rw[AY] at At Bu;have Bf:=Hh Bu;have B2:=Hh Bw;have BC:=Hh AY;have Aw:=Hh AW;have B1:=Hh (aa.new w2 (bz 0 0) 56);have k1:=AA.out;have Ad:=k1.lt;obtain⟨Ae,Ah,Af,Ai,Ag,Aj⟩:=k1.n3 rfl;clear k1 hk1 Bw Bu AY AW Ar c1 c2 Bo;go_wp2_with fail;refine At.mono ?_;clear At Ae Af Ag Ah Ai Aj Ad c0;rintro _ w3 ⟨rfl,hb3⟩;have Bd:=Hh (An.out.trans ((Aw.out.trans (hb3.mono Aw.out.size)).mono An.out.size));have B7:=Hh ((AA.out.below Aw.out AA.out.lt).below hb3 (Nat.lt_of_lt_of_le AA.out.lt Aw.out.size));have Bp:=Hh (B1.out.below hb3 B1.out.lt);have BX:w2.heap.size<w3.heap.size:=Bp.out.lt;clear hb3;cases BR
      case' true=>
       cases row
       case nil=>have:=BC.out;simp[bO] at this
       case' cons t2 row=>
        have hC:=Ez w3 t t2 row (.slice (some ⟨b0,As,none⟩) (t::t2::row).length sc) Ab Aa (AZ.out.below Bd.out lz) (by simp at BO;omega) (fun u hu=>(B4.out.2 u (by simp[hu])).1) (fun u hu=>(B4.out.2 u (by simp[hu])).2);rw[<-HN.out] at hC
        have Bk:Hid (bn (d+1) (t::t2::row) Ab Aa=kk/\kk≠.empty/\kk≠.fin):=Hh (by
         refine⟨B2.out,?_,?_⟩<;>(rw[Bf.out,if_pos rfl];rcases vP (t::t2::row) Ab Aa t.text with ⟨a,e,q⟩|⟨x,q⟩<;>rw[q]<;>intro z<;>cases z))
        have hC:Calls Tryz.prog 93 #[.agg #[.slice (some ⟨b0,As,none⟩) N sc,.int .i64 Ab,.bool Aa]] w3 (Oz w3 (vX size (R.drop (k+1)) d kk)):=by
         have q:=Bf.out;rw[if_pos rfl] at q;rw[q];rcases vP (t::t2::row) Ab Aa t.text with ⟨a,e,q⟩|⟨x,q⟩<;>rw[q] at hC ⊢<;>exact hC
      case' false=>
       have hC:=Bn.out t row w3 rfl (Bg.out w3 Bd.out);have Bk:Hid (bn (d+1) (t::row) Ab Aa=kk/\kk≠.empty/\kk≠.fin):=Hh ⟨B2.out,by rw[Bf.out,if_neg (by decide)];exact (Ao _ _ _ _ _).1,by rw[Bf.out,if_neg (by decide)];exact (Ao _ _ _ _ _).2⟩;have q:=Bf.out;rw[if_neg (by decide)] at q;rw[<-q] at hC;clear q
      all_goals
       obtain⟨gr,Bt⟩:=exq (vX size (R.drop (k+1)) d kk);have Ax:Hid (GJ size R d k T (D.map (·.1)) (k-i) gr):=Hh (by rw[Bt];exact AV.out kk Bk.out.1 Bk.out.2.1 Bk.out.2.2);rw[<-Bt] at hC;clear Bt AV;have k1:=B7.out;have Ad:=k1.lt;obtain⟨Ae,Ah,Af,Ai,Ag,Aj⟩:=k1.n3 rfl;clear k1;go_wp2_with fail;refine hC.mono ?_;clear hC Ae Af Ag Ah Ai Aj Ad;rintro _ w5 ⟨hb5,hres⟩;have Bz:=Hh (Bd.out.trans (hb5.mono Bd.out.size));have Bj:=Hh (Bp.out.below hb5 Bp.out.lt);have BY:=hb5.size;clear hb5
       cases gr with
       |bad a e=>
        have hres:_=_:=hres;simp only[bz] at hres;subst hres;have Ap:Hid (e≠0/\T=⟨[],0,a,e⟩):=Hh Ax.out;have hne:(e != 0)=true:=by simpa using Ap.out.1
        go_wp2_with (with_reducible first|refine bC ?_)
        refine Stop.out ?_;refine az rfl 56 _ _ rfl rfl _ rfl (bz a e) rfl _ _ Bj.out rfl (by kernel_rfl) (jZ _ _ _ _ _ _ _ _ _ _ _ _ _ _ _ _ _ _ _) ?_;have Ay:aa (w5.setRow w2.heap.size (bz a e)) w2.heap.size (bz a e) 56:=setRow_heap _ _ _ _ _ _ Bj.out;have Be:Hid (Below wr.heap.size wr (w5.setRow w2.heap.size (bz a e))):=Hh (below_setRow Bz.out An.out.size _);have Bl:Hid ((∀q,w3.heap.size<=q->q<w5.heap.size->(w5.setRow w2.heap.size (bz a e)).heap[q]?=w5.heap[q]?)/\w5.heap.size<=(w5.setRow w2.heap.size (bz a e)).heap.size):=Hh ⟨fun q hq _=>setRow_other _ _ _ _ (by omega),Nat.le_of_eq (setRow_size _ _ _).symm⟩
        generalize w5.setRow w2.heap.size (bz a e)=w6 at *;have BK:=Ay.lt;have Bq:=Hh Ay;obtain⟨AB,AL,AC,AM,AD,AN,AE,AO,AF,AP,AG,AQ,AH,AR,AI,AS,AJ,AT,AK,AU,Au,Av⟩:=Ay.n11 rfl;clear Ay;have Am:=Hh (HS.out.below Be.out);go_upto_region 18 with fail
        go_wp2_with (with_reducible first|refine bC ?_)
        refine Stop.out ?_;refine az rfl 56 _ _ rfl rfl _ rfl (bz a e) rfl _ _ (Am.out.2.2.2.2.1) rfl (by kernel_rfl) (jZ _ _ _ _ _ _ _ _ _ _ _ _ _ _ _ _ _ _ _) ?_;have hq:aa ((w6).setRow w.heap.size (bz a e)) w.heap.size (bz a e) 56:=setRow_heap _ _ _ _ _ _ (Am.out.2.2.2.2.1);go_wp2_with fail;obtain⟨A0,A1,A2,A3,A4,A5,A6,A7,A8,A9,Al⟩:=hq.m11 rfl;refine bodyPost_ret (v:=.agg (bz a e)) (by simp[results,Tryz.results52,go_sem,A0,A1,A2,A3,A4,A5,A6,A7,A8,A9,Al]) rfl ?_
        exact⟨below_setRow Am.out.2.2.2.1 lz _,fun _=>by rw[Ap.out.2],fun h=>absurd h (by rw[Ap.out.2];exact Ap.out.1)⟩
       |one x n=>
        obtain⟨bb,nm,vo,vt,xa,xn,xc,ya,yn,yc,za,zn,zc,rfl,B6⟩:=hres;have BA:=Hh B6;have Ap:Hid (1<=n/\k+n<=R.length/\T=dm size (R.drop (k+n)) d (D.map (·.1)++[x]) (k-i+n)):=Hh Ax.out;have BM:1<=n/\k+n<=R.length:=⟨Ap.out.1,Ap.out.2.1⟩;clear B6;go_wp2_with (with_reducible first|refine bC ?_)
        refine Stop.out ?_;refine az rfl 56 _ _ rfl rfl _ rfl (#[.slice none 0 0,.int .i64 (n:Nat),.int .i64 0,.int .i64 0,.bool bb,.string nm,.string vo,.string vt,.slice xa xn xc,.slice ya yn yc,.slice za zn zc]) rfl _ _ Bj.out rfl (by kernel_rfl) (jZ _ _ _ _ _ _ _ _ _ _ _ _ _ _ _ _ _ _ _) ?_;have Ay:aa (w5.setRow w2.heap.size (#[.slice none 0 0,.int .i64 (n:Nat),.int .i64 0,.int .i64 0,.bool bb,.string nm,.string vo,.string vt,.slice xa xn xc,.slice ya yn yc,.slice za zn zc])) w2.heap.size (#[.slice none 0 0,.int .i64 (n:Nat),.int .i64 0,.int .i64 0,.bool bb,.string nm,.string vo,.string vt,.slice xa xn xc,.slice ya yn yc,.slice za zn zc]) 56:=setRow_heap _ _ _ _ _ _ Bj.out;have Be:Hid (Below wr.heap.size wr (w5.setRow w2.heap.size (#[.slice none 0 0,.int .i64 (n:Nat),.int .i64 0,.int .i64 0,.bool bb,.string nm,.string vo,.string vt,.slice xa xn xc,.slice ya yn yc,.slice za zn zc]))):=Hh (below_setRow Bz.out An.out.size _);have Bl:Hid ((∀q,w3.heap.size<=q->q<w5.heap.size->(w5.setRow w2.heap.size (#[.slice none 0 0,.int .i64 (n:Nat),.int .i64 0,.int .i64 0,.bool bb,.string nm,.string vo,.string vt,.slice xa xn xc,.slice ya yn yc,.slice za zn zc])).heap[q]?=w5.heap[q]?)/\w5.heap.size<=(w5.setRow w2.heap.size (#[.slice none 0 0,.int .i64 (n:Nat),.int .i64 0,.int .i64 0,.bool bb,.string nm,.string vo,.string vt,.slice xa xn xc,.slice ya yn yc,.slice za zn zc])).heap.size):=Hh ⟨fun q hq _=>setRow_other _ _ _ _ (by omega),Nat.le_of_eq (setRow_size _ _ _).symm⟩
        generalize w5.setRow w2.heap.size (#[.slice none 0 0,.int .i64 (n:Nat),.int .i64 0,.int .i64 0,.bool bb,.string nm,.string vo,.string vt,.slice xa xn xc,.slice ya yn yc,.slice za zn zc])=w6 at *;have BK:=Ay.lt;have Bq:=Hh Ay;obtain⟨AB,AL,AC,AM,AD,AN,AE,AO,AF,AP,AG,AQ,AH,AR,AI,AS,AJ,AT,AK,AU,Au,Av⟩:=Ay.n11 rfl;clear Ay;have Am:=Hh (HS.out.below Be.out);go_wp2_with (with_reducible first|refine aA ?_)
        refine Stop.out ?_;have AX:Below w6.heap.size w6 (w6.alloc (.cells #[.bool bb,.string nm,.string vo,.string vt,.slice xa xn xc,.slice ya yn yc,.slice za zn zc] 54)):=(Below.refl _ w6).alloc lz _;refine uC rfl _ _ rfl (w.heap.size+1) (.slice la D.length lc) D [.bool bb,.string nm,.string vo,.string vt,.slice xa xn xc,.slice ya yn yc,.slice za zn zc] rfl (by exact (Am.out.1.below AX).own) w6.heap.size rfl (aa.new w6 _ _) rfl (OI _ _ _ _ _ _ _ _ _ _ _ _ _) (by omega) (by have:=Am.out.2.2.2.2.2.2;simp;omega) _ rfl ?_;intro g7 c7 w7 hown7 hg7 hat7
        have B3:Hid (Oo w w7 R size d i (k+n) T (.slice (some ⟨g7,0,none⟩) (D.length+1) c7) (D++[(x,[.bool bb,.string nm,.string vo,.string vt,.slice xa xn xc,.slice ya yn yc,.slice za zn zc])])/\aa w7 w2.heap.size (#[.slice none 0 0,.int .i64 (n:Nat),.int .i64 0,.int .i64 0,.bool bb,.string nm,.string vo,.string vt,.slice xa xn xc,.slice ya yn yc,.slice za zn zc]) 56):=Hh (by
         have BH:=Be.out.trans (AX.mono Be.out.size);have BQ:aN (fun q=>wr.heap.size<=q) (w6.alloc (.cells #[.bool bb,.string nm,.string vo,.string vt,.slice xa xn xc,.slice ya yn yc,.slice za zn zc] 54)) x [.bool bb,.string nm,.string vo,.string vt,.slice xa xn xc,.slice ya yn yc,.slice za zn zc]:=aN.move (Nat.le_trans Bl.out.2 AX.size) (fun q hq hl=>by rw[AX.block q (by have:=Bl.out.2;omega)];exact Bl.out.1 q hq hl) (fun q hq _=>Nat.le_trans Bd.out.size hq) _ _ BA.out;have hp:=HS.out.1.push BH BQ hg7 hown7 hat7 HS.out.2.2.2.2.2.2;have hi:=Am.out.below AX;have BF:=hi.2.2.2.1.grown hg7 (by have:=hi.2.2.2.2.2.2;omega) (fun q e=>by have:=(World.ownsRow.lt hi.1.own q e).1;omega);refine⟨⟨hp,?_,by rw[List.length_append,List.length_singleton];omega,BF,hi.2.2.2.2.1.kept hg7 (fun e=>dA hi.1.own hi.2.2.2.2.1 (by decide) _ e.symm rfl),by have:=hi.2.2.2.2.2.1;omega,Nat.le_trans hi.2.2.2.2.2.2 hg7.size⟩,?_⟩
         ·rw[Ap.out.2.2,List.map_append,show k+n-i=k-i+n by have:=hi.2.2.2.2.2.1;omega]
          rfl
         ·have hc:=Bq.out.below AX Bq.out.lt
          exact hc.kept hg7 (fun e=>dA hi.1.own hc (by decide) _ e.symm rfl))
        clear hown7 hg7 hat7 AX AB AC AD AE AF AG AH AI AJ AK Au AL AM AN AO AP AQ AR AS AT AU Av;have z7:=B3.out.2.cell 1 _ rfl;go_wp2_with fail;go_roundw
        case rel=>exact⟨k+n,_,BM.2,by go_num,Hh B3.out.1⟩
        case measure=>simp[intOf]<;>omega
     case' neg=>
      have BW:(t.kind != 1)=true:=by simpa using hk1
      have BB:=Hh hk1;have Ax:=Hh Ar;clear hk1 Ar c1 c2;have Ap:Hid ((cB (t::row) Ab Aa (0)).2≠0/\T=⟨[],0,(cB (t::row) Ab Aa (0)).1,(cB (t::row) Ab Aa (0)).2⟩):=Hh (uH (AV.out (.wrong (cB (t::row) Ab Aa (0)).1 (cB (t::row) Ab Aa (0)).2) (by rw[<-mQ];simp only[bn];rw[if_neg (by rw[Ax.out];decide),if_pos BB.out]) (by intro q;cases q) (by intro q;cases q)));have hL:=fH w2 (.slice (some ⟨b0,As,none⟩) (t::row).length sc) (t::row) Ab Aa (0) (AZ.out.below An.out lz) (by simp;omega) (by omega);rw[<-HN.out] at hL;generalize (cB (t::row) Ab Aa (0)).1=pa at *;generalize (cB (t::row) Ab Aa (0)).2=pe at *;simp only[bz,show ((0:Nat):Int)=0 from rfl] at hL;have k1:=AA.out;have Ad:=k1.lt;obtain⟨Ae,Ah,Af,Ai,Ag,Aj⟩:=k1.n3 rfl;clear k1;go_wp2_with fail;refine hL.mono ?_;clear hL Ae Af Ag Ah Ai Aj Ad;rintro _ w9 ⟨rfl,hb9⟩;have Am:=Hh (HS.out.below (An.out.trans (hb9.mono An.out.size)));clear hb9
    all_goals
     go_wp2_with (with_reducible first|refine bC ?_)
     refine Stop.out ?_;refine az rfl 56 _ _ rfl rfl _ rfl (bz pa pe) rfl _ _ (Am.out.2.2.2.2.1) rfl (by kernel_rfl) (jZ _ _ _ _ _ _ _ _ _ _ _ _ _ _ _ _ _ _ _) ?_;have hq:aa ((w9).setRow w.heap.size (bz pa pe)) w.heap.size (bz pa pe) 56:=setRow_heap _ _ _ _ _ _ (Am.out.2.2.2.2.1);go_wp2_with fail;obtain⟨A0,A1,A2,A3,A4,A5,A6,A7,A8,A9,Al⟩:=hq.m11 rfl;refine bodyPost_ret (v:=.agg (bz pa pe)) (by simp[results,Tryz.results52,go_sem,A0,A1,A2,A3,A4,A5,A6,A7,A8,A9,Al]) rfl ?_
     exact⟨below_setRow Am.out.2.2.2.1 lz _,fun _=>by rw[Ap.out.2],fun h=>absurd h (by rw[Ap.out.2];exact Ap.out.1)⟩
  ·obtain rfl:k=R.length:=by omega
   have Bm:Hid (T=if 0<d then ⟨[],0,size,2⟩ else ⟨D.map (·.1),R.length-i,0,0⟩):=Hh (by rw[HS.out.2.1,IX size R _ d lz])
   by_cases hd0:0<d
   ·have B5:decide ((0:Int)<(d:Int))=true:=by rw[decide_eq_true_iff];omega
    obtain⟨rb,s,rfl,BN,Bc,r0,r1,r2⟩:=(HR.out.below HS.out.2.2.2.1).get (j:=R.length-1) (by omega);rw[hlast] at r1;have i1:IntKind.i64.wrap ((R.length:Int)-1)=((R.length-1:Nat):Int):=by rw[IntWalk.i64_in _ (by omega)];omega
    have i2:(0:Int)<=((R.length-1:Nat):Int)/\((R.length-1:Nat):Int)<(R.length:Int):=by omega
    clear Bc r0 r2;go_wp2_with (with_reducible first|refine bC ?_)
    refine Stop.out ?_;refine az rfl 56 _ _ rfl rfl _ rfl (bz size 2) rfl _ _ (HS.out.2.2.2.2.1) rfl (by kernel_rfl) (jZ _ _ _ _ _ _ _ _ _ _ _ _ _ _ _ _ _ _ _) ?_;have hq:aa ((wr).setRow w.heap.size (bz size 2)) w.heap.size (bz size 2) 56:=setRow_heap _ _ _ _ _ _ (HS.out.2.2.2.2.1);go_wp2_with fail;obtain⟨A0,A1,A2,A3,A4,A5,A6,A7,A8,A9,Al⟩:=hq.m11 rfl;refine bodyPost_ret (v:=.agg (bz size 2)) (by simp[results,Tryz.results52,go_sem,A0,A1,A2,A3,A4,A5,A6,A7,A8,A9,Al]) rfl ?_
    refine⟨below_setRow HS.out.2.2.2.1 lz _,fun _=>by rw[Bm.out,if_pos hd0],fun h=>absurd h (by rw[Bm.out,if_pos hd0];exact (by decide:(2:Int)≠0))⟩
   ·have BJ:=HS.out.2.2.2.2.2.1
    go_wp2_with (with_reducible first|refine bC ?_)
    refine Stop.out ?_;refine az rfl 56 _ _ rfl rfl _ rfl (gotY (.slice la D.length lc) ((R.length:Int)-(i:Int)) 0 0) rfl _ _ (HS.out.2.2.2.2.1) rfl (by kernel_rfl) (jZ _ _ _ _ _ _ _ _ _ _ _ _ _ _ _ _ _ _ _) ?_;have hq:aa ((wr).setRow w.heap.size (gotY (.slice la D.length lc) ((R.length:Int)-(i:Int)) 0 0)) w.heap.size (gotY (.slice la D.length lc) ((R.length:Int)-(i:Int)) 0 0) 56:=setRow_heap _ _ _ _ _ _ (HS.out.2.2.2.2.1);go_wp2_with fail;obtain⟨A0,A1,A2,A3,A4,A5,A6,A7,A8,A9,Al⟩:=hq.m11 rfl;refine bodyPost_ret (v:=.agg (gotY (.slice la D.length lc) ((R.length:Int)-(i:Int)) 0 0)) (by simp[results,Tryz.results52,go_sem,A0,A1,A2,A3,A4,A5,A6,A7,A8,A9,Al]) rfl ?_
    refine⟨below_setRow HS.out.2.2.2.1 lz _,fun h=>absurd (by rw[Bm.out,if_neg hd0]) h,fun _=>?_⟩;rw[Bm.out,if_neg hd0];refine⟨la,lc,?_,?_⟩
    ·simp only[List.length_map]
     rw[show ((R.length-i:Nat):Int)=(R.length:Int)-(i:Int) by omega]
    ·simp only[List.length_map]
     exact iT.move lz (fun _ _ _=>rfl) (fun q hq _=>by have hq:w.heap.size+1<=q:=hq;show w.heap.size<=q;omega) (HS.out.1.done (Nat.le_of_eq (setRow_size _ _ _).symm) (fun q hq _=>setRow_other _ _ _ _ (by omega)))
theorem vG(R:List fO)(size:Int)(hRn:R.length<=1000000)(hne:0<R.length)(hlast:(R[R.length-1]'(by omega)).stop=size)(hrow:∀r∈R,r.toks.length<=900000/\∀t∈r.toks,t.text.size<=1048576/\(t.kind=3->jP t.text≠none)):∀(n i d:Nat),R.length-i<=n->i<=R.length->d<=64->BG R size i d
 |0,i,d,hn,hi,hd=>yj R size hRn hne hlast hrow i d hi hd (fun j e h1 h2 _=>by omega)
 |n+1,i,d,hn,hi,hd=>yj R size hRn hne hlast hrow i d hi hd (fun j e h1 h2 h3=>vG R size hRn hne hlast hrow n j e (by omega) h2 h3)
theorem oz(size:Int):∀(toks cur:List ag),∃l c,dW size toks cur=l++[⟨c,size,true⟩]
 |[],cur=>⟨[],cur,rfl⟩
 | t::r,cur=>by
  rw[dW];split
  ·exact oz size r cur
  ·split
   ·obtain⟨l,c,h⟩:=oz size r []
    exact⟨_::l,c,by rw[h];rfl⟩
   ·exact oz size r (cur++[t])
theorem qy(size:Int):∀(toks cur:List ag),(∀r∈dW size toks cur,r.toks.length<=cur.length+toks.length/\∀t∈r.toks,t∈cur\/t∈toks)/\(dW size toks cur).length<=toks.length+1
 | [],cur=>by
  rw[dW];refine⟨fun r hr=>?_,Nat.le_refl _⟩;rw[List.mem_singleton.1 hr];exact⟨by simp,fun t ht=>.inl ht⟩
 | t::r,cur=>by
  rw[dW];split
  ·obtain⟨h1,h2⟩:=qy size r cur
   refine⟨fun q hq=>⟨by have:=(h1 q hq).1;simp only[List.length_cons];omega,fun u hu=>?_⟩,by simp only[List.length_cons];omega⟩;exact ((h1 q hq).2 u hu).imp id (fun h=>List.mem_cons_of_mem _ h)
  ·split
   ·obtain⟨h1,h2⟩:=qy size r []
    refine⟨fun q hq=>?_,by simp only[List.length_cons];omega⟩;rcases List.mem_cons.1 hq with rfl|hq
    ·exact⟨by simp,fun u hu=>.inl hu⟩
    ·refine⟨by have:=(h1 q hq).1;simp only[List.length_nil,List.length_cons] at this ⊢;omega,fun u hu=>?_⟩
     rcases (h1 q hq).2 u hu with h|h
     ·cases h
     ·exact .inr (List.mem_cons_of_mem _ h)
   ·obtain⟨h1,h2⟩:=qy size r (cur++[t])
    refine⟨fun q hq=>⟨by have:=(h1 q hq).1;simp only[List.length_append,List.length_cons,List.length_nil] at this ⊢;omega,fun u hu=>?_⟩,by simp only[List.length_cons];omega⟩;rcases (h1 q hq).2 u hu with h|h
    ·rcases List.mem_append.1 h with h|h
     ·exact .inl h
     ·rw[List.mem_singleton.1 h];exact .inr (by simp)
    ·exact .inr (List.mem_cons_of_mem _ h)
theorem IG{l:Bs}{k n:Nat}(h:eY l=.tok k n):k<=7:=by
 cases l with
 |nil=>cases h
 |cons c r=>
  rw[eY] at h;split at h
  ·cases h;decide
  split at h
  ·unfold pQ at h
   split at h
   ·cases h;decide
   ·cases h
  split at h
  ·unfold pG at h
   split at h
   ·cases h;decide
   ·cases h
  split at h
  ·cases h;decide
  split at h
  ·obtain⟨-,-,rfl⟩:=sN h;decide
  split at h
  ·unfold fB at h
   split at h
   ·cases h
   ·split at h
    ·cases h
    ·obtain⟨-,-,rfl⟩:=sN h;decide
  split at h
  ·cases h
  ·cases h;decide
theorem rT:∀(k:Nat) (l:Bs) (p:Nat),l.length<=k->∀t∈(aY l p).1,t.kind<5\/t.kind=5\/t.kind=6\/t.kind=7
 | 0,l,p,h=>by
  obtain rfl:=List.eq_nil_of_length_eq_zero (Nat.le_zero.1 h);intro t ht;rw[eZ] at ht;cases ht
 |k+1,[],p,_=>by intro t ht;rw[eZ] at ht;cases ht
 | k+1,c::r,p,h=>by
  simp only[List.length_cons] at h
  by_cases hb:cz c=true
  ·rw[dF hb]
   exact rT k r (p+1) (by omega)
  ·have hb':cz c=false:=by simpa using hb
   cases ho:eY (c::r) with
   |bad off e=>rw[gp hb' ho];intro t ht;cases ht
   |tok kd sz=>
    rw[eF hb' ho];have hs:=dN ho;intro t ht;rcases List.mem_cons.1 ht with rfl|ht
    ·have:=IG ho
     simp only;omega
    ·exact rT k ((c::r).drop sz) (p+sz) (by rw[List.length_drop,List.length_cons];omega) t ht
def PO(w:World)(r:List bP×Int×Int)(e:Ending)(w':World):Prop:=Below w.heap.size w w'/\∃ia ic,e=.returned (.agg (gotY (.slice ia r.1.length ic) 0 r.2.1 r.2.2))/\iT (fun q=>w.heap.size<=q) w' (.slice ia r.1.length ic) r.1
theorem iT.nil{P:Nat->Prop}{w:World}:iT P w (.slice none 0 0) []:=⟨none,0,rfl,Nat.le_refl _,Nat.zero_le _,fun _=>rfl,fun x hx=>by cases hx⟩
theorem Cn(s:ByteArray)(w:World)(hs:s.size<=400000):Calls Tryz.prog 26 #[.string s] w (PO w (dK s.data.toList)):=by
 have AN:s.data.toList.length=s.size:=eX s;obtain⟨X,hX⟩:=exq (dK s.data.toList);have AF:=aa.new w (bz 0 0) 56;have AE:=(Below.refl _ w).alloc lz (.cells (bz 0 0) 56);have hL:=Cs s (w.alloc (.cells (bz 0 0) 56)) (by omega);have h1:=lZ s.data.toList.length s.data.toList 0 lz;have h2:=tX s.data.toList.length s.data.toList 0 lz;have h3:=rT s.data.toList.length s.data.toList 0 lz;have h4:=wF s.data.toList.length s.data.toList 0 lz;have Aa:=xV (l:=s.data.toList);have Ab:=zR (l:=s.data.toList);rw[<-hX] at Aa Ab ⊢;rw[AN] at h1 h4 Ab;clear hX;generalize aY s.data.toList 0=Y at *;obtain⟨Ac,Ae,er⟩:=Y;simp only at hL h1 h2 h3 h4 Aa Ab;have A8:=Hh AE;have AA:=Hh AF;have H:=Jh h2 (And.intro h3 h4);clear AF AE h2 h3 h4;go_enter Tryz.func26,Tryz.ntmps26;go_wp2_with fail;refine hL.mono ?_;clear hL;rintro _ w1 ⟨v,rfl,hO,hb1⟩;obtain⟨a,c,rfl⟩:=AV hO;have AK:=Hh hO.toks;have A9:=Hh (A8.out.trans (hb1.mono A8.out.size));have AB:=Hh (AA.out.below hb1 AA.out.lt);clear hO hb1;go_upto_region 2 with fail
 have Aw:Below w1.heap.size w1 (w1.alloc (.cells #[.slice a Ac.length c,.int .i64 Ae,.int .i64 er] 38)):=(Below.refl _ w1).alloc lz _;have At:=Hh (AB.out.below Aw AB.out.lt);have AL:=Hh (AK.out.below Aw lz);have Ax:=Hh (A9.out.trans (Aw.mono A9.out.size));have hx:=aa.new w1 #[.slice a Ac.length c,.int .i64 Ae,.int .i64 er] 38;generalize w1.alloc (.cells #[.slice a Ac.length c,.int .i64 Ae,.int .i64 er] 38)=w2 at *;have AQ:=hx.lt;obtain⟨A2,A5,A3,A6,A4,A7⟩:=hx.n3 rfl;clear hx Aw
 by_cases he:er=0
 ·subst he
  have hX:=Ab rfl;rw[Bc] at hX;obtain⟨R,hR⟩:=exq (dW s.size Ac []);rw[<-hR] at hX;have A1:=Ey w2 (.slice a Ac.length c) Ac s.size AL.out H.out.2.1 (by omega);rw[<-hR] at A1;have HM:=Hh (qy s.size Ac []);obtain⟨R0,c0,A0⟩:=oz s.size Ac [];rw[<-hR] at A0;have AC:=Hh A0;have AD:=Hh hR;have HX:=Hh hX;clear hR hX Aa Ab A0;go_wp2_with fail;refine A1.mono ?_;clear A1 A2 A3 A4 A5 A6 A7;rintro _ w3 ⟨rv,rfl,hLn,hb3⟩;have Ay:=Hh (Ax.out.trans (hb3.mono Ax.out.size));have Az:=Hh (At.out.below hb3 At.out.lt)
  have Av:=vG R s.size (by have:=HM.out.2;rw[<-AD.out] at this;omega) (by rw[AC.out];simp) (by simp only[AC.out];simp) (fun r hr=>by
   rw[AD.out] at hr;obtain⟨q1,q2⟩:=HM.out.1 r hr;refine⟨by simp only[List.length_nil] at q1;omega,fun t ht=>?_⟩;have AI:t∈Ac:=(q2 t ht).resolve_left (by simp)
   exact⟨by have:=FM AI;have h9:=H.out.2.2;show (vC t).length<=_;omega,H.out.1 t AI⟩) R.length 0 0 (by omega) (by omega) (by omega) w3 rv _ hLn
  clear hLn hb3;obtain⟨g,hg⟩:=exq (dm s.size (R.drop 0) 0 [] 0);rw[<-hg] at Av;have HG:Hid (X=if g.e≠0 then ([],g.at_,g.e) else (g.l,-1,0)):=Hh (by rw[HX.out,hg];unfold dm;rw[List.drop_zero]);clear hg;obtain⟨L,n,ga,ge⟩:=g;simp only[show ((0:Nat):Int)=0 from rfl] at Av;go_wp2_with fail;refine Av.mono ?_;clear Av;rintro e4 w4 ⟨hb4,Aa,hok⟩;simp only at Aa hok;have As:=Hh (Ay.out.trans (hb4.mono Ay.out.size));have Au:=Hh (Az.out.below hb4 Az.out.lt);clear hb4
  by_cases he:ge=0
  ·subst he
   obtain⟨ia,ic,rfl,AH⟩:=hok rfl;have AJ:=Hh AH;clear hok Aa AH;have Af:Below w4.heap.size w4 (w4.alloc (.cells (gotY (.slice ia L.length ic) (n:Nat) 0 0) 56)):=(Below.refl _ w4).alloc lz _;have Ah:=Hh Af;have Ag:=Hh (Au.out.below Af Au.out.lt);clear Af;go_upto_region 7 with fail
   go_wp2_with (with_reducible first|refine bC ?_)
   refine Stop.out ?_;refine az rfl 56 _ _ rfl rfl _ rfl (gotY (.slice ia L.length ic) 0 (-1) 0) rfl _ _ (Ag.out) rfl (by kernel_rfl) (jZ _ _ _ _ _ _ _ _ _ _ _ _ _ _ _ _ _ _ _) ?_;have hq:aa ((w4.alloc (.cells (gotY (.slice ia L.length ic) (n:Nat) 0 0) 56)).setRow w.heap.size (gotY (.slice ia L.length ic) 0 (-1) 0)) w.heap.size (gotY (.slice ia L.length ic) 0 (-1) 0) 56:=setRow_heap _ _ _ _ _ _ (Ag.out);go_wp2_with fail;obtain⟨Ai,Aj,Ak,Al,Am,An,Ao,Ap,Aq,Ar,Ad⟩:=hq.m11 rfl;refine bodyPost_ret (v:=.agg (gotY (.slice ia L.length ic) 0 (-1) 0)) (by simp[results,Tryz.results26,go_sem,Ai,Aj,Ak,Al,Am,An,Ao,Ap,Aq,Ar,Ad]) rfl ?_
   rw[HG.out];refine⟨below_setRow (As.out.trans (Ah.out.mono As.out.size)) lz _,ia,ic,rfl,?_⟩;have AP:=Ay.out.size;have AO:w.heap.size<w3.heap.size:=Az.out.lt;exact iT.move (by rw[setRow_size];exact Ah.out.size) (fun q hq hl=>by have hq:w3.heap.size<=q:=hq;rw[setRow_other _ _ _ _ (by omega)];exact Ah.out.block q hl) (fun q hq _=>by have hq:w3.heap.size<=q:=hq;show w.heap.size<=q;omega) AJ.out
  ·have AG:=Aa he
   simp only[bz] at AG;subst AG;have AM:(ge != 0)=true:=by simpa using he
   have HE:=Hh he;clear hok Aa he;have Af:Below w4.heap.size w4 (w4.alloc (.cells (bz ga ge) 56)):=(Below.refl _ w4).alloc lz _;have Ah:=Hh Af;have Ag:=Hh (Au.out.below Af Au.out.lt);clear Af;go_upto_region 6 with fail
   go_wp2_with (with_reducible first|refine bC ?_)
   refine Stop.out ?_;refine az rfl 56 _ _ rfl rfl _ rfl (bz ga ge) rfl _ _ (Ag.out) rfl (by kernel_rfl) (jZ _ _ _ _ _ _ _ _ _ _ _ _ _ _ _ _ _ _ _) ?_;have hq:aa ((w4.alloc (.cells (bz ga ge) 56)).setRow w.heap.size (bz ga ge)) w.heap.size (bz ga ge) 56:=setRow_heap _ _ _ _ _ _ (Ag.out);go_wp2_with fail;obtain⟨Ai,Aj,Ak,Al,Am,An,Ao,Ap,Aq,Ar,Ad⟩:=hq.m11 rfl;refine bodyPost_ret (v:=.agg (bz ga ge)) (by simp[results,Tryz.results26,go_sem,Ai,Aj,Ak,Al,Am,An,Ao,Ap,Aq,Ar,Ad]) rfl ?_
   rw[HG.out,if_pos HE.out];exact⟨below_setRow (As.out.trans (Ah.out.mono As.out.size)) lz _,none,0,rfl,iT.nil⟩
 ·have AM:(er != 0)=true:=by simpa using he
  have HG:Hid (X=([],Ae,er)):=Hh (Aa he);clear Aa Ab he;go_upto_region 3 with fail
  go_wp2_with (with_reducible first|refine bC ?_)
  refine Stop.out ?_;refine az rfl 56 _ _ rfl rfl _ rfl (bz Ae er) rfl _ _ (At.out) rfl (by kernel_rfl) (jZ _ _ _ _ _ _ _ _ _ _ _ _ _ _ _ _ _ _ _) ?_;have hq:aa ((w2).setRow w.heap.size (bz Ae er)) w.heap.size (bz Ae er) 56:=setRow_heap _ _ _ _ _ _ (At.out);go_wp2_with fail;obtain⟨Ai,Aj,Ak,Al,Am,An,Ao,Ap,Aq,Ar,Ad⟩:=hq.m11 rfl;refine bodyPost_ret (v:=.agg (bz Ae er)) (by simp[results,Tryz.results26,go_sem,Ai,Aj,Ak,Al,Am,An,Ao,Ap,Aq,Ar,Ad]) rfl ?_
  rw[HG.out];exact⟨below_setRow Ax.out lz _,none,0,rfl,iT.nil⟩
end Go.Proofs.YtbcdaaobbebooaaGreatDoor
