import Derived.Test.YtbcdaaobbebooaaGreatDoorMgj
import Derived.Deep.MidRow
set_option linter.unusedSimpArgs false
set_option linter.unusedVariables false
set_option maxRecDepth 100000
set_option maxHeartbeats 20000000
namespace Go.Proofs.YtbcdaaobbebooaaGreatDoor
open Go.RowKit Go.Tab
def vz(row:List ag)(m:Nat)(pre:List ByteArray):Prop:=pre.length=m/\jr row=pre++jr (row.drop m)
theorem vz.zero(row:List ag):vz row 0 []:=⟨rfl,rfl⟩
theorem vz.step{row:List ag}{m:Nat}{pre:List ByteArray}(h:vz row m pre)(hm:m<row.length)(h3:row[m].kind=3){x:ByteArray}(hx:jP row[m].text=some x):vz row (m+1) (pre++[x]):=by
 refine⟨by simp[h.1],?_⟩;rw[h.2,List.drop_eq_getElem_cons hm,jr,if_pos h3,hx];simp
theorem vz.stop{row:List ag}{m:Nat}{pre:List ByteArray}(h:vz row m pre)(hm:m<row.length)(h3:row[m].kind≠3):jr row=pre/\pre.length=m:=by
 refine⟨?_,h.1⟩;rw[h.2,List.drop_eq_getElem_cons hm,jr,if_neg h3,List.append_nil]
theorem vz.done{row:List ag}{m:Nat}{pre:List ByteArray}(h:vz row m pre)(hm:row.length<=m):jr row=pre/\pre.length=m:=by
 refine⟨?_,h.1⟩;rw[h.2,List.drop_eq_nil_of_le hm,jr,List.append_nil]
theorem Tryz.infoStr:(Tryz.prog.info? 9).map (fun i=>(i.zero,i.size,i.bytes))=some (some (.string ⟨#[]⟩),1,16):=by kernel_rfl
def Na(w W:World)(line xc:Array Value)(v:Value)(pre:List ByteArray):Prop:=Below w.heap.size w W/\aa W w.heap.size line 86/\aa W (w.heap.size+1) ak.toArray 54/\aa W (w.heap.size+2) xc 54/\aX Value.string 9 (w.heap.size+3) W v pre/\w.heap.size+3<=W.heap.size
theorem Na.step{w W W':World}{line xc:Array Value}{v:Value}{pre:List ByteArray}(h:Na w W line xc v pre)(hb:Below W.heap.size W W'):Na w W' line xc v pre:=
 ⟨h.1.trans (hb.mono h.1.size),h.2.1.below hb h.2.1.lt,h.2.2.1.below hb h.2.2.1.lt,h.2.2.2.1.below hb h.2.2.2.1.lt,h.2.2.2.2.1.below hb lz,Nat.le_trans h.2.2.2.2.2 hb.size⟩
theorem FY{w3:World}{B n q:Nat}{v:Value}{l:List ByteArray}{vals:List Value}(hq:q<B)(hn:n<=B)(hx:aX Value.string 9 B w3 v l):mo (fun b=>n<=b) (ai w3 q 0 vals).drew v l:=by
 have ho:aX Value.string 9 B (ai w3 q 0 vals).drew v l:=hx.moved (fun k hk=>aK q vals 0 w3 k (by have:=(World.ownsRow.lt hx k hk).1;omega));exact⟨ho.row,fun k hk=>by have h9:=World.ownsRow.lt ho k hk;exact⟨Nat.le_trans hn h9.1,h9.2⟩⟩
theorem Am(g:Nat)(oa:Option Addr)(n oc:Nat)(t:ag)(row:List ag)(lv:Value)(stop:Int)(last:Bool)(w:World)(h:iR w g (.slice oa n oc) 0 0)(hr:aH w lv (t::row))(hT:Tab w)(hTg:1<w.heap.size)(hn:row.length<=900000)(hsh:∀t∈row,t.text.size<=1048576)(hq:∀t∈row,t.kind=3->jP t.text≠none) :
  Calls Tryz.prog 134 #[.pointer (some ⟨g,0,none⟩),iL lv stop last] w (kV g (.slice oa n oc) (gL n (t::row) stop last t.text) w):=by
 obtain⟨ra,rc,rfl,Bo,Cu,-⟩:=hr.len;obtain⟨N,hN⟩:=exq ((t::row).length);have Co:N<=row.length+1/\row.length+1<=N:=by rw[hN];simp
 rw[<-hN] at hr Bo ⊢;unfold maxLen at Cu;have HN:=Hh hN;clear hN;obtain⟨R,hR⟩:=exq (gL n (t::row) stop last t.text);have HR:=Hh hR;rw[<-hR];clear hR;have Ap:=h.lt;obtain⟨b,Al,rfl,AL,c0,c1,c2⟩:=hr.get (j:=0) (by simp);simp only[Nat.zero_mul,Nat.add_zero,List.getElem_cons_zero] at c0 c1 c2;have H0:=Jh h (And.intro hr hT);clear h hr hT;go_enter Tryz.func134,Tryz.ntmps134;go_wp2_with fail
 have BO:Below w.heap.size w (((w.alloc (.cells (dH (.slice (some ⟨b,Al,none⟩) N rc) stop last) 86)).alloc (.cells ak.toArray 54)).alloc (.cells #[.bool true,.string t.text,.string ⟨#[]⟩,.string ⟨#[]⟩,.slice none 0 0,.slice none 0 0,.slice none 0 0] 54)):=
  (((Below.refl _ w).alloc lz _).alloc (by simp) _).alloc (by simp only[World.size_alloc];omega) _
 have kA:=((aa.new w (dH (.slice (some ⟨b,Al,none⟩) N rc) stop last) 86).alloc (.cells ak.toArray 54)).alloc (.cells #[.bool true,.string t.text,.string ⟨#[]⟩,.string ⟨#[]⟩,.slice none 0 0,.slice none 0 0,.slice none 0 0] 54);have kB:=(aa.new (w.alloc (.cells (dH (.slice (some ⟨b,Al,none⟩) N rc) stop last) 86)) ak.toArray 54).alloc (.cells #[.bool true,.string t.text,.string ⟨#[]⟩,.string ⟨#[]⟩,.slice none 0 0,.slice none 0 0,.slice none 0 0] 54);have kC:=aa.new ((w.alloc (.cells (dH (.slice (some ⟨b,Al,none⟩) N rc) stop last) 86)).alloc (.cells ak.toArray 54)) #[.bool true,.string t.text,.string ⟨#[]⟩,.string ⟨#[]⟩,.slice none 0 0,.slice none 0 0,.slice none 0 0] 54;simp only[World.size_alloc] at kB kC;have BT:(((w.alloc (.cells (dH (.slice (some ⟨b,Al,none⟩) N rc) stop last) 86)).alloc (.cells ak.toArray 54)).alloc (.cells #[.bool true,.string t.text,.string ⟨#[]⟩,.string ⟨#[]⟩,.slice none 0 0,.slice none 0 0,.slice none 0 0] 54)).heap.size=w.heap.size+3:=by simp
 generalize ((w.alloc (.cells (dH (.slice (some ⟨b,Al,none⟩) N rc) stop last) 86)).alloc (.cells ak.toArray 54)).alloc (.cells #[.bool true,.string t.text,.string ⟨#[]⟩,.string ⟨#[]⟩,.slice none 0 0,.slice none 0 0,.slice none 0 0] 54)=wA at *;have HA:=Jh BO (And.intro kA (And.intro kB (And.intro kC BT)));clear BO kA kB kC BT
 go_loopw [4,7,8,9] (fun _ iv _ _ wr=>∃(m:Nat) (pre:List ByteArray) (v:Value),m<=row.length/\iv=.int .i64 ((1+m:Nat):Int)/\vz row m pre/\Below w.heap.size w wr/\aa wr w.heap.size (dH (.slice (some ⟨b,Al,none⟩) N rc) stop last) 86/\
   aa wr (w.heap.size+1) ak.toArray 54/\aa wr (w.heap.size+2) #[.bool true,.string t.text,.string ⟨#[]⟩,.string ⟨#[]⟩,.slice none 0 0,v,.slice none 0 0] 54/\aX Value.string 9 (w.heap.size+3) wr v pre/\w.heap.size+3<=wr.heap.size) (fun _ iv _ _ _=>N-(intOf iv).toNat)
 case atStart=>exact⟨0,[],_,Nat.zero_le _,rfl,vz.zero _,HA.out.1,HA.out.2.1,HA.out.2.2.1,HA.out.2.2.2.1,aX.nil,by rw[HA.out.2.2.2.2];exact Nat.le_refl _⟩
 case round=>
  clear HA c0 c1 c2 AL;obtain⟨m,pre,v,hm,rfl,AD,Ab,k0,k1,k2,Aa,hz⟩:=hrel;obtain⟨Bq,Bt,Bi⟩:=H0.out;have hp:=Bq.below Ab Ap;have hr:=Bt.below Ab lz;have Bj:=Bi.below Ab hTg;have Cy:pre.length<=row.length:=by rw[AD.1];exact hm
  have BM:=Hh AD;obtain⟨M,hM⟩:=exq (1+m);have Cn:M<=1+m/\1+m<=M:=by omega
  rw[<-hM];have Bl:=k0.lt;have Bm:=k1.lt;have Bn:=k2.lt
  by_cases hlab:∃h:m<row.length,row[m].kind=3
  ·obtain⟨Aw,h3⟩:=hlab
   have Au:M<(t::row).length:=by simp;omega
   have AI:(t::row)[M]=row[m]:=by subst hM;simp[Nat.add_comm 1]
   obtain⟨bb,ob,he,AL,c0,c1,c2⟩:=hr.get Au;cases he
   rw[AI] at c0 c1 c2;rw[h3] at c0;obtain⟨x,hx,BS⟩:=(zJ row[m].text).resolve_left (fun h=>hq _ (List.getElem_mem _) h3 h.1);have hQ:=Ar row[m].text wr (by have:=hsh _ (List.getElem_mem Aw);omega) Bj;rw[BS] at hQ;have Cm:=Hh (BM.out.step Aw h3 hx);have AG:decide ((M:Int)<(N:Int))=true:=by rw[decide_eq_true_iff];omega
   obtain⟨va,vc,rfl,-⟩:=Aa.row.len;generalize row[m]=tk at *;have HK:=Jh k0 (And.intro k1 (And.intro k2 (And.intro Aa Ab)));obtain⟨Ad,Ag,Ae,Ah,Af,Ai⟩:=k0.n3 rfl;obtain⟨Ay,A5,Az,A6,A0,A7,A1,A8,A2,A9,A3,AA,A4,AB⟩:=k2.n7 rfl;clear k0 k1 k2 Aa Ab AD Bq Bt Bi hp hr Bj AI BS hM;go_wp2_with fail;refine hQ.mono ?_;clear hQ Ad Ae Af Ag Ah Ai Ay Az A0 A1 A2 A3 A4 A5 A6 A7 A8 A9 AA AB c0 c1 c2;rintro _ w2 ⟨rfl,hb2⟩;obtain⟨k0,k1,k2,Aa,Ab⟩:=HK.out;have AE:=k2.below hb2 k2.lt;have AC:=Aa.below hb2 lz;have C6:=hb2.size;have Cv:=AE.lt;have Cl:=Jh (k0.below hb2 k0.lt) (And.intro (k1.below hb2 k1.lt) (And.intro AE (Ab.trans (hb2.mono Ab.size))));clear k0 k1 k2 Aa Ab hb2;obtain⟨AO,AV,AP,AW,AQ,AX,AR,-⟩:=AE.n4 rfl
   obtain⟨-,-,-,-,-,-,-,AY,AS,AZ,AT,Ba,AU,Bb⟩:=AE.n7 rfl;go_wp2_with (with_reducible first|refine aA ?_)
   refine Stop.out ?_;have AK:=aX.lit (f:=Value.string) (E:=9) (base:=w2.heap.size) (w:=w2) [x] lz (by simp[maxLen]);refine fG rfl _ _ _ rfl (w.heap.size+3) 9 16 (.string ⟨#[]⟩) Tryz.underlying34 Tryz.infoStr rfl (fun _=>rfl) pre [x] (by exact AC.alloc _) AK.row (by simp;unfold maxLen;omega) (by simp;omega) (by simp;omega) (w2.alloc (.cells #[.string x] 9)) (Below.refl _ _) ?_;intro v3 w3 own3 hb3 hg3;obtain⟨C2,C3,rfl,-⟩:=own3.row.len;have C0:∀k,(Value.slice va pre.length vc).ownBlock=some k->w.heap.size+3<=k:=fun k hk=>(World.ownsRow.lt AC k hk).1;have Be:=(AE.alloc (.cells #[.string x] 9)).below hb3 (by omega);have Cw:=Be.lt;have HX:=Jh own3 hb3;clear own3 hg3 AE AO AP AQ AR AS AT AU AV AW AX AY AZ Ba Bb AC AK hb3;have Bh:=Hh Be;obtain⟨BX,Ce,BY,Cf,BZ,Cg,Ca,Ch,Cb,Ci,Cc,Cj,Cd,Ck⟩:=Be.n7 rfl;clear Be;go_wp2;go_roundw
   case rel=>
    obtain⟨own3,hb3⟩:=HX.out;obtain⟨k0,k1,k2,Ab⟩:=Cl.out;have C1:=hb3.size;simp only[World.size_alloc] at C1;have Cp:Below w.heap.size w w3:=(Ab.alloc (by omega) (.cells #[.string x] 9)).trans (hb3.mono (by omega))
    refine⟨m+1,_,_,by omega,by go_num,Cm.out,Cp.setCell (by show w.heap.size<=w.heap.size+2;omega) _,
     ((k0.alloc _).below hb3 (by omega)).setOther _ _ (by show w.heap.size+2≠_;omega),((k1.alloc _).below hb3 (by omega)).setOther _ _ (by show w.heap.size+2≠_;omega),Bh.out.setI 5 _,?_,by rw[World.size_setCell];omega⟩
    have ho:=own3.setOther ⟨w.heap.size+2,5,none⟩ (.slice C2 (pre++[x]).length C3) (fun h=>by have h9:w.heap.size+3<=w.heap.size+2:=(World.ownsRow.lt own3 _ h).1;omega);simp only[List.length_append,List.length_cons,List.length_nil,Nat.zero_add] at ho;exact ho
   case measure=>simp[intOf];omega
  ·have Ak:jr row=pre/\pre.length=m:=by
    by_cases Aw:m<row.length
    ·exact AD.stop Aw (fun h3=>hlab ⟨Aw,h3⟩)
    ·exact AD.done (by omega)
   have Ac:=HR.out;unfold gL at Ac;simp only[List.drop_succ_cons,List.drop_zero,Ak.1,Ak.2] at Ac;rw[<-hM] at Ac;obtain⟨va,vc,rfl,-⟩:=Aa.row.len;have As:=Hh Ac;have HS:=Hh (show Na w wr (dH (.slice (some ⟨b,Al,none⟩) N rc) stop last) #[.bool true,.string t.text,.string ⟨#[]⟩,.string ⟨#[]⟩,.slice none 0 0,.slice va pre.length vc,.slice none 0 0] (.slice va pre.length vc) pre from ⟨Ab,k0,k1,k2,Aa,hz⟩);clear Ak Ac AD BM HR Ab k0 k1 k2 Aa Bq Bt Bi Bj hp hM
   by_cases Aw:m<row.length
   focus
    have Au:M<(t::row).length:=by simp;omega
    have AI:(t::row)[M]=row[m]:=by
      have hM:M=1+m:=by omega
      subst hM;simp[Nat.add_comm 1]
    obtain⟨bb,ob,he,AL,c0,c1,c2⟩:=hr.get Au;cases he
    have h3:((t::row)[M].kind==3)=false:=by
     rw[beq_eq_false_iff_ne,AI];exact fun h3=>hlab ⟨Aw,h3⟩
    have AG:decide ((M:Int)<(N:Int))=true:=by rw[decide_eq_true_iff];omega
    have Ct:((M:Int)==(N:Int))=false:=by rw[beq_eq_false_iff_ne];omega
    have BQ:(t::row)[M]?=some (t::row)[M]:=List.getElem?_eq_getElem Au;have BP:(t::row).drop M=(t::row)[M]::(t::row).drop (M+1):=List.drop_eq_getElem_cons Au;generalize (t::row)[M]=tk at *;have Bf:=Jh BQ BP;have At:=o9 tk rF wr;clear AI hlab BQ BP;obtain⟨kk,kt,kp⟩:=tk;simp only[eO] at At;simp only at c0 c1 c2 h3;obtain⟨Ab,k0,k1,k2,Aa,Aq⟩:=HS.out;obtain⟨Ad,Ag,Ae,Ah,Af,Ai⟩:=k0.n3 rfl;clear Ab k0 k1 k2 Aa Aq hr;go_wp2_with fail;refine At.mono ?_;clear At c0 c1 c2 Ad Ae Af Ag Ah Ai;rintro _ w2 ⟨rfl,hb2⟩;have An:=Hh (HS.out.step hb2);clear hb2 HS hz AL Bl Bm Bn;have Ac:=As.out;rw[Bf.out.1,Bf.out.2,pW] at Ac;clear As
    by_cases hsg:lU ⟨kk,kt,kp⟩ rF=false
    focus
     rw[if_pos hsg] at Ac;rw[hsg];have Aj:=Hh Ac;clear Ac;obtain⟨Ab,k0,k1,k2,Aa,Aq⟩:=An.out;have hL:=jC g (.slice oa n oc) (t::row) (.slice (some ⟨b,Al,none⟩) N rc) stop last (M) _ (H0.out.1.below Ab Ap) (H0.out.2.1.below Ab lz) (by simp;omega);rw[<-Aj.out,show (((M:Nat)):Int)=(M:Int) by omega] at hL;have H9:Hid (xU R=0/\zP R=bY):=Hh (by rw[Aj.out];exact jD _ _ _ _);simp only[iL] at hL;have Av:=k0.lt;obtain⟨Ad,Ag,Ae,Ah,Af,Ai⟩:=k0.n3 rfl;clear Ab k0 k1 k2 Aa;go_wp2_with fail;have Bc:=An
    rotate_left
    focus
     rw[if_neg hsg] at Ac;have Ao:lU ⟨kk,kt,kp⟩ rF=true:=by simpa using hsg
     rw[Ao];clear hsg Ao
     by_cases hdp:64<n
     focus
      rw[if_pos hdp] at Ac;simp only at Ac;have Cq:decide ((64:Int)<(n:Int))=true:=by rw[decide_eq_true_iff];omega
      have Aj:=Hh Ac;obtain⟨Ab,k0,k1,k2,Aa,Aq⟩:=An.out;have Bd:=H0.out.1.below Ab Ap;obtain⟨bb,ob,he,AL,c0,c1,c2⟩:=(H0.out.2.1.below Ab lz).get Au;cases he
      have AM:(t::row)[M].pos=kp:=by
       have:=Bf.out.1;rw[List.getElem?_eq_getElem Au] at this;rw[Option.some.inj this]
      rw[AM] at c2;have hF:=qG g (.slice oa n oc) 0 0 kp 5 _ Bd;have Av:=k0.lt;have BR:=Bd.lt;have Bs:=Bd.cell 0 _ rfl;obtain⟨Ad,Ag,Ae,Ah,Af,Ai⟩:=k0.n3 rfl;clear Ac Ab k0 k1 k2 Aa Bd c0 c1 AM hdp;go_wp2_with fail;refine hF.mono ?_;clear hF Ad Ae Af Ag Ah Ai c2 Bs;rintro _ w4 ⟨rfl,p4,hw4⟩;obtain⟨Ab,k0,k1,k2,Aa,-⟩:=An.out;have Ax:aC g w2 w4:=by rw[hw4];exact ((aC.refl _ _).set _ _).set _ _
      have q4:=Ax.cells k1 (by omega);have Cx:=q4.lt;have p4:iR w4 g (.slice oa n oc) (EP R).1 (EP R).2:=by rw[Aj.out];exact p4
      have Bg:=Jh p4 ((aC.of Ab).trans Ax);have BN:=Hh q4;have H9:Hid (xU R=0/\zP R=bY):=Hh (by rw[Aj.out];exact⟨rfl,rfl⟩);obtain⟨B8,BF,B9,BG,BA,BH,BB,BI,BC,BJ,BD,BK,BE,BL⟩:=q4.n7 rfl;clear q4 p4 Ax Ab k0 k1 k2 Aa hw4;go_wp2_with fail
     rotate_left
     focus
      rw[if_neg hdp] at Ac;have Cq:decide ((64:Int)<(n:Int))=false:=by rw[decide_eq_false_iff_not];omega
      have Bs:=(H0.out.1.below An.out.1 Ap).cell 0 _ rfl;have BR:=(H0.out.1.below An.out.1 Ap).lt;rw[<-HN.out] at Ac
      by_cases Ak:N=M+1
      case pos=>
       rw[if_pos Ak] at Ac;have Bk:((M:Int)+1==(N:Int))=true:=by rw[beq_iff_eq];omega
       have Aj:=Hh Ac;clear Ac Ak hdp;obtain⟨Ab,k0,k1,k2,Aa,Aq⟩:=An.out;have Av:=k0.lt;have Bo:=k1.lt;have Bp:=k2.lt;have HK:=Jh k1 (And.intro Aa (And.intro Ab (H0.out.1.below Ab Ap)));obtain⟨Ad,Ag,Ae,Ah,Af,Ai⟩:=k0.n3 rfl;obtain⟨Bu,B1,Bv,B2,Bw,B3,Bx,B4,By,B5,Bz,B6,B0,B7⟩:=k1.n7 rfl;obtain⟨Ay,A5,Az,A6,A0,A7,A1,A8,A2,A9,A3,AA,A4,AB⟩:=k2.n7 rfl;clear Ab k0 k1 k2 Aa;go_wp2_with fail;go_region
       all_goals
        go_wp2_with fail;obtain⟨k1,Aa,Ab,Br⟩:=HK.out;have AN:=(k1.put [.bool true,.string t.text,.string ⟨#[]⟩,.string ⟨#[]⟩,.slice none 0 0,.slice va pre.length vc,.slice none 0 0] 0).drew;obtain⟨y0,y1,y2,y3,y4,y5,y6⟩:=AN.m7 rfl;simp only[ai] at y0 y1 y2 y3 y4 y5 y6;refine bodyPost_ret (v:=.tuple #[.int .i64 3,.agg #[.bool true,.string t.text,.string ⟨#[]⟩,.string ⟨#[]⟩,.slice none 0 0,.slice va pre.length vc,.slice none 0 0]]) (by simp[results,Tryz.results134,go_sem,y0,y1,y2,y3,y4,y5,y6]) rfl ?_;show kV g (.slice oa n oc) R w _ (ai w2 (w.heap.size+1) 0 [.bool true,.string t.text,.string ⟨#[]⟩,.string ⟨#[]⟩,.slice none 0 0,.slice va pre.length vc,.slice none 0 0]).drew;rw[Aj.out];refine⟨((aC.of Ab).setAllNew (by omega) _).drew,(Br.setAllOther (by omega)).drew,[.bool true,.string t.text,.string ⟨#[]⟩,.string ⟨#[]⟩,.slice none 0 0,.slice va pre.length vc,.slice none 0 0],rfl,?_⟩;refine⟨aN.leaf (ae.leaf _ _ _ _) ?_,rfl⟩;exact FY (q:=w.heap.size+1) (B:=w.heap.size+3) (by omega) (by omega) Aa
      focus
       rw[if_neg Ak] at Ac;have Bk:((M:Int)+1==(N:Int))=false:=by rw[beq_eq_false_iff_ne];omega
       have AJ:M+1<(t::row).length:=by rw[<-HN.out];omega
       obtain⟨C4,C7,Cs,Cz,d0,d1,d2⟩:=(H0.out.2.1.below An.out.1 lz).get AJ;cases Cs
       have AH:row.drop M=(t::row)[M+1]::row.drop (M+1):=List.drop_eq_getElem_cons AJ;rw[AH,pW] at Ac;have At:=o9 (t::row)[M+1] ng w2;generalize (t::row)[M+1]=tk2 at *;obtain⟨BU,BW,BV⟩:=tk2;simp only[eO] at At;simp only at d0 d1 d2;obtain⟨Ab,k0,k1,k2,Aa,Aq⟩:=An.out;have Av:=k0.lt;obtain⟨Ad,Ag,Ae,Ah,Af,Ai⟩:=k0.n3 rfl;have As:=Hh Ac;have C5:Al+(M+1)*3=Al+(M+1)*3:=rfl;clear Ab k0 k1 k2 Aa Ac AH hdp;go_wp2_with fail;refine At.mono ?_;clear At d0 d1 d2 Ad Ae Af Ag Ah Ai Bs BR;rintro _ w5 ⟨rfl,hb5⟩;have AF:=Hh (An.out.step hb5);clear hb5 An;have Ac:=As.out;clear As
       by_cases hsg:lU ⟨BU,BW,BV⟩ ng=false
       focus
        rw[if_pos hsg] at Ac;rw[hsg];have Aj:=Hh Ac;clear Ac hsg;obtain⟨Ab,k0,k1,k2,Aa,Aq⟩:=AF.out;have hL:=jC g (.slice oa n oc) (t::row) (.slice (some ⟨b,Al,none⟩) N rc) stop last ((M+1)) _ (H0.out.1.below Ab Ap) (H0.out.2.1.below Ab lz) (by simp;omega);rw[<-Aj.out,show ((((M+1):Nat)):Int)=(M:Int)+1 by omega] at hL;have H9:Hid (xU R=0/\zP R=bY):=Hh (by rw[Aj.out];exact jD _ _ _ _);simp only[iL] at hL;have Av:=k0.lt;obtain⟨Ad,Ag,Ae,Ah,Af,Ai⟩:=k0.n3 rfl;clear Ab k0 k1 k2 Aa;go_wp2_with fail;have Bc:=AF
       rotate_left
       focus
        rw[if_neg hsg] at Ac;have Ao:lU ⟨BU,BW,BV⟩ ng=true:=by simpa using hsg
        rw[Ao];clear hsg Ao
        by_cases hmore:M+2<N
        focus
         rw[if_pos hmore] at Ac;have Aj:=Hh Ac;have Cr:decide ((M:Int)+1+1<(N:Int))=true:=by rw[decide_eq_true_iff];omega
         clear Ac;obtain⟨Ab,k0,k1,k2,Aa,Aq⟩:=AF.out;have hL:=jC g (.slice oa n oc) (t::row) (.slice (some ⟨b,Al,none⟩) N rc) stop last ((M+2)) _ (H0.out.1.below Ab Ap) (H0.out.2.1.below Ab lz) (by simp;omega);rw[<-Aj.out,show ((((M+2):Nat)):Int)=(M:Int)+1+1 by omega] at hL;have H9:Hid (xU R=0/\zP R=bY):=Hh (by rw[Aj.out];exact jD _ _ _ _);simp only[iL] at hL;have Av:=k0.lt;obtain⟨Ad,Ag,Ae,Ah,Af,Ai⟩:=k0.n3 rfl;clear Ab k0 k1 k2 Aa;go_wp2_with fail;have Bc:=AF
        rotate_left
        ·rw[if_neg hmore] at Ac
         have Aj:=Hh Ac;have Cr:decide ((M:Int)+1+1<(N:Int))=false:=by rw[decide_eq_false_iff_not];omega
         clear Ac;obtain⟨Ab,k0,k1,k2,Aa,Aq⟩:=AF.out;have Av:=k0.lt;have Bo:=k1.lt;have Bp:=k2.lt;have HK:=Jh k1 (And.intro Aa (And.intro Ab (H0.out.1.below Ab Ap)));obtain⟨Ad,Ag,Ae,Ah,Af,Ai⟩:=k0.n3 rfl;obtain⟨Bu,B1,Bv,B2,Bw,B3,Bx,B4,By,B5,Bz,B6,B0,B7⟩:=k1.n7 rfl;obtain⟨Ay,A5,Az,A6,A0,A7,A1,A8,A2,A9,A3,AA,A4,AB⟩:=k2.n7 rfl;clear Ab k0 k1 k2 Aa;go_wp2_with fail;go_region
         all_goals
          go_wp2_with fail;obtain⟨k1,Aa,Ab,Br⟩:=HK.out;have AN:=(k1.put [.bool true,.string t.text,.string ⟨#[]⟩,.string ⟨#[]⟩,.slice none 0 0,.slice va pre.length vc,.slice none 0 0] 0).drew;obtain⟨y0,y1,y2,y3,y4,y5,y6⟩:=AN.m7 rfl;simp only[ai] at y0 y1 y2 y3 y4 y5 y6;refine bodyPost_ret (v:=.tuple #[.int .i64 4,.agg #[.bool true,.string t.text,.string ⟨#[]⟩,.string ⟨#[]⟩,.slice none 0 0,.slice va pre.length vc,.slice none 0 0]]) (by simp[results,Tryz.results134,go_sem,y0,y1,y2,y3,y4,y5,y6]) rfl ?_;show kV g (.slice oa n oc) R w _ (ai w5 (w.heap.size+1) 0 [.bool true,.string t.text,.string ⟨#[]⟩,.string ⟨#[]⟩,.slice none 0 0,.slice va pre.length vc,.slice none 0 0]).drew;rw[Aj.out];refine⟨((aC.of Ab).setAllNew (by omega) _).drew,(Br.setAllOther (by omega)).drew,[.bool true,.string t.text,.string ⟨#[]⟩,.string ⟨#[]⟩,.slice none 0 0,.slice va pre.length vc,.slice none 0 0],rfl,?_⟩;refine⟨aN.leaf (ae.leaf _ _ _ _) ?_,rfl⟩;exact FY (q:=w.heap.size+1) (B:=w.heap.size+3) (by omega) (by omega) Aa
   rotate_left 4
   focus
    have AG:decide ((M:Int)<(N:Int))=false:=by rw[decide_eq_false_iff_not];omega
    have Ct:((M:Int)==(N:Int))=true:=by rw[beq_iff_eq];omega
    have Ac:=As.out;rw[List.drop_eq_nil_of_le (by simp;omega),if_pos (by rfl)] at Ac;have Aj:=Hh Ac;clear Ac As hlab hr;obtain⟨Ab,k0,k1,k2,Aa,Aq⟩:=HS.out;have hL:=jC g (.slice oa n oc) (t::row) (.slice (some ⟨b,Al,none⟩) N rc) stop last (M) _ (H0.out.1.below Ab Ap) (H0.out.2.1.below Ab lz) (by simp;omega);rw[<-Aj.out,show (((M:Nat)):Int)=(M:Int) by omega] at hL;have H9:Hid (xU R=0/\zP R=bY):=Hh (by rw[Aj.out];exact jD _ _ _ _);simp only[iL] at hL;have Av:=k0.lt;obtain⟨Ad,Ag,Ae,Ah,Af,Ai⟩:=k0.n3 rfl;clear Ab k0 k1 k2 Aa;go_wp2_with fail;have Bc:=HS
   all_goals
    try (
     refine hL.mono ?_;clear hL Ad Ae Af Ag Ah Ai;rintro _ w4 ⟨rfl,Ax,p4⟩;obtain⟨Ab,k0,k1,k2,Aa,-⟩:=Bc.out;have q4:=Ax.cells k1 (by omega);have Cx:=q4.lt;have Bg:=Jh p4 ((aC.of Ab).trans Ax);have BN:=Hh q4;obtain⟨B8,BF,B9,BG,BA,BH,BB,BI,BC,BJ,BD,BK,BE,BL⟩:=q4.n7 rfl;clear q4 p4 Ax Ab k0 k1 k2 Aa;go_wp2_with fail
     skip)
    have AN:=BN.out.put ak 0;obtain⟨y0,y1,y2,y3,y4,y5,y6⟩:=AN.m7 rfl;simp only[ai] at y0 y1 y2 y3 y4 y5 y6;refine bodyPost_ret (v:=.tuple #[.int .i64 0,.agg #[.bool false,.string ⟨#[]⟩,.string ⟨#[]⟩,.string ⟨#[]⟩,.slice none 0 0,.slice none 0 0,.slice none 0 0]]) (by simp[results,Tryz.results134,go_sem,y0,y1,y2,y3,y4,y5,y6]) rfl ?_;show kV g (.slice oa n oc) R w _ (ai w4 (w.heap.size+1) 0 ak);exact⟨Bg.out.2.setAllNew (by omega) _,Bg.out.1.setAllOther (by omega),ak,by rw[H9.out.1],(by rw[H9.out.2];exact aN.zero _ _),rfl⟩
def Ox(w W:World)(line:Array Value):Prop:=Below w.heap.size w W/\aa W w.heap.size line 86/\aa W (w.heap.size+1) ak.toArray 54/\w.heap.size+2<=W.heap.size
theorem Ox.step{w W W':World}{line:Array Value}(h:Ox w W line)(hb:Below W.heap.size W W'):Ox w W' line:=
 ⟨h.1.trans (hb.mono h.1.size),h.2.1.below hb h.2.1.lt,h.2.2.1.below hb h.2.2.1.lt,Nat.le_trans h.2.2.2 hb.size⟩
theorem aN.shape7{P:Nat->Prop}{w:World}{t:bP}{cs:List Value}(h:aN P w t cs):∃n vo vt va vn vc la ln lc ia k cap,cs=[.bool t.block,.string n,.string vo,.string vt,.slice va vn vc,.slice la ln lc,.slice ia k cap]:=by
 cases t
 unfold aN at h;obtain⟨_,_,_,_,_,_,rfl,hv,hl,-⟩:=h.open;obtain⟨va,vn,vc,rfl⟩:=Ad hv;obtain⟨la,lc,rfl,-⟩:=hl.1.len;exact⟨_,_,_,_,_,_,_,_,_,_,_,_,rfl⟩
theorem KO(g:Nat)(oa:Option Addr)(n oc:Nat)  (lv:Value) (stop:Int) (last:Bool) (w:World) (h:iR w g (.slice oa n oc) 0 0) (hr:aH w lv []) (ho:∀b,lv.ownBlock=some b->b<w.heap.size) (hT:jf w) (hn:([]:List ag).length<=900000) (hsh:∀t∈([]:List ag),t.text.size<=1048576) (hq:∀t∈([]:List ag),t.kind=3->jP t.text≠none) :
  Calls Tryz.prog 89 #[.pointer (some ⟨g,0,none⟩),iL lv stop last] w (kV g (.slice oa n oc) (bn n [] stop last) w):=by
 obtain⟨ra,rc,rfl,Ah,Ai,-⟩:=hr.len;obtain⟨N,hN⟩:=exq (([]:List ag).length);have Aa:N<=([]:List ag).length/\([]:List ag).length<=N:=by omega
 rw[<-hN] at hr Ah ho ⊢;unfold maxLen at Ai;have HN:=Hh hN;clear hN;obtain⟨R,hR⟩:=exq (bn n [] stop last);have HR:=Hh hR;rw[<-hR];clear hR;have Ag:=h.lt;have Ad:Below w.heap.size w ((w.alloc (.cells (dH (.slice ra N rc) stop last) 86)).alloc (.cells ak.toArray 54)):=((Below.refl _ w).alloc lz _).alloc (by simp) _;have kA:=(aa.new w (dH (.slice ra N rc) stop last) 86).alloc (.cells ak.toArray 54);have kB:=aa.new (w.alloc (.cells (dH (.slice ra N rc) stop last) 86)) ak.toArray 54;simp only[World.size_alloc] at kB;have Af:((w.alloc (.cells (dH (.slice ra N rc) stop last) 86)).alloc (.cells ak.toArray 54)).heap.size=w.heap.size+2:=by simp
 have HS:=Hh (show Ox w ((w.alloc (.cells (dH (.slice ra N rc) stop last) 86)).alloc (.cells ak.toArray 54)) (dH (.slice ra N rc) stop last) from ⟨Ad,kA,kB,by rw[Af];exact Nat.le_refl _⟩);have H0:=Jh h (And.intro hr (And.intro ho hT));clear Ad kA kB Af h hr ho hT;have Ak:((N:Int)==0)=true:=by rw[beq_iff_eq];simp at Aa;omega
 have Ac:Hid (R=.empty):=HR;have H9:Hid (xU R=1/\zP R=bY):=Hh (by rw[Ac.out];exact⟨rfl,rfl⟩);go_enter Tryz.func89,Tryz.ntmps89;go_wp2_with fail;obtain⟨Ae,k0,k1,Al⟩:=HS.out;have Aj:=Hh k1;have p4:iR ((w.alloc (.cells (dH (.slice ra N rc) stop last) 86)).alloc (.cells ak.toArray 54)) g (.slice oa n oc) (EP R).1 (EP R).2:=by rw[Ac.out];exact H0.out.1.below Ae Ag
 have Ab:=Jh p4 (aC.of (g:=g) Ae);obtain⟨y0,y1,y2,y3,y4,y5,y6⟩:=k1.m7 rfl;refine bodyPost_ret (v:=.tuple #[.int .i64 1,.agg #[.bool false,.string ⟨#[]⟩,.string ⟨#[]⟩,.string ⟨#[]⟩,.slice none 0 0,.slice none 0 0,.slice none 0 0]]) (by simp[results,Tryz.results89,go_sem,y0,y1,y2,y3,y4,y5,y6]) rfl ?_;exact⟨Ab.out.2,Ab.out.1,ak,by rw[H9.out.1],(by rw[H9.out.2];exact aN.zero _ _),rfl⟩
theorem Mk(b:Bool)(n o s:ByteArray)(va:Option Addr)(vn vc:Nat)(la:Option Addr)(ln lc:Nat)(ia:Option Addr)(k c:Nat):∀v∈(#[.bool b,.string n,.string o,.string s,.slice va vn vc,.slice la ln lc,.slice ia k c]:Array Value).toList,v.oneCell'=true:=by
 intro v hv;simp at hv
 rcases hv with rfl|rfl|rfl|rfl|rfl|rfl|rfl<;>rfl
theorem Bf{w3:World}{B n q:Nat}{x:bP}{cs:List Value}{vals:Array Value}(hq:q<B)(hn:n<=B)(hx:aN (fun b=>B<=b) w3 x cs):aN (fun b=>n<=b) (w3.setRow q vals) x cs:=
 aN.move (P:=fun b=>B<=b) (Q:=fun b=>n<=b) (w:=w3) (w':=(w3.setRow q vals)) (Nat.le_of_eq (setRow_size w3 q vals).symm) (fun b (hb:B<=b) _=>setRow_other w3 q b vals (by omega)) (fun b (hb:B<=b) _=>Nat.le_trans hn hb) x cs hx
theorem aC.setRowNew{w w':World}{g q:Nat}(h:aC g w w')(hq:w.heap.size<=q)(vals:Array Value):aC g w (w'.setRow q vals):=
 ⟨below_setRow h.1 (Nat.zero_le _) _,fun k hk hn=>(setRow_other w' q k vals (by omega)).trans (h.2 k hk hn)⟩
theorem KN(g:Nat)(oa:Option Addr)(n oc:Nat)(t:ag)(r:List ag)(lv:Value)(stop:Int)(last:Bool)(w:World)(h:iR w g (.slice oa n oc) 0 0)(hr:aH w lv (t::r))(ho:∀b,lv.ownBlock=some b->b<w.heap.size)(hT:jf w)(hn:(t::r).length<=900000)(hsh:∀u∈(t::r),u.text.size<=1048576)(hq:∀u∈(t::r),u.kind=3->jP u.text≠none)(hs0:lU t ng=false)(hk1:t.kind=1) :
  Calls Tryz.prog 89 #[.pointer (some ⟨g,0,none⟩),iL lv stop last] w (kV g (.slice oa n oc) (bn n (t::r) stop last) w):=by
 obtain⟨ra,rc,rfl,A7,A8,-⟩:=hr.len;obtain⟨N,hN⟩:=exq ((t::r).length);have Ap:N<=(t::r).length/\(t::r).length<=N:=by omega
 rw[<-hN] at hr A7 ho ⊢;unfold maxLen at A8;have HN:=Hh hN;clear hN;obtain⟨R,hR⟩:=exq (bn n (t::r) stop last);have HR:=Hh hR;rw[<-hR];clear hR;have Ay:=h.lt;have A1:Below w.heap.size w ((w.alloc (.cells (dH (.slice ra N rc) stop last) 86)).alloc (.cells ak.toArray 54)):=((Below.refl _ w).alloc lz _).alloc (by simp) _;have kA:=(aa.new w (dH (.slice ra N rc) stop last) 86).alloc (.cells ak.toArray 54);have kB:=aa.new (w.alloc (.cells (dH (.slice ra N rc) stop last) 86)) ak.toArray 54;simp only[World.size_alloc] at kB;have A3:((w.alloc (.cells (dH (.slice ra N rc) stop last) 86)).alloc (.cells ak.toArray 54)).heap.size=w.heap.size+2:=by simp
 have HS:=Hh (show Ox w ((w.alloc (.cells (dH (.slice ra N rc) stop last) 86)).alloc (.cells ak.toArray 54)) (dH (.slice ra N rc) stop last) from ⟨A1,kA,kB,by rw[A3];exact Nat.le_refl _⟩);have H0:=Jh h (And.intro hr (And.intro ho hT));clear A1 kA kB A3 h hr ho hT;simp only[List.length_cons] at Ap hn;have AE:1<=N:=by omega
 have AG:((N:Int)==0)=false:=by rw[beq_eq_false_iff_ne];omega
 obtain⟨bb,ob,he,A9,c0,c1,c2⟩:=(H0.out.2.1.below HS.out.1 lz).get (j:=0) (by simp);cases he
 simp only[Nat.zero_mul,Nat.add_zero,List.getElem_cons_zero] at c0 c1 c2;have Ar:=o9 t ng ((w.alloc (.cells (dH (.slice (some ⟨bb,ob,none⟩) N rc) stop last) 86)).alloc (.cells ak.toArray 54));have Ac:=HR.out;simp only[bn] at Ac;rw[pW] at Ac;have At:=Hh Ac;clear Ac HR;have Ax:=Jh hsh hq;have AI:=hsh t (by simp);clear hsh hq;simp only[eO] at Ar;have A0:=Jh hs0 hk1;clear hs0 hk1;go_enter Tryz.func89,Tryz.ntmps89;go_wp2_with fail;refine Ar.mono ?_;generalize (w.alloc (.cells (dH (.slice (some ⟨bb,ob,none⟩) N rc) stop last) 86)).alloc (.cells ak.toArray 54)=w1 at *;clear Ar c0 c1 c2 A9;rintro _ w2 ⟨rfl,hb2⟩;have Ab:=Hh (HS.out.step hb2);clear hb2 HS;have Ac:=At.out;clear At;have hs0:=A0.out.1;have hk1:=A0.out.2;rw[if_neg (by simp[hs0])] at Ac;have Av:lU t ng=false:=hs0;rw[Av];clear Av hs0;obtain⟨AC,AJ,A5,AA,c0,c1,c2⟩:=(H0.out.2.1.below Ab.out.1 lz).get (j:=0) (by simp);cases A5
 simp only[Nat.zero_mul,Nat.add_zero,List.getElem_cons_zero] at c0 c1 c2;rw[if_neg (by simpa using hk1)] at Ac;have AH:(t.kind != 1)=false:=by simp[hk1]
 cases r with
 |nil=>
  have hd:decide ((1:Int)<(N:Int))=false:=by rw[decide_eq_false_iff_not];simp at Ap;omega
  rw[if_neg (by simp[bO])] at Ac;have hC:=Am g oa n oc t [] (.slice (some ⟨bb,ob,none⟩) N rc) stop last w2 (H0.out.1.below Ab.out.1 Ay) (H0.out.2.1.below Ab.out.1 lz) (H0.out.2.2.2.below Ab.out.1).utf (H0.out.2.2.2.below Ab.out.1).utf.pos (by simp) (fun t ht=>by cases ht) (fun t ht=>by cases ht);rw[<-Ac] at hC;obtain⟨Ad,k0,k1,As⟩:=Ab.out;have Az:=k0.lt;obtain⟨Ae,Ah,Af,Ai,Ag,Aj⟩:=k0.n3 rfl;clear Ad k0 k1 Ac hk1;simp only[iL] at hC;go_wp2_with fail;clear Ae Af Ag Ah Ai Aj c0 c1 c2;refine hC.mono ?_;clear hC;rintro _ w4 ⟨hs4,p4,cs,rfl,hin,hi6⟩;obtain⟨cn,An,Ao,va,vn,vc,la,ln,lc,Al,ck,Aa,rfl⟩:=aN.shape7 hin;obtain⟨Ad,k0,k1,As⟩:=Ab.out;have q4:=hs4.cells k1 (by omega);have A2:=q4.lt;have Ak:=Jh p4 (And.intro ((aC.of Ad).trans hs4) (And.intro hin hi6));have Aq:=Hh q4;clear q4 p4 hs4 Ad k0 k1 hin hi6;generalize (zP R).block=cb at *;go_wp2_with (with_reducible first|refine bC ?_)
  refine Stop.out ?_;refine az rfl 54 _ _ rfl rfl _ rfl #[.bool cb,.string cn,.string An,.string Ao,.slice va vn vc,.slice la ln lc,.slice Al ck Aa] rfl _ _ Aq.out rfl (by kernel_rfl) (Mk _ _ _ _ _ _ _ _ _ _ _ _ _) ?_;have Au:aa (w4.setRow (w.heap.size+1) #[.bool cb,.string cn,.string An,.string Ao,.slice va vn vc,.slice la ln lc,.slice Al ck Aa]) (w.heap.size+1) #[.bool cb,.string cn,.string An,.string Ao,.slice va vn vc,.slice la ln lc,.slice Al ck Aa] 54:=setRow_heap _ _ _ _ _ _ Aq.out;obtain⟨y0,y1,y2,y3,y4,y5,y6⟩:=Au.m7 rfl;go_wp2;refine bodyPost_ret (v:=.tuple #[.int .i64 (xU R),.agg #[.bool cb,.string cn,.string An,.string Ao,.slice va vn vc,.slice la ln lc,.slice Al ck Aa]]) (by simp[results,Tryz.results89,go_sem,y0,y1,y2,y3,y4,y5,y6]) rfl ?_;exact⟨Ak.out.2.1.setRowNew (by omega) _,(setRow_other _ _ _ _ (by omega)).trans Ak.out.1,_,rfl,Bf (B:=w2.heap.size) (by omega) (by omega) Ak.out.2.2.1,Ak.out.2.2.2⟩
 |cons t2 r2=>
  have AF:2<=N:=by simp at Ap;omega
  have hd:decide ((1:Int)<(N:Int))=true:=by rw[decide_eq_true_iff];simp at Ap;omega
  obtain⟨AD,AK,A6,AB,d0,d1,d2⟩:=(H0.out.2.1.below Ab.out.1 lz).get (j:=1) (by simp);cases A6
  simp only[Nat.one_mul,List.getElem_cons_succ,List.getElem_cons_zero] at d0 d1 d2;have Ar:=o9 t2 Ca w2;rw[pW] at Ac;have At:=Hh Ac;obtain⟨Ad,k0,k1,As⟩:=Ab.out;have Az:=k0.lt;obtain⟨Ae,Ah,Af,Ai,Ag,Aj⟩:=k0.n3 rfl;clear Ad k0 k1 Ac hk1;simp only[eO] at Ar;go_wp2_with fail;refine Ar.mono ?_;clear Ar Ae Af Ag Ah Ai Aj c0 c1 c2 d0 d1 d2;rintro _ w5 ⟨rfl,hb5⟩;have A4:=Hh (Ab.out.step hb5);clear hb5 Ab;have Ac:=At.out;clear At;have Ab:=A4
  by_cases hsq:lU t2 Ca=true
  ·rw[if_pos hsq] at Ac
   rw[hsq];have hC:=zm g (.slice oa n oc) t t2 r2 (.slice (some ⟨bb,ob,none⟩) N rc) stop last w5 (H0.out.1.below Ab.out.1 Ay) (H0.out.2.1.below Ab.out.1 lz) (fun b hb=>Nat.lt_of_lt_of_le (H0.out.2.2.1 b hb) Ab.out.1.size) (H0.out.2.2.2.below Ab.out.1) (by simp at hn;omega) (fun t ht=>Ax.out.1 t (by simp[ht]));rw[<-Ac] at hC;obtain⟨Ad,k0,k1,As⟩:=Ab.out;have Az:=k0.lt;obtain⟨Ae,Ah,Af,Ai,Ag,Aj⟩:=k0.n3 rfl;clear Ad k0 k1 Ac hsq;simp only[iL] at hC;go_wp2_with fail;clear Ae Af Ag Ah Ai Aj;refine hC.mono ?_;clear hC;rintro _ w4 ⟨hs4,p4,cs,rfl,hin,hi6⟩;obtain⟨cn,An,Ao,va,vn,vc,la,ln,lc,Al,ck,Aa,rfl⟩:=aN.shape7 hin;obtain⟨Ad,k0,k1,As⟩:=Ab.out;have q4:=hs4.cells k1 (by omega);have A2:=q4.lt;have Ak:=Jh p4 (And.intro ((aC.of Ad).trans hs4) (And.intro hin hi6));have Aq:=Hh q4;clear q4 p4 hs4 Ad k0 k1 hin hi6;generalize (zP R).block=cb at *;go_wp2_with (with_reducible first|refine bC ?_)
   refine Stop.out ?_;refine az rfl 54 _ _ rfl rfl _ rfl #[.bool cb,.string cn,.string An,.string Ao,.slice va vn vc,.slice la ln lc,.slice Al ck Aa] rfl _ _ Aq.out rfl (by kernel_rfl) (Mk _ _ _ _ _ _ _ _ _ _ _ _ _) ?_;have Au:aa (w4.setRow (w.heap.size+1) #[.bool cb,.string cn,.string An,.string Ao,.slice va vn vc,.slice la ln lc,.slice Al ck Aa]) (w.heap.size+1) #[.bool cb,.string cn,.string An,.string Ao,.slice va vn vc,.slice la ln lc,.slice Al ck Aa] 54:=setRow_heap _ _ _ _ _ _ Aq.out;obtain⟨y0,y1,y2,y3,y4,y5,y6⟩:=Au.m7 rfl;go_wp2;refine bodyPost_ret (v:=.tuple #[.int .i64 (xU R),.agg #[.bool cb,.string cn,.string An,.string Ao,.slice va vn vc,.slice la ln lc,.slice Al ck Aa]]) (by simp[results,Tryz.results89,go_sem,y0,y1,y2,y3,y4,y5,y6]) rfl ?_;exact⟨Ak.out.2.1.setRowNew (by omega) _,(setRow_other _ _ _ _ (by omega)).trans Ak.out.1,_,rfl,Bf (B:=w5.heap.size) (by omega) (by omega) Ak.out.2.2.1,Ak.out.2.2.2⟩
  ·rw[if_neg hsq] at Ac
   have Aw:lU t2 Ca=false:=by simpa using hsq
   rw[Aw];have hC:=Am g oa n oc t (t2::r2) (.slice (some ⟨bb,ob,none⟩) N rc) stop last w5 (H0.out.1.below Ab.out.1 Ay) (H0.out.2.1.below Ab.out.1 lz) (H0.out.2.2.2.below Ab.out.1).utf (H0.out.2.2.2.below Ab.out.1).utf.pos (by simp at hn ⊢;omega) (fun t ht=>Ax.out.1 t (List.mem_cons_of_mem _ ht)) (fun t ht=>Ax.out.2 t (List.mem_cons_of_mem _ ht));rw[<-Ac] at hC;obtain⟨Ad,k0,k1,As⟩:=Ab.out;have Az:=k0.lt;obtain⟨Ae,Ah,Af,Ai,Ag,Aj⟩:=k0.n3 rfl;clear Ad k0 k1 Ac hsq Aw;simp only[iL] at hC;go_wp2_with fail;clear Ae Af Ag Ah Ai Aj;refine hC.mono ?_;clear hC;rintro _ w4 ⟨hs4,p4,cs,rfl,hin,hi6⟩;obtain⟨cn,An,Ao,va,vn,vc,la,ln,lc,Al,ck,Aa,rfl⟩:=aN.shape7 hin;obtain⟨Ad,k0,k1,As⟩:=Ab.out;have q4:=hs4.cells k1 (by omega);have A2:=q4.lt;have Ak:=Jh p4 (And.intro ((aC.of Ad).trans hs4) (And.intro hin hi6));have Aq:=Hh q4;clear q4 p4 hs4 Ad k0 k1 hin hi6;generalize (zP R).block=cb at *;go_wp2_with (with_reducible first|refine bC ?_)
   refine Stop.out ?_;refine az rfl 54 _ _ rfl rfl _ rfl #[.bool cb,.string cn,.string An,.string Ao,.slice va vn vc,.slice la ln lc,.slice Al ck Aa] rfl _ _ Aq.out rfl (by kernel_rfl) (Mk _ _ _ _ _ _ _ _ _ _ _ _ _) ?_;have Au:aa (w4.setRow (w.heap.size+1) #[.bool cb,.string cn,.string An,.string Ao,.slice va vn vc,.slice la ln lc,.slice Al ck Aa]) (w.heap.size+1) #[.bool cb,.string cn,.string An,.string Ao,.slice va vn vc,.slice la ln lc,.slice Al ck Aa] 54:=setRow_heap _ _ _ _ _ _ Aq.out;obtain⟨y0,y1,y2,y3,y4,y5,y6⟩:=Au.m7 rfl;go_wp2;refine bodyPost_ret (v:=.tuple #[.int .i64 (xU R),.agg #[.bool cb,.string cn,.string An,.string Ao,.slice va vn vc,.slice la ln lc,.slice Al ck Aa]]) (by simp[results,Tryz.results89,go_sem,y0,y1,y2,y3,y4,y5,y6]) rfl ?_;exact⟨Ak.out.2.1.setRowNew (by omega) _,(setRow_other _ _ _ _ (by omega)).trans Ak.out.1,_,rfl,Bf (B:=w5.heap.size) (by omega) (by omega) Ak.out.2.2.1,Ak.out.2.2.2⟩
theorem zT(g:Nat)(oa:Option Addr)(n oc:Nat)(t:ag)(r:List ag)(lv:Value)(stop:Int)(last:Bool)(w:World)(h:iR w g (.slice oa n oc) 0 0)(hr:aH w lv (t::r))(ho:∀b,lv.ownBlock=some b->b<w.heap.size)(hT:jf w)(hn:(t::r).length<=900000)(hsh:∀u∈(t::r),u.text.size<=1048576)(hq:∀u∈(t::r),u.kind=3->jP u.text≠none)(hB:lU t ng=true\/¬t.kind=1) :
  Calls Tryz.prog 89 #[.pointer (some ⟨g,0,none⟩),iL lv stop last] w (kV g (.slice oa n oc) (bn n (t::r) stop last) w):=by
 obtain⟨ra,rc,rfl,AI,AJ,-⟩:=hr.len;obtain⟨N,hN⟩:=exq ((t::r).length);have A6:N<=(t::r).length/\(t::r).length<=N:=by omega
 rw[<-hN] at hr AI ho ⊢;unfold maxLen at AJ;have HN:=Hh hN;clear hN;obtain⟨R,hR⟩:=exq (bn n (t::r) stop last);have HR:=Hh hR;rw[<-hR];clear hR;have Aj:=h.lt;have AD:Below w.heap.size w ((w.alloc (.cells (dH (.slice ra N rc) stop last) 86)).alloc (.cells ak.toArray 54)):=((Below.refl _ w).alloc lz _).alloc (by simp) _;have kA:=(aa.new w (dH (.slice ra N rc) stop last) 86).alloc (.cells ak.toArray 54);have kB:=aa.new (w.alloc (.cells (dH (.slice ra N rc) stop last) 86)) ak.toArray 54;simp only[World.size_alloc] at kB;have AE:((w.alloc (.cells (dH (.slice ra N rc) stop last) 86)).alloc (.cells ak.toArray 54)).heap.size=w.heap.size+2:=by simp
 have HS:=Hh (show Ox w ((w.alloc (.cells (dH (.slice ra N rc) stop last) 86)).alloc (.cells ak.toArray 54)) (dH (.slice ra N rc) stop last) from ⟨AD,kA,kB,by rw[AE];exact Nat.le_refl _⟩);have H0:=Jh h (And.intro hr (And.intro ho hT));clear AD kA kB AE h hr ho hT;simp only[List.length_cons] at A6 hn;have Bd:1<=N:=by omega
 have Be:((N:Int)==0)=false:=by rw[beq_eq_false_iff_ne];omega
 obtain⟨bb,ob,he,AK,c0,c1,c2⟩:=(H0.out.2.1.below HS.out.1 lz).get (j:=0) (by simp);cases he
 simp only[Nat.zero_mul,Nat.add_zero,List.getElem_cons_zero] at c0 c1 c2;have A7:=o9 t ng ((w.alloc (.cells (dH (.slice (some ⟨bb,ob,none⟩) N rc) stop last) 86)).alloc (.cells ak.toArray 54));have Ab:=HR.out;simp only[bn] at Ab;rw[pW] at Ab;have AC:=Hh Ab;clear Ab HR;have Bb:=Jh hsh hq;have Bg:=hsh t (by simp);clear hsh hq;simp only[eO] at A7;go_enter Tryz.func89,Tryz.ntmps89;go_wp2_with fail;refine A7.mono ?_;generalize (w.alloc (.cells (dH (.slice (some ⟨bb,ob,none⟩) N rc) stop last) 86)).alloc (.cells ak.toArray 54)=w1 at *;clear A7 c0 c1 c2 AK;rintro _ w2 ⟨rfl,hb2⟩;have Ai:=Hh (HS.out.step hb2);clear hb2 HS;have Ab:=AC.out;clear AC
 by_cases hsg:lU t ng=true
 ·rw[if_pos hsg] at Ab
  rw[hsg];clear hsg
  by_cases h1:n=1
  ·rw[if_pos h1] at Ab
   have AM:((n:Int)==1)=true:=by rw[beq_iff_eq];omega
   have Al:=Hh Ab;clear Ab h1;have Ao:=(H0.out.1.below Ai.out.1 Aj).cell 0 _ rfl;have An:=(H0.out.1.below Ai.out.1 Aj).lt;obtain⟨Aa,k0,k1,AB⟩:=Ai.out;have hL:=jC g (.slice oa n oc) (t::r) (.slice (some ⟨bb,ob,none⟩) N rc) stop last (0) _ (H0.out.1.below Aa Aj) (H0.out.2.1.below Aa lz) (by simp;omega);rw[<-Al.out,show (((0:Nat)):Int)=0 from rfl] at hL;have H9:Hid (xU R=0/\zP R=bY):=Hh (by rw[Al.out];exact jD _ _ _ _);simp only[iL] at hL;have A8:=k0.lt;have An:=(H0.out.1.below Aa Aj).lt;have Ao:=(H0.out.1.below Aa Aj).cell 0 _ rfl;obtain⟨Ac,Af,Ad,Ag,Ae,Ah⟩:=k0.n3 rfl;clear Aa k0 k1;go_wp2_with fail;refine hL.mono ?_;clear hL Ac Ad Ae Af Ag Ah Ao An;rintro _ w4 ⟨rfl,hs4,p4⟩;obtain⟨Aa,k0,k1,-⟩:=Ai.out;have q4:=hs4.cells k1 (by omega);have A9:=q4.lt;have Ak:=Jh p4 ((aC.of Aa).trans hs4);have Am:=Hh q4;obtain⟨Ar,Ay,As,Az,At,A0,Au,A1,Av,A2,Aw,A3,Ax,-⟩:=q4.n7 rfl
   have A4:=q4.frozen 6;clear q4 p4 hs4 Aa k0 k1;go_wp2_with fail;have Ap:=Am.out.put ak 0;obtain⟨y0,y1,y2,y3,y4,y5,y6⟩:=Ap.m7 rfl;simp only[ai] at y0 y1 y2 y3 y4 y5 y6;refine bodyPost_ret (v:=.tuple #[.int .i64 0,.agg #[.bool false,.string ⟨#[]⟩,.string ⟨#[]⟩,.string ⟨#[]⟩,.slice none 0 0,.slice none 0 0,.slice none 0 0]]) (by simp[results,Tryz.results89,go_sem,y0,y1,y2,y3,y4,y5,y6]) rfl ?_;show kV g (.slice oa n oc) R w _ (ai w4 (w.heap.size+1) 0 ak);exact⟨Ak.out.2.setAllNew (by omega) _,Ak.out.1.setAllOther (by omega),ak,by rw[H9.out.1],(by rw[H9.out.2];exact aN.zero _ _),rfl⟩
  ·rw[if_neg h1] at Ab
   have AM:((n:Int)==1)=false:=by rw[beq_eq_false_iff_ne];omega
   simp only[List.length_cons] at Ab
   by_cases h2:1<r.length+1
   ·rw[if_pos h2] at Ab
    have hd:decide ((1:Int)<(N:Int))=true:=by rw[decide_eq_true_iff];omega
    have Al:=Hh Ab;clear Ab h1 h2;obtain⟨Aa,k0,k1,AB⟩:=Ai.out;have hL:=jC g (.slice oa n oc) (t::r) (.slice (some ⟨bb,ob,none⟩) N rc) stop last (1) _ (H0.out.1.below Aa Aj) (H0.out.2.1.below Aa lz) (by simp;omega);rw[<-Al.out,show (((1:Nat)):Int)=1 from rfl] at hL;have H9:Hid (xU R=0/\zP R=bY):=Hh (by rw[Al.out];exact jD _ _ _ _);simp only[iL] at hL;have A8:=k0.lt;have An:=(H0.out.1.below Aa Aj).lt;have Ao:=(H0.out.1.below Aa Aj).cell 0 _ rfl;obtain⟨Ac,Af,Ad,Ag,Ae,Ah⟩:=k0.n3 rfl;clear Aa k0 k1;go_wp2_with fail;refine hL.mono ?_;clear hL Ac Ad Ae Af Ag Ah Ao An;rintro _ w4 ⟨rfl,hs4,p4⟩;obtain⟨Aa,k0,k1,-⟩:=Ai.out;have q4:=hs4.cells k1 (by omega);have A9:=q4.lt;have Ak:=Jh p4 ((aC.of Aa).trans hs4);have Am:=Hh q4;obtain⟨Ar,Ay,As,Az,At,A0,Au,A1,Av,A2,Aw,A3,Ax,A4⟩:=q4.n7 rfl;clear q4 p4 hs4 Aa k0 k1;go_wp2_with fail;have Ap:=Am.out.put ak 0
    obtain⟨y0,y1,y2,y3,y4,y5,y6⟩:=Ap.m7 rfl;simp only[ai] at y0 y1 y2 y3 y4 y5 y6;refine bodyPost_ret (v:=.tuple #[.int .i64 0,.agg #[.bool false,.string ⟨#[]⟩,.string ⟨#[]⟩,.string ⟨#[]⟩,.slice none 0 0,.slice none 0 0,.slice none 0 0]]) (by simp[results,Tryz.results89,go_sem,y0,y1,y2,y3,y4,y5,y6]) rfl ?_;show kV g (.slice oa n oc) R w _ (ai w4 (w.heap.size+1) 0 ak);exact⟨Ak.out.2.setAllNew (by omega) _,Ak.out.1.setAllOther (by omega),ak,by rw[H9.out.1],(by rw[H9.out.2];exact aN.zero _ _),rfl⟩
   ·rw[if_neg h2] at Ab
    have hd:decide ((1:Int)<(N:Int))=false:=by rw[decide_eq_false_iff_not];omega
    have Al:=Hh Ab;have H9:Hid (xU R=5/\zP R=bY):=Hh (by rw[Al.out];exact⟨rfl,rfl⟩);clear Ab h1 h2;obtain⟨Aa,k0,k1,AB⟩:=Ai.out;have A5:=H0.out.1.below Aa Aj;have Ao:=A5.cell 0 _ rfl;have An:=A5.lt;have A8:=k0.lt;have A9:=k1.lt;have p4:iR w2 g (.slice oa n oc) (EP R).1 (EP R).2:=by rw[Al.out];exact A5
    have Ak:=Jh p4 (aC.of (g:=g) Aa);have Am:=Hh k1;obtain⟨Ac,Af,Ad,Ag,Ae,Ah⟩:=k0.n3 rfl;obtain⟨AN,AU,AO,AV,AP,AW,AQ,AX,AR,AY,AS,AZ,AT,Ba⟩:=k1.n7 rfl;clear Aa k0 k1 A5 p4;go_wp2_with fail;have Ap:=Am.out.put ak 0;obtain⟨y0,y1,y2,y3,y4,y5,y6⟩:=Ap.m7 rfl;simp only[ai] at y0 y1 y2 y3 y4 y5 y6;refine bodyPost_ret (v:=.tuple #[.int .i64 5,.agg #[.bool false,.string ⟨#[]⟩,.string ⟨#[]⟩,.string ⟨#[]⟩,.slice none 0 0,.slice none 0 0,.slice none 0 0]]) (by simp[results,Tryz.results89,go_sem,y0,y1,y2,y3,y4,y5,y6]) rfl ?_;show kV g (.slice oa n oc) R w _ (ai w2 (w.heap.size+1) 0 ak);exact⟨Ak.out.2.setAllNew (by omega) _,Ak.out.1.setAllOther (by omega),ak,by rw[H9.out.1],(by rw[H9.out.2];exact aN.zero _ _),rfl⟩
 ·rw[if_neg hsg] at Ab
  have Aq:lU t ng=false:=by simpa using hsg
  have AA:=hsg;rw[Aq];clear hsg Aq;obtain⟨Bc,Bh,AG,AL,c0,c1,c2⟩:=(H0.out.2.1.below Ai.out.1 lz).get (j:=0) (by simp);cases AG
  simp only[Nat.zero_mul,Nat.add_zero,List.getElem_cons_zero] at c0 c1 c2
  by_cases hk1:t.kind=1
  ·exact absurd hk1 (by exact hB.resolve_left AA)
  ·rw[if_pos (by simpa using hk1)] at Ab
   have Bf:(t.kind != 1)=true:=by simpa using hk1
   have Al:=Hh Ab;have AH:=Ai.out.2.1.lt;have AF:=Ai.out.2.1.cell 0 _ rfl;clear Ab hk1;obtain⟨Aa,k0,k1,AB⟩:=Ai.out;have hL:=jC g (.slice oa n oc) (t::r) (.slice (some ⟨bb,ob,none⟩) N rc) stop last (0) _ (H0.out.1.below Aa Aj) (H0.out.2.1.below Aa lz) (by simp;omega);rw[<-Al.out,show (((0:Nat)):Int)=0 from rfl] at hL;have H9:Hid (xU R=0/\zP R=bY):=Hh (by rw[Al.out];exact jD _ _ _ _);simp only[iL] at hL;have A8:=k0.lt;have An:=(H0.out.1.below Aa Aj).lt;have Ao:=(H0.out.1.below Aa Aj).cell 0 _ rfl;obtain⟨Ac,Af,Ad,Ag,Ae,Ah⟩:=k0.n3 rfl;clear Aa k0 k1;go_wp2_with fail;refine hL.mono ?_;clear hL Ac Ad Ae Af Ag Ah Ao An;rintro _ w4 ⟨rfl,hs4,p4⟩;obtain⟨Aa,k0,k1,-⟩:=Ai.out;have q4:=hs4.cells k1 (by omega);have A9:=q4.lt;have Ak:=Jh p4 ((aC.of Aa).trans hs4);have Am:=Hh q4;obtain⟨Ar,Ay,As,Az,At,A0,Au,A1,Av,A2,Aw,A3,Ax,A4⟩:=q4.n7 rfl;clear q4 p4 hs4 Aa k0 k1
   go_wp2_with fail;have Ap:=Am.out.put ak 0;obtain⟨y0,y1,y2,y3,y4,y5,y6⟩:=Ap.m7 rfl;simp only[ai] at y0 y1 y2 y3 y4 y5 y6;refine bodyPost_ret (v:=.tuple #[.int .i64 0,.agg #[.bool false,.string ⟨#[]⟩,.string ⟨#[]⟩,.string ⟨#[]⟩,.slice none 0 0,.slice none 0 0,.slice none 0 0]]) (by simp[results,Tryz.results89,go_sem,y0,y1,y2,y3,y4,y5,y6]) rfl ?_;show kV g (.slice oa n oc) R w _ (ai w4 (w.heap.size+1) 0 ak);exact⟨Ak.out.2.setAllNew (by omega) _,Ak.out.1.setAllOther (by omega),ak,by rw[H9.out.1],(by rw[H9.out.2];exact aN.zero _ _),rfl⟩
theorem KP(g:Nat)(oa:Option Addr)(n oc:Nat)(row:List ag)(lv:Value)(stop:Int)(last:Bool)(w:World)(h:iR w g (.slice oa n oc) 0 0)(hr:aH w lv row)(ho:∀b,lv.ownBlock=some b->b<w.heap.size)(hT:jf w)(hn:row.length<=900000)(hsh:∀t∈row,t.text.size<=1048576)(hq:∀t∈row,t.kind=3->jP t.text≠none) :
  Calls Tryz.prog 89 #[.pointer (some ⟨g,0,none⟩),iL lv stop last] w (kV g (.slice oa n oc) (bn n row stop last) w):=by
 cases row with
 |nil=>exact KO g oa n oc lv stop last w h hr ho hT hn hsh hq
 |cons t r=>
  by_cases h1:lU t ng=true
  ·exact zT g oa n oc t r lv stop last w h hr ho hT hn hsh hq (.inl h1)
  ·by_cases h2:t.kind=1
   ·exact KN g oa n oc t r lv stop last w h hr ho hT hn hsh hq (by simpa using h1) h2
   ·exact zT g oa n oc t r lv stop last w h hr ho hT hn hsh hq (.inr h2)
def L6(xs:List Value):Nat->List Value->List Value
 |_,[]=>xs
 |o,v::r=>L6 (xs.set o v) (o+1) r
theorem pg:∀(vs zs ts:List Value),zs.length=vs.length->L6 (ts++zs) ts.length vs=ts++vs
 |[],[],ts,_=>rfl
 |[],_::_,_,h=>by simp at h
 |_::_,[],_,h=>by simp at h
 | v::r,z::zs,ts,h=>by
  have ih:=pg r zs (ts++[v]) (by simpa using h);simp only[List.length_append,List.length_cons,List.length_nil,List.append_assoc,List.cons_append,List.nil_append] at ih;rw[L6,List.set_append_right _ _ lz,Nat.sub_self,List.set_cons_zero];exact ih
theorem nP{base g n cap size:Nat}{e:TypeId}:∀(vs:List Value) (o:Nat) {w:World} {xs:List Value},w.ownsRow base e size (.slice (some ⟨g,0,none⟩) n cap) n xs->(w.setCells g o vs).ownsRow base e size (.slice (some ⟨g,0,none⟩) n cap) n (L6 xs o vs)
 |[],_,_,_,h=>h
 |v::r,o,_,_,h=>nP r (o+1) (h.stored o v).1
theorem kN(g:Nat):∀(vs:List Value) (o:Nat) (w:World),w.grownBy (w.setCells g o vs) (some g)
 |[],_,w=>⟨rfl,rfl,rfl,Nat.le_refl _,fun _ _ _=>rfl⟩
 |v::r,o,w=>World.grownBy.trans (b:=w.setCell ⟨g,o,none⟩ v) ⟨rfl,rfl,rfl,by simp[World.setCell],fun k _ hk=>heap_setCell_other w ⟨g,o,none⟩ k v (fun e=>hk (by simp[e]))⟩ (kN g r (o+1) _)
section
variable {P:Program}
end
theorem rf:∀u∈ak,u.oneCell'=true:=by
 intro u hu;simp[ak] at hu
 rcases hu with rfl|rfl|rfl|rfl|rfl|rfl|rfl<;>rfl
theorem FL{n:Nat}(w:World)(hw:w.heap.size=n)(j:Nat)(u:Value)(hu:ak[j]?=some u):(w.alloc (.cells ak.toArray 54)).cell? ⟨n,j,none⟩=some u:=by
 subst hw;rw[World.cell?_alloc_new]
 simpa using hu
theorem BM(w:World)(o1 o2:Obj):((w.alloc o1).alloc o2).heap.size=w.heap.size+2:=by
 rw[World.size_alloc,World.size_alloc]
theorem Oj{w:World}{base k n ob oc:Nat}{v:Value}{ts os:List Value}(o:Obj)(hb:base<=w.heap.size)(h1:w.ownsRow base 54 7 v k ts)(h2:w.ownsRow base 54 7 (.slice (some ⟨ob,0,none⟩) n oc) n os) :
  (((w.alloc o).alloc (.cells ak.toArray 54)).drew.drew.ownsRow base 54 7 v k ts)/\(((w.alloc o).alloc (.cells ak.toArray 54)).drew.drew.ownsRow base 54 7 (.slice (some ⟨ob,0,none⟩) n oc) n os)/\
  (∀(j:Nat) (u:Value),ak[j]?=some u->((w.alloc o).alloc (.cells ak.toArray 54)).drew.drew.cell? ⟨w.heap.size+1,j,none⟩=some u)/\base<=((w.alloc o).alloc (.cells ak.toArray 54)).drew.drew.heap.size/\((w.alloc o).alloc (.cells ak.toArray 54)).drew.drew.heap.size=w.heap.size+2/\Below w.heap.size w ((w.alloc o).alloc (.cells ak.toArray 54)).drew.drew:=
 ⟨show ((w.alloc o).alloc (.cells ak.toArray 54)).ownsRow _ _ _ _ _ _ from (h1.alloc _).alloc _,show ((w.alloc o).alloc (.cells ak.toArray 54)).ownsRow _ _ _ _ _ _ from (h2.alloc _).alloc _,
  fun j u hu=>FL (w.alloc o) (World.size_alloc w _) j u hu,Nat.le_trans hb (Nat.le_trans (Nat.le_add_right _ 2) (Nat.le_of_eq (BM w o (.cells ak.toArray 54)).symm)),BM w o _,((((Below.refl _ w).alloc lz _).alloc (by simp) _).drew).drew⟩
theorem gJ{w:World}{base k g cap:Nat}{ts:List Value}(h:w.ownsRow base 54 7 (.slice (some ⟨g,0,none⟩) (k+1) cap) (k+1) (ts++ak))(hl:ts.length=k*7)(j:Nat)(u:Value)(hu:ak[j]?=some u):w.cell? ⟨g,k*7+j,none⟩=some u:=by
 have hj:j<7:=(List.getElem?_eq_some_iff.1 hu).1;rw[h.cellAt _ (by omega),List.getElem?_append_right (by omega),show k*7+j-ts.length=j by omega];exact hu
theorem AZ{w:World}{base k g cap:Nat}{ts:List Value}(h:w.ownsRow base 54 7 (.slice (some ⟨g,0,none⟩) (k+1) cap) (k+1) (ts++ak))(hl:ts.length=k*7):w.cell? ⟨g,k*7,none⟩=some (.bool false):=gJ h hl 0 _ rfl
theorem M5{v:Value}{g ob H n:Nat}(h:v.ownBlock=some g\/g=H)(hH:H=n+2)(hne:v.ownBlock≠some ob)(hl:ob<n):¬g=ob/\(v.ownBlock=some g\/g=n+2):=
 ⟨fun e=>h.elim (fun q=>hne (by rw[q,e])) (fun q=>by omega),h.imp id (fun q=>q.trans hH)⟩
def LM(base ob oc M k:Nat)(os ts xs:List Value)(tv:Value)(w:World)(r:Ending)(w':World):Prop:=
 r=.returned (.tuple #[])/\∃g2 cap2,w'.ownsRow base 54 7 (.slice (some ⟨g2,0,none⟩) (k+1) cap2) (k+1) (ts++xs)/\
  w'.ownsRow base 54 7 (.slice (some ⟨ob,0,none⟩) (M+1) oc) (M+1) (os.set (M*7+6) (.slice (some ⟨g2,0,none⟩) (k+1) cap2))/\
  (tv.ownBlock=some g2\/w.heap.size<=g2)/\Below 0 w w'/\(∀b,b<w.heap.size->b≠ob->tv.ownBlock≠some b->w'.heap[b]?=w.heap[b]?)
section
variable {base ob oc M N k g3 cap3:Nat} {os ts xs:List Value} {tv:Value} {w W w3:World}
theorem DU{b:Nat}(hat:tv.ownBlock=some g3\/g3=w.heap.size+2)(h1:b<w.heap.size)(h2:tv.ownBlock≠some b):b≠g3:=fun e=>hat.elim (fun q=>h2 (by rw[q,e])) (fun q=>by omega)
theorem LF(hx:xs.length=7)(HN:N=M+1)(hL:ts.length=k*7)(hne:¬g3=ob)(hW:Below w.heap.size w W)(h1:w3.ownsRow base 54 7 (.slice (some ⟨g3,0,none⟩) (k+1) cap3) (k+1) (ts++ak))(h2:W.grownBy w3 tv.ownBlock)(hat:tv.ownBlock=some g3\/g3=w.heap.size+2)
  (h3:w3.ownsRow base 54 7 (.slice (some ⟨ob,0,none⟩) N oc) N os):LM base ob oc M k os ts xs tv w (.returned (.tuple #[])) ((w3.setCells g3 (k*7) xs).setCell ⟨ob,M*7+6,none⟩ (.slice (some ⟨g3,0,none⟩) (k+1) cap3)):=by
 subst HN;have a1:=nP xs (k*7) h1;rw[<-hL,pg xs ak ts (by rw[hx];rfl),hL] at a1;have a2:=kN g3 xs (k*7) w3;have a3:=h3.kept a2 (.inr (fun e=>hne (by simpa [Value.ownBlock] using e.symm)));obtain⟨a4,a5⟩:=a3.stored (M*7+6) (.slice (some ⟨g3,0,none⟩) (k+1) cap3);refine⟨rfl,g3,cap3,a1.kept a5 (.inr (fun e=>hne (by simpa [Value.ownBlock] using e))),a4,hat.imp id (fun q=>by omega),?_,fun b hb1 hb2 hb3=>?_⟩
 ·exact ((((hW.mono (Nat.zero_le _)).grown h2 (Nat.zero_le _) (fun _ _=>Nat.zero_le _)).grown a2 (Nat.zero_le _) (fun _ _=>Nat.zero_le _)).grown a5 (Nat.zero_le _) (fun _ _=>Nat.zero_le _))
 ·have z1:=hW.size
  have z2:=h2.size;have z3:=a2.size;rw[a5.block b (by omega) (fun e=>hb2 (Option.some.inj e)),a2.block b (by omega) (fun e=>DU hat hb1 hb3 (Option.some.inj e)),h2.block b (by omega) (fun e=>hb3 e.symm)];exact hW.block b hb1
theorem LD(hx:xs.length=7)(HN:N=M+1)(hL:ts.length=k*7)(hne:¬g3=ob)(hW:Below w.heap.size w W)(h1:w3.ownsRow base 54 7 (.slice (some ⟨g3,0,none⟩) (k+1) cap3) (k+1) (ts++ak))(h2:W.grownBy w3 tv.ownBlock)(hat:tv.ownBlock=some g3\/g3=w.heap.size+2)
  (h3:w3.ownsRow base 54 7 (.slice (some ⟨ob,0,none⟩) N oc) N os):LM base ob oc M k os ts xs tv w (.returned (.tuple #[])) ((w3.setCell ⟨ob,M*7+6,none⟩ (.slice (some ⟨g3,0,none⟩) (k+1) cap3)).setCells g3 (k*7) xs):=by
 subst HN;obtain⟨a4,a5⟩:=h3.stored (M*7+6) (.slice (some ⟨g3,0,none⟩) (k+1) cap3);have a1:=nP xs (k*7) (h1.kept a5 (.inr (fun e=>hne (by simpa [Value.ownBlock] using e))));rw[<-hL,pg xs ak ts (by rw[hx];rfl),hL] at a1;have a2:=kN g3 xs (k*7) (w3.setCell ⟨ob,M*7+6,none⟩ (.slice (some ⟨g3,0,none⟩) (k+1) cap3));refine⟨rfl,g3,cap3,a1,a4.kept a2 (.inr (fun e=>hne (by simpa [Value.ownBlock] using e.symm))),hat.imp id (fun q=>by omega),?_,fun b hb1 hb2 hb3=>?_⟩
 ·exact ((((hW.mono (Nat.zero_le _)).grown h2 (Nat.zero_le _) (fun _ _=>Nat.zero_le _)).grown a5 (Nat.zero_le _) (fun _ _=>Nat.zero_le _)).grown a2 (Nat.zero_le _) (fun _ _=>Nat.zero_le _))
 ·have z1:=hW.size
  have z2:=h2.size;have z3:=a5.size;rw[a2.block b (by omega) (fun e=>DU hat hb1 hb3 (Option.some.inj e)),a5.block b (by omega) (fun e=>hb2 (Option.some.inj e)),h2.block b (by omega) (fun e=>hb3 e.symm)];exact hW.block b hb1
theorem Oi{a0 a1 a2 a3 a4 a5 a6:Value}(HN:N=M+1)(hL:ts.length=k*7)(hne:¬g3=ob)(h1:w3.ownsRow base 54 7 (.slice (some ⟨g3,0,none⟩) (k+1) cap3) (k+1) (ts++ak))(h2:W.grownBy w3 tv.ownBlock)(hat:tv.ownBlock=some g3\/g3=w.heap.size+2)
  (h3:w3.ownsRow base 54 7 (.slice (some ⟨ob,0,none⟩) N oc) N os) (hW:Below w.heap.size w W):LM base ob oc M k os ts [a0,a1,a2,a3,a4,a5,a6] tv w (.returned (.tuple #[])) ((((((((w3.setCell ⟨g3,k*7,none⟩ a0).setCell ⟨g3,k*7+1,none⟩ a1).setCell ⟨g3,k*7+2,none⟩ a2).setCell ⟨g3,k*7+3,none⟩ a3).setCell ⟨g3,k*7+4,none⟩ a4).setCell ⟨g3,k*7+5,none⟩ a5).setCell ⟨g3,k*7+6,none⟩ a6).setCell ⟨ob,M*7+6,none⟩ (.slice (some ⟨g3,0,none⟩) (k+1) cap3)):=
 LF (xs:=[a0,a1,a2,a3,a4,a5,a6]) rfl HN hL hne hW h1 h2 hat h3
theorem Oh{a0 a1 a2 a3 a4 a5 a6:Value}(HN:N=M+1)(hL:ts.length=k*7)(hne:¬g3=ob)(h1:w3.ownsRow base 54 7 (.slice (some ⟨g3,0,none⟩) (k+1) cap3) (k+1) (ts++ak))(h2:W.grownBy w3 tv.ownBlock)(hat:tv.ownBlock=some g3\/g3=w.heap.size+2)
  (h3:w3.ownsRow base 54 7 (.slice (some ⟨ob,0,none⟩) N oc) N os) (hW:Below w.heap.size w W):LM base ob oc M k os ts [a0,a1,a2,a3,a4,a5,a6] tv w (.returned (.tuple #[])) ((((((((w3.setCell ⟨ob,M*7+6,none⟩ (.slice (some ⟨g3,0,none⟩) (k+1) cap3)).setCell ⟨g3,k*7,none⟩ a0).setCell ⟨g3,k*7+1,none⟩ a1).setCell ⟨g3,k*7+2,none⟩ a2).setCell ⟨g3,k*7+3,none⟩ a3).setCell ⟨g3,k*7+4,none⟩ a4).setCell ⟨g3,k*7+5,none⟩ a5).setCell ⟨g3,k*7+6,none⟩ a6):=
 LD (xs:=[a0,a1,a2,a3,a4,a5,a6]) rfl HN hL hne hW h1 h2 hat h3
end
theorem M6(g ob oc M k base:Nat)(a e:Int)(os ts:List Value)(tv:Value)(xb:Bool)(xn xo xs:ByteArray)(va:Option Addr)(vn vc:Nat)(la:Option Addr)(ln lc:Nat)(ia:Option Addr)(ik ic:Nat)(w:World)
  (h:iR w g (.slice (some ⟨ob,0,none⟩) (M+1) oc) a e) (ho:w.ownsRow base 54 7 (.slice (some ⟨ob,0,none⟩) (M+1) oc) (M+1) os) (ht:os[M*7+6]?=some tv) (hts:w.ownsRow base 54 7 tv k ts)
  (hne:tv.ownBlock≠some ob) (hgo:g≠ob) (hgt:tv.ownBlock≠some g) (hM:M<=1000000) (hk:k<=1000000) (hb:base<=w.heap.size) :
  Calls Tryz.prog 90 #[.pointer (some ⟨g,0,none⟩),.agg #[.bool xb,.string xn,.string xo,.string xs,.slice va vn vc,.slice la ln lc,.slice ia ik ic]] w (LM base ob oc M k os ts [.bool xb,.string xn,.string xo,.string xs,.slice va vn vc,.slice la ln lc,.slice ia ik ic] tv w):=by
 obtain⟨ta,tc,rfl⟩:∃ta tc,tv=.slice ta k tc:=by
  rcases hts.2 with ⟨h1,h2⟩|⟨g',cap',cur,h1,-⟩
  ·exact⟨none,0,by rw[h1,h2]⟩
  ·exact⟨_,_,h1⟩
 obtain⟨i0,Ag,Ad⟩:=Option.map_eq_some_iff.1 Tryz.infoItm;simp only[Prod.mk.injEq] at Ad;obtain⟨Ai,Aj,Ak⟩:=Ad;have Ap:=h.lt;have Ah:=(World.ownsRow.lt ho ob rfl).2;obtain⟨N,hN⟩:=exq (M+1);have Ae:N<=M+1/\M+1<=N:=by omega
 rw[<-hN] at h ho;have HN:=Hh hN;clear hN;have Am:(N:Int)-1=(M:Int):=by omega
 have Al:M<N:=by omega
 have An:w.cell? ⟨ob,M*7+6,none⟩=some (.slice ta k tc):=by rw[ho.cellAt _ (by omega)];exact ht
 have Ao:w.frozen? ⟨ob,M*7+6,none⟩=false:=ho.frozenAt _;have HH:=Jh h (And.intro ho hts);have Ar:=h.cell 0 _ rfl;clear h ho hts;go_enter Tryz.func90,Tryz.ntmps90;go_wp2_with fail;have HL:=Hh HH.out.2.2.1;have HQ:=Hh (Oj (.cells #[.bool xb,.string xn,.string xo,.string xs,.slice va vn vc,.slice la ln lc,.slice ia ik ic] 54) hb HH.out.2.2 HH.out.2.1);have Aq:(k:Int)<(k:Int)+1:=by omega
 go_region
 all_goals
  go_wp2_with fail
 go_region_law (first
  |(refine step_append_lies _ rfl _ _ 42 rfl base 54 i0 _ 7 128 Tryz.underlying42 Ag Ai Aj Ak rfl (by decide) (.slice ta k tc) k ts (by rfl) (by exact HQ.out.1) ⟨w.heap.size+1,0,none⟩ 1 1 ak (by rfl) rfl (by intro j u hu;rw[Addr.add_lit,Nat.zero_add];exact HQ.out.2.2.1 j u hu) rf (by omega) (by unfold maxLen;omega) (by omega) (by exact HQ.out.2.2.2.1) _ rfl ?_;intro g3 cap3 w3 hown3 hgrow3 hat3 hlt3;have Ab:=HQ.out.2.1.kept hgrow3 (.inr (fun e=>hne e.symm));have Az:=(Ab.cellAt (M*7+6) (by omega)).trans ht;have A0:=Ab.frozenAt (M*7+6);have m0:=AZ hown3 HL.out;have As:=hown3.frozenAt (k*7);have m1:=gJ hown3 HL.out 1 _ rfl;have At:=hown3.frozenAt (k*7+1);have m2:=gJ hown3 HL.out 2 _ rfl;have Au:=hown3.frozenAt (k*7+2);have m3:=gJ hown3 HL.out 3 _ rfl;have Av:=hown3.frozenAt (k*7+3);have m4:=gJ hown3 HL.out 4 _ rfl;have Aw:=hown3.frozenAt (k*7+4);have m5:=gJ hown3 HL.out 5 _ rfl;have Ax:=hown3.frozenAt (k*7+5);have m6:=gJ hown3 HL.out 6 _ rfl;have Ay:=hown3.frozenAt (k*7+6);have Aa:=M5 hat3 HQ.out.2.2.2.2.1 hne Ah;have Ac:=Aa.1;have Af:¬ob=g3:=fun e=>Ac e.symm;have HG:=Jh hown3 (And.intro hgrow3 (And.intro Aa.2 Ab));clear hown3 hgrow3 hat3 Ab Aa))
 all_goals
  refine bodyPost_end (v:=.tuple #[]) (by simp[results,Tryz.results90,go_sem]) rfl ?_
 all_goals
  obtain⟨q1,q2,q3,q4⟩:=HG.out
  first
   |(with_reducible refine Oi HN.out HL.out Ac q1 q2 q3 q4 ?_)
   |(with_reducible refine Oh HN.out HL.out Ac q1 q2 q3 q4 ?_)
  exact HQ.out.2.2.2.2.2
theorem j4.fresh{P:Nat->Prop}{B:Nat}{w:World}{x:bP}{cs:List Value}(h:aN P w x cs)(h6:cs[6]?=some (.slice none 0 0)):j4 P B w ⟨x,cs,.slice none 0 0⟩:=by
 obtain⟨b,n,e,ls,Ab⟩:=x;unfold aN at h;obtain⟨vo,vt,vk,lv,a,Aa,rfl,h1,h2,-⟩:=h.open;simp only[List.getElem?_cons_succ,List.getElem?_cons_zero,Option.some.injEq,Value.slice.injEq] at h6;obtain⟨rfl,hl,rfl⟩:=h6;obtain rfl:=List.eq_nil_of_length_eq_zero hl;exact⟨b,n,e,ls,vo,vt,vk,lv,[],rfl,rfl,h1,h2,World.ownsRow_nil _ _ _ _,fun s hs=>by cases hs⟩
theorem j4.itm{P Q:Nat->Prop}{B:Nat}{w:World}{c:lH}(h:j4 P B w c)(hq:∀k,P k->k<w.heap.size->Q k)(hi:∀k,c.iv.ownBlock=some k->Q k):aN Q w c.x c.cs:=by
 obtain⟨b,n,e,ls,vo,vt,vk,lv,L,h1,h2,h3,h4,h5,h6⟩:=h;rw[h1,h2];have hm:∀s∈L,aN Q w s.1 s.2:=fun s hs=>aN.move lz (fun _ _ _=>rfl) hq _ _ (h6 s hs)
 have h7:∀cs∈L.map (·.2),cs.length=7:=fun cs hcs=>by
  obtain⟨s,hs,rfl⟩:=List.mem_map.1 hcs;exact mI.len7 (hm s hs)
 have Ab:Jn B w c.iv (L.map (·.2)):=⟨by rw[List.length_map,<-List.flatMap_def];exact h5,h7⟩;have e3:=ae.move lz (fun _ _ _=>rfl) hq e _ h3;have e4:=h4.move (Q:=Q) lz (fun _ _ _=>rfl) hq
 have Aa:∃a cap,c.iv=.slice a L.length cap/\L.length<=cap/\cap<=maxLen/\(a=none->cap=0)/\∀x,a=some x->x.spot=none/\c.iv.ownBlock=some x.block:=by
  rcases h5.2 with ⟨q1,q2⟩|⟨g,cap,cur,q1,-,-,q2,q3,-⟩
  ·exact⟨none,0,by rw[q1,q2],by rw[q2];exact Nat.le_refl _,Nat.zero_le _,fun _=>rfl,fun x hx=>by cases hx⟩
  ·exact⟨_,cap,q1,q2,q3,(fun h=>by cases h),fun x hx=>by cases hx;exact⟨rfl,by rw[q1];rfl⟩⟩
 obtain⟨a,cap,q1,q2,q3,q4,q5⟩:=Aa;unfold aN;simp only[mI];refine⟨vo,vt,vk,lv,a,cap,by rw[q1,List.length_map],e3,e4,by rw[List.length_map];exact q2,q3,q4,fun x hx hne=>?_⟩;obtain⟨r1,r2⟩:=q5 x hx;refine⟨r1,⟨(World.ownsRow.lt h5 _ r2).2,hi _ r2⟩,jH.make _ _ (fun k hk=>?_)⟩;rw[List.length_map] at hk;rw[q1] at Ab;obtain⟨g,he,-,-,hc,-⟩:=Ab.cellAt (k:=k) (by simpa using hk);rw[hx] at he;cases he
 refine⟨L[k].2,fun j u hu=>?_,?_⟩
 ·rw[Nat.zero_add]
  exact hc j u (by simpa using hu)
 ·rw[List.getElem_map]
  exact hm _ (List.getElem_mem hk)
theorem ny.push{B g g2 cap2:Nat}{rb:Option Nat}{w w':World}{v:Value}{C:List lH}{c:lH}(h:ny B g rb w v C)(hx:j4 (zu B g rb v C) B w c)(hn:c.iv.ownBlock=none)
  (h1:w'.ownsRow B 54 7 (.slice (some ⟨g2,0,none⟩) (C.length+1) cap2) (C.length+1) (C.flatMap (·.cs)++c.cs)) (h3:v.ownBlock=some g2\/w.heap.size<=g2) (hs:w.heap.size<=w'.heap.size)
  (hf:∀b,b<w.heap.size->v.ownBlock≠some b->b≠g->w'.heap[b]?=w.heap[b]?):ny B g rb w' (.slice (some ⟨g2,0,none⟩) (C.length+1) cap2) (C++[c]):=by
 have hP:∀b,zu B g rb v C b->b<w.heap.size->zu B g rb (.slice (some ⟨g2,0,none⟩) (C.length+1) cap2) (C++[c]) b:=fun b hb hl=>by
  refine⟨hb.1,hb.2.1,hb.2.2.1,fun e=>?_,fun d hd=>?_⟩
  ·simp only[Value.ownBlock,Option.some.injEq] at e
   subst e;exact h3.elim hb.2.2.2.1 (fun q=>by omega)
  ·rcases List.mem_append.1 hd with hd|hd
   ·exact hb.2.2.2.2 d hd
   ·simp at hd;subst hd;rw[hn];simp
 have hC:∀b,zu B g rb v C b->b<w.heap.size->w'.heap[b]?=w.heap[b]?:=fun b hb hl=>hf b hl hb.2.2.2.1 hb.2.1
 have Aa:∀d∈C,∀b,d.iv.ownBlock=some b->b≠g2:=fun d hd b e q=>by
  subst q;exact h3.elim (h.apart.one d hd b e).1 (fun q=>by have:=(h.lt (.inr ⟨d,hd,e⟩)).2;omega)
 refine⟨Nat.lt_of_lt_of_le h.gl hs,fun b e=>Nat.lt_of_lt_of_le (h.rl b e) hs,by simpa using h1,⟨fun e=>?_,fun b e e2=>?_,h.apart.rg,fun d hd b e=>?_,?_⟩,fun d hd=>?_⟩
 ·simp only[Value.ownBlock,Option.some.injEq] at e
  subst e;exact h3.elim h.apart.vg (fun q=>by have:=h.gl;omega)
 ·simp only[Value.ownBlock,Option.some.injEq] at e
  subst e;exact h3.elim (fun q=>h.apart.vr _ q e2) (fun q=>by have:=h.rl _ e2;omega)
 ·rcases List.mem_append.1 hd with hd|hd
  ·exact⟨fun q=>by simp only[Value.ownBlock,Option.some.injEq] at q;exact Aa d hd b e q.symm,(h.apart.one d hd b e).2⟩
  ·simp at hd;subst hd;rw[hn] at e;cases e
 ·rw[List.pairwise_append]
  refine⟨h.apart.two,by simp,fun d _ d2 hd2 b _=>?_⟩;simp at hd2;subst hd2;rw[hn];simp
 ·rcases List.mem_append.1 hd with hd|hd
  ·exact (h.all d hd).move hs hC hP (fun b e=>hf b (h.lt (.inr ⟨d,hd,e⟩)).2 (h.apart.one d hd b e).1 (h.apart.one d hd b e).2.1)
  ·simp at hd;subst hd
   exact hx.move hs hC hP (fun b e=>by rw[hn] at e;cases e)
theorem ny.pop{B g ob cap:Nat}{rb:Option Nat}{w w':World}{C:List lH}{c:lH}(h:ny B g rb w (.slice (some ⟨ob,0,none⟩) (C.length+1) cap) (C++[c]))(hC0:0<C.length)(hs:w.heap.size<=w'.heap.size)(hf:∀b,b<w.heap.size->b≠g->w'.heap[b]?=w.heap[b]?) :
  ny B g rb w' (.slice (some ⟨ob,0,none⟩) C.length cap) C/\aN (zu B g rb (.slice (some ⟨ob,0,none⟩) C.length cap) C) w' c.x c.cs:=by
 have h7:∀d∈C,d.cs.length=7:=fun d hd=>(h.all d (by simp[hd])).len
 have hP:∀b,zu B g rb (.slice (some ⟨ob,0,none⟩) (C.length+1) cap) (C++[c]) b->b<w.heap.size->zu B g rb (.slice (some ⟨ob,0,none⟩) C.length cap) C b:=fun b hb hl=>
  ⟨hb.1,hb.2.1,hb.2.2.1,hb.2.2.2.1,fun d hd=>hb.2.2.2.2 d (by simp[hd])⟩
 have hK:∀b,zu B g rb (.slice (some ⟨ob,0,none⟩) (C.length+1) cap) (C++[c]) b->b<w.heap.size->w'.heap[b]?=w.heap[b]?:=fun b hb hl=>hf b hl hb.2.1
 have Aa:w.ownsRow B 54 7 (.slice (some ⟨ob,0,none⟩) C.length cap) C.length (C.flatMap (·.cs)):=by
  have hr:=h.row;rw[show (C++[c]).length=C.length+1 by simp] at hr;obtain⟨r1,r2⟩:=hr;refine⟨kP C h7,?_⟩;rcases r2 with ⟨q,-⟩|⟨g',cap',cur,q,q1,q2,q3,q4,q5,q6⟩
  ·cases q
  ·cases q
   refine .inr ⟨_,_,cur,rfl,q1,q2,by omega,q4,q5,?_⟩;have:=congrArg (List.take (C.length*7)) q6;rw[List.take_take,List.flatMap_append,List.take_append_of_le_length (by rw[kP C h7];exact Nat.le_refl _),List.take_of_length_le (l:=C.flatMap _) (by rw[kP C h7];exact Nat.le_refl _)] at this;rw[<-this]
   congr 1
   omega
 have hw:=h.apart.two;rw[List.pairwise_append] at hw;refine⟨⟨Nat.lt_of_lt_of_le h.gl hs,fun b e=>Nat.lt_of_lt_of_le (h.rl b e) hs,bJ Aa (fun k e=>hf k (h.lt (.inl e)).2 (fun q=>h.apart.vg (by subst q;exact e))),⟨h.apart.vg,h.apart.vr,h.apart.rg,fun d hd b e=>h.apart.one d (by simp[hd]) b e,hw.1⟩,fun d hd=>?_⟩,?_⟩
 ·exact (h.all d (by simp[hd])).move hs hK hP (fun b e=>hf b (h.lt (.inr ⟨d,by simp[hd],e⟩)).2 (h.apart.one d (by simp[hd]) b e).2.1)
 ·have h9:j4 (zu B g rb (.slice (some ⟨ob,0,none⟩) C.length cap) C) B w' c:=(h.all c (by simp)).move hs hK hP (fun b e=>hf b (h.lt (.inr ⟨c,by simp,e⟩)).2 (h.apart.one c (by simp) b e).2.1)
  refine h9.itm (fun _ q _=>q) (fun b e=>?_);have a1:=h.apart.one c (by simp) b e;exact⟨(h.lt (.inr ⟨c,by simp,e⟩)).1,a1.2.1,a1.2.2,a1.1,fun d hd e2=>hw.2.2 d hd c (by simp) b e2 e⟩
def kW(B:Nat)(rb:Option Nat)(w w':World):Prop:=Below B w w'/\∀b,rb=some b->w'.heap[b]?=w.heap[b]?
theorem kW.trans{B:Nat}{rb:Option Nat}{a b c:World}(h:kW B rb a b)(hs:B<=a.heap.size)(k:kW B rb b c):kW B rb a c:=⟨h.1.trans k.1,fun x e=>(k.2 x e).trans (h.2 x e)⟩
theorem DV{B g:Nat}{rb:Option Nat}{w:World}{v:Value}{C:List lH}{c:lH}{x:bP}{xs:List Value}(a e:Int)(h:ny B g rb w v (C++[c]))(hp:iR w g v a e)(hx:aN (zu B g rb v (C++[c])) w x xs)(hn:C.length<=1000000)(hk:c.x.items.length<=1000000)(hB:B<=w.heap.size) :
  Calls Tryz.prog 90 #[.pointer (some ⟨g,0,none⟩),.agg xs.toArray] w fun r w'=>r=.returned (.tuple #[])/\∃c',c'.x=c.x.add x/\ny B g rb w' v (C++[c'])/\iR w' g v a e/\kW B rb w w':=by
 have h7:∀d∈C,d.cs.length=7:=fun d hd=>(h.all d (by simp[hd])).len;have hc:=h.all c (by simp);obtain⟨bb,n,ex,ls,vo,vt,vk,lv,L,q1,q2,q3,q4,q5,q6⟩:=hc;have Ad:L.length<=1000000:=by rw[q1] at hk;simpa [bP.items] using hk
 have Ab:=h.row;rw[show (C++[c]).length=C.length+1 by simp] at Ab
 obtain⟨ob,oc,Aa,rfl,-⟩:∃ob oc,∃Aa:Array Value,v=.slice (some ⟨ob,0,none⟩) (C.length+1) oc/\True:=by
  rcases Ab.2 with ⟨-,q⟩|⟨g',cap',Aa,q,-⟩
  ·omega
  ·exact⟨g',cap',Aa,q,trivial⟩
 obtain⟨xn,xo,xt,va,vn,vc,la,ln,lc,ia,ik,ic,rfl⟩:=aN.shape7 hx;have hA:=h.apart.one c (by simp);have Ac:=(Dp C c h7 6).trans (h.all c (by simp)).cell6;refine (M6 g ob oc C.length L.length B a e ((C++[c]).flatMap (·.cs)) (L.flatMap (·.2)) c.iv x.block xn xo xt va vn vc la ln lc ia ik ic w hp Ab Ac q5 (fun q=>(hA ob q).1 rfl) (fun q=>h.apart.vg (by rw[q];rfl)) (fun q=>(hA g q).2.1 rfl) hn Ad hB).mono ?_;rintro r w' ⟨rfl,g2,cap2,r1,r2,r3,r4,r5⟩;have hf:∀b,b<w.heap.size->(Value.slice (some ⟨ob,0,none⟩) (C.length+1) oc).ownBlock≠some b->c.iv.ownBlock≠some b->w'.heap[b]?=w.heap[b]?:=fun b hb h1 h2=>r5 b hb (fun q=>h1 (by rw[q];rfl)) h2;refine⟨rfl,_,rfl,ny.add h hx q5 r1 r2 r3 r4.size hf,?_,?_,fun b eb=>?_⟩
 ·exact (hf g h.gl h.apart.vg (fun q=>(hA g q).2.1 rfl)).trans hp
 ·exact⟨r4.os,r4.tape,r4.output,r4.size,fun k hk=>hf k (by omega) (fun q=>by have:=(h.lt (.inl q)).1;omega) (fun q=>by have:=(h.lt (.inr ⟨c,by simp,q⟩)).1;omega)⟩
 ·exact hf b (h.rl b eb) (fun q=>h.apart.vr b q eb) (fun q=>(hA b q).2.2 eb)
def yL(B g n g3 cap3:Nat)(a e:Int)(os xs:List Value)(v:Value)(W W':World):Prop:=
 W'.ownsRow B 54 7 (.slice (some ⟨g3,0,none⟩) (n+1) cap3) (n+1) (os++xs)/\iR W' g (.slice (some ⟨g3,0,none⟩) (n+1) cap3) a e/\(v.ownBlock=some g3\/g3=W.heap.size)/\Below 0 W W'/\∀b,b<W.heap.size->v.ownBlock≠some b->b≠g->W'.heap[b]?=W.heap[b]?
section
variable {B g n g3 cap3:Nat} {a e:Int} {os xs:List Value} {v:Value} {W w3:World}
theorem Ip(hx:xs.length=7)(hL:os.length=n*7)(hne:¬g3=g)(h1:w3.ownsRow B 54 7 (.slice (some ⟨g3,0,none⟩) (n+1) cap3) (n+1) (os++ak))(h2:W.grownBy w3 v.ownBlock)(hat:v.ownBlock=some g3\/g3=W.heap.size)
  (h3:aa w3 g #[v,.int .i64 a,.int .i64 e] 83):yL B g n g3 cap3 a e os xs v W ((w3.setCells g3 (n*7) xs).setCell ⟨g,0,none⟩ (.slice (some ⟨g3,0,none⟩) (n+1) cap3)):=by
 have a1:=nP xs (n*7) h1;rw[<-hL,pg xs ak os (by rw[hx];rfl),hL] at a1;have a2:=kN g3 xs (n*7) w3;have a3:=(h3.kept a2 (fun q=>hne (Option.some.inj q).symm)).setI 0 (.slice (some ⟨g3,0,none⟩) (n+1) cap3);have a5:(w3.setCells g3 (n*7) xs).grownBy ((w3.setCells g3 (n*7) xs).setCell ⟨g,0,none⟩ (.slice (some ⟨g3,0,none⟩) (n+1) cap3)) (some g):=⟨rfl,rfl,rfl,by simp[World.setCell],fun k _ hk=>heap_setCell_other _ ⟨g,0,none⟩ k _ (fun q=>hk (by simp[q]))⟩;refine⟨a1.kept a5 (.inr (fun q=>hne (by simpa [Value.ownBlock] using q))),a3,hat,(((Below.refl 0 W).grown h2 (Nat.zero_le _) (fun _ _=>Nat.zero_le _)).grown a2 (Nat.zero_le _) (fun _ _=>Nat.zero_le _)).grown a5 (Nat.zero_le _) (fun _ _=>Nat.zero_le _),fun b hb h4 h5=>?_⟩;have z2:=h2.size;have z3:=a2.size;rw[a5.block b (by omega) (fun q=>h5 (Option.some.inj q)),a2.block b (by omega) (fun q=>hat.elim (fun r=>h4 (r.trans q.symm)) (fun r=>by have:=Option.some.inj q;omega)),h2.block b hb (fun q=>h4 q.symm)]
theorem Io(hx:xs.length=7)(hL:os.length=n*7)(hne:¬g3=g)(h1:w3.ownsRow B 54 7 (.slice (some ⟨g3,0,none⟩) (n+1) cap3) (n+1) (os++ak))(h2:W.grownBy w3 v.ownBlock)(hat:v.ownBlock=some g3\/g3=W.heap.size)
  (h3:aa w3 g #[v,.int .i64 a,.int .i64 e] 83):yL B g n g3 cap3 a e os xs v W ((w3.setCell ⟨g,0,none⟩ (.slice (some ⟨g3,0,none⟩) (n+1) cap3)).setCells g3 (n*7) xs):=by
 have a5:w3.grownBy (w3.setCell ⟨g,0,none⟩ (.slice (some ⟨g3,0,none⟩) (n+1) cap3)) (some g):=⟨rfl,rfl,rfl,by simp[World.setCell],fun k _ hk=>heap_setCell_other _ ⟨g,0,none⟩ k _ (fun q=>hk (by simp[q]))⟩;have a1:=nP xs (n*7) (h1.kept a5 (.inr (fun q=>hne (by simpa [Value.ownBlock] using q))));rw[<-hL,pg xs ak os (by rw[hx];rfl),hL] at a1;have a2:=kN g3 xs (n*7) (w3.setCell ⟨g,0,none⟩ (.slice (some ⟨g3,0,none⟩) (n+1) cap3));have a3:=(h3.setI 0 (.slice (some ⟨g3,0,none⟩) (n+1) cap3)).kept a2 (fun q=>hne (Option.some.inj q).symm);refine⟨a1,a3,hat,(((Below.refl 0 W).grown h2 (Nat.zero_le _) (fun _ _=>Nat.zero_le _)).grown a5 (Nat.zero_le _) (fun _ _=>Nat.zero_le _)).grown a2 (Nat.zero_le _) (fun _ _=>Nat.zero_le _),fun b hb h4 h5=>?_⟩;have z2:=h2.size;have z3:=a5.size;rw[a2.block b (by omega) (fun q=>hat.elim (fun r=>h4 (r.trans q.symm)) (fun r=>by have:=Option.some.inj q;omega)),a5.block b (by omega) (fun q=>h5 (Option.some.inj q)),h2.block b hb (fun q=>h4 q.symm)]
theorem F7{a0 a1 a2 a3 a4 a5 a6:Value}(hL:os.length=n*7)(hne:¬g3=g)(h1:w3.ownsRow B 54 7 (.slice (some ⟨g3,0,none⟩) (n+1) cap3) (n+1) (os++ak))(h2:W.grownBy w3 v.ownBlock)(hat:v.ownBlock=some g3\/g3=W.heap.size)
  (h3:aa w3 g #[v,.int .i64 a,.int .i64 e] 83):yL B g n g3 cap3 a e os [a0,a1,a2,a3,a4,a5,a6] v W ((((((((w3.setCell ⟨g3,n*7,none⟩ a0).setCell ⟨g3,n*7+1,none⟩ a1).setCell ⟨g3,n*7+2,none⟩ a2).setCell ⟨g3,n*7+3,none⟩ a3).setCell ⟨g3,n*7+4,none⟩ a4).setCell ⟨g3,n*7+5,none⟩ a5).setCell ⟨g3,n*7+6,none⟩ a6).setCell ⟨g,0,none⟩ (.slice (some ⟨g3,0,none⟩) (n+1) cap3)):=
 Ip (xs:=[a0,a1,a2,a3,a4,a5,a6]) rfl hL hne h1 h2 hat h3
theorem F6{a0 a1 a2 a3 a4 a5 a6:Value}(hL:os.length=n*7)(hne:¬g3=g)(h1:w3.ownsRow B 54 7 (.slice (some ⟨g3,0,none⟩) (n+1) cap3) (n+1) (os++ak))(h2:W.grownBy w3 v.ownBlock)(hat:v.ownBlock=some g3\/g3=W.heap.size)
  (h3:aa w3 g #[v,.int .i64 a,.int .i64 e] 83):yL B g n g3 cap3 a e os [a0,a1,a2,a3,a4,a5,a6] v W ((((((((w3.setCell ⟨g,0,none⟩ (.slice (some ⟨g3,0,none⟩) (n+1) cap3)).setCell ⟨g3,n*7,none⟩ a0).setCell ⟨g3,n*7+1,none⟩ a1).setCell ⟨g3,n*7+2,none⟩ a2).setCell ⟨g3,n*7+3,none⟩ a3).setCell ⟨g3,n*7+4,none⟩ a4).setCell ⟨g3,n*7+5,none⟩ a5).setCell ⟨g3,n*7+6,none⟩ a6):=
 Io (xs:=[a0,a1,a2,a3,a4,a5,a6]) rfl hL hne h1 h2 hat h3
end
theorem F8{w:World}{B n g:Nat}{v:Value}{os:List Value}{a e:Int}(hb:B<=w.heap.size)(h1:w.ownsRow B 54 7 v n os)(h2:iR w g v a e) :
  ((w.alloc (.cells ak.toArray 54)).drew.ownsRow B 54 7 v n os)/\(aa (w.alloc (.cells ak.toArray 54)).drew g #[v,.int .i64 a,.int .i64 e] 83)/\
  (∀(j:Nat) (u:Value),ak[j]?=some u->(w.alloc (.cells ak.toArray 54)).drew.cell? ⟨w.heap.size,j,none⟩=some u)/\B<=(w.alloc (.cells ak.toArray 54)).drew.heap.size/\(w.alloc (.cells ak.toArray 54)).drew.heap.size=w.heap.size+1/\Below w.heap.size w (w.alloc (.cells ak.toArray 54)).drew:=
 have hA:Below w.heap.size w (w.alloc (.cells ak.toArray 54)).drew:=((Below.refl _ w).alloc lz _).drew
 ⟨show (w.alloc (.cells ak.toArray 54)).ownsRow _ _ _ _ _ _ from h1.alloc _,h2.below hA h2.lt,fun j u hu=>FL w rfl j u hu,Nat.le_trans hb hA.size,World.size_alloc w _,hA⟩
theorem Cz{v:Value}{g g3 H n:Nat}(h:v.ownBlock=some g3\/g3=H)(hH:H=n+1)(hne:v.ownBlock≠some g)(hl:g<n):¬g3=g:=fun e=>h.elim (fun q=>hne (by rw[q,e])) (fun q=>by omega)
end Go.Proofs.YtbcdaaobbebooaaGreatDoor
