import Derived.Test.YtbcdaaobbebooaaGreatDoorKgj
import Derived.Deep.MidRow
set_option linter.unusedSimpArgs false
set_option linter.unusedVariables false
set_option maxRecDepth 100000
set_option maxHeartbeats 20000000
namespace Go.Proofs.YtbcdaaobbebooaaGreatDoor
open Go.RowKit Go.Tab
theorem aH.drop{w:World}{a:Option Addr}{n cap:Nat}{l:List ag}(h:aH w (.slice a n cap) l){L:Nat}(h2:L<=l.length) :
  aH w (sliced a L l.length cap 3) (l.drop L)/\(sliced a L l.length cap 3).ownBlock=(Value.slice a n cap).ownBlock:=by
 obtain⟨a',Ab,he,h3,h4,h5,h6⟩:=h;cases he
 have Aa:(l.drop L).length=l.length-L:=List.length_drop;unfold sliced;refine⟨⟨_,_,by rw[Aa],by omega,by omega,fun hn=>?_,fun x hx hne=>?_⟩,?_⟩
 ·cases a with
  |none=>have:=h5 rfl;omega
  |some x=>split at hn<;>simp at hn
 ·cases a with
  |none=>split at hx<;>simp at hx
  |some y=>
   have Ac:l≠[]:=by intro h0;subst h0;simp at hne
   obtain⟨g1,g2,g3⟩:=h6 y rfl Ac;split at hx
   ·cases hx
    refine⟨g1,g2,fun j hj=>?_⟩;rw[List.length_drop] at hj;omega
   ·simp at hx
    obtain⟨b,Ad,sp⟩:=y;simp only at g1;subst g1;rw[Addr.add_lit] at hx;subst hx;refine⟨rfl,g2,fun j hj=>?_⟩;rw[List.length_drop] at hj;have:=g3 (L+j) (by omega);simp only[Nat.add_mul,<-Nat.add_assoc] at this;simp only[List.getElem_drop];exact this
 ·cases a with
  |none=>simp[Value.ownBlock]
  |some y=>split<;>simp[Value.ownBlock,Jt]
section
variable {P:Program} {w:World} {ops:Array Oper} {rest:List Oper} {o:Oper} {a:Act} {Q:Exit->Act->World->Prop}
theorem sG{e:TypeId}{n:Nat}(h:(P.info? e).map (fun i=>i.size)=some n)(w:World):(sizeOf e).run P w=.ok n w:=by
 obtain⟨i,hi,hs⟩:=Option.map_eq_some_iff.1 h;simp[sizeOf,typeInfo,hi,hs]
theorem mU(hgd:Region.wanted o (yielded ops a.tmps)=true)(x lo:Operand)(t:TypeId)(ho:o.op=.slice t x (some lo) none none)
  (ht:P.underlying t=some (.slice (P.elem t))) (hs:(P.info? (P.elem t)).map (fun i=>i.size)=some 3)
  (l:List ag) (hrow:aH w (a.eval x) l) (k:IntKind) (n:Int) (L:Nat) (eL:a.eval lo=.int k n) (hL:n=L) (h2:L<=l.length)
  (hK:∀v',aH w v' (l.drop L)->v'.ownBlock=(a.eval x).ownBlock->wpList P ops Q rest (a.put o.dst v') w):wpList P ops Q (o::rest) a w:=by
 obtain⟨ao,Ab,hv,h3,h4,h5⟩:=hrow.len;rw[hv] at hrow;obtain⟨r1,r2⟩:=hrow.drop h2;refine gV hgd fun K hK'=>?_;subst hL;have Aa:=run_slice_l (P:=P) w t ao l.length Ab ht k (L:Int) (by omega) (by omega);unfold Oper.wp;simp only[execOp,ho,hv,eL,Option.map_some,Option.map_none,Sem.run_bind,run_sliceAt_slice (P:=P) w t _ _ _ _ ht,Aa,sG hs,Result.andThen,Sem.run_pure,Oper.upon_value,Int.toNat_natCast];exact hK' _ _ (hK _ r1 (by rw[hv];exact r2))
end
def kM(g:Nat)(v:Value)(r:oL)(w:World)(e:Ending)(w':World):Prop:=aB g w w'/\iK w' g v (Fq r).1 (Fq r).2/\∃cs,e=.returned (.tuple #[.int .i64 (xG r),.agg cs.toArray])/\aP (fun b=>w.heap.size<=b) w' (zL r) cs/\cs[6]?=some (.slice none 0 0)
abbrev aj:List Value:=[.bool false,.string ⟨#[]⟩,.string ⟨#[]⟩,.string ⟨#[]⟩,.slice none 0 0,.slice none 0 0,.slice none 0 0]
theorem aP.zero(P:Nat->Prop)(w:World):aP P w bW aj:=aP.leaf (af.leaf _ _ _ _) lZ.nil
theorem Ab{P:Nat->Prop}{w:World}{t:dR}{o s:ByteArray}{v:Value}(h:af P w t [.string o,.string s,v]):∃a n c,v=.slice a n c:=by
 obtain⟨o2,s2,a,n,c,he⟩:=h.shape;simp only[List.cons.injEq,and_true] at he;exact⟨a,n,c,he.2.2⟩
theorem Nh{w3:World}{B n q:Nat}{x:dR}{cs vals:List Value}(hq:q<B)(hn:n<=B)(hx:af (fun b=>B<=b) w3 x cs):af (fun b=>n<=b) (ak w3 q 0 vals).drew x cs:=
 af.move (P:=fun b=>B<=b) (Q:=fun b=>n<=b) (w:=w3) (w':=(ak w3 q 0 vals).drew) (Nat.le_of_eq (aA q vals 0 w3).symm) (fun b (hb:B<=b) _=>aL q vals 0 w3 b (by omega)) (fun b (hb:B<=b) _=>Nat.le_trans hn hb) x cs hx
theorem jq(row:List ag)(stop:Int)(last:Bool)(i:Nat):xG (dZ row stop last i)=0/\zL (dZ row stop last i)=bW:=by
 unfold dZ;split
 ·exact⟨rfl,rfl⟩
 ·split<;>exact⟨rfl,rfl⟩
theorem ze(g:Nat)(v:Value)(t t2:ag)(row:List ag)(lv:Value)(stop:Int)(last:Bool)(w:World)(h:iK w g v 0 0)(hr:aH w lv (t::t2::row))(ho:∀b,lv.ownBlock=some b->b<w.heap.size)(hT:jk w)(hn:row.length<=900000)(hsh:∀t∈row,t.text.size<=1048576) :
  Calls Tryz.prog 133 #[.pointer (some ⟨g,0,none⟩),iE lv stop last] w (kM g v (jI (t::t2::row) stop last t.text) w):=by
 obtain⟨ra,rc,rfl,AR,AS,-⟩:=hr.len;obtain⟨N,hN⟩:=exq ((t::t2::row).length);have AN:N=row.length+2:=by rw[hN];simp
 rw[<-hN] at hr AR ho ⊢;unfold maxLen at AS;have AO:N<=row.length+2/\row.length+2<=N:=by omega
 have HN:=Hh hN;clear hN AN;obtain⟨R,hR⟩:=exq (jI (t::t2::row) stop last t.text);have HR:=Hh hR;rw[<-hR];clear hR;have Ax:Below w.heap.size w ((w.alloc (.cells (dK (.slice ra N rc) stop last) 86)).alloc (.cells aj.toArray 54)):=((Below.refl _ w).alloc lz _).alloc (by simp) _;have k0:=(ae.new w (dK (.slice ra N rc) stop last) 86).alloc (.cells aj.toArray 54);have k1:=ae.new (w.alloc (.cells (dK (.slice ra N rc) stop last) 86)) aj.toArray 54;simp only[World.size_alloc] at k1;have Ap:=h.below Ax h.lt;have At:=hr.below Ax lz;have Aq:=hT.below Ax;have Bm:=h.lt;have AK:((w.alloc (.cells (dK (.slice ra N rc) stop last) 86)).alloc (.cells aj.toArray 54)).heap.size=w.heap.size+2:=by simp
 have HB:=Hh Ax;have HK:=Jh k0 (And.intro k1 (And.intro Ap (And.intro At Aq)));clear h hr hT Ax k0 k1 Ap At Aq;go_enter Tryz.func133,Tryz.ntmps133;go_wp2_with (with_reducible first|refine jW ?_)
 refine Stop.out ?_;obtain⟨k0,k1,Ap,At,Aq⟩:=HK.out;generalize (w.alloc (.cells (dK (.slice ra N rc) stop last) 86)).alloc (.cells aj.toArray 54)=w1 at *;refine mU rfl _ _ _ rfl Tryz.underlying22 (by kernel_rfl) (t::t2::row) (by exact At) .i64 2 2 rfl rfl (by simp) ?_;intro v' hv' hvb;simp only[List.drop_succ_cons,List.drop_zero] at hv';obtain⟨va,vc,rfl,-⟩:=hv'.len;have hE:=y7 w1 _ row hv' (fun b hb=>by rw[hvb] at hb;exact Nat.lt_of_lt_of_le (ho b hb) HB.out.size) Aq.utf Aq.utf.pos (by omega) hsh;clear hv' hvb;have HZ:=Hh AK;clear AK;go_wp2_with fail;refine hE.mono ?_;clear hE;rintro _ w2 ⟨hb2,o,tt,a,n,c,rfl,hX⟩;have Ar:=Ba row;have AI:=CZ row;obtain⟨⟨x,k,e⟩,hg⟩:∃q,gp row=q:=⟨_,rfl⟩;have Aa:=HR.out;unfold jI at Aa;simp only[List.drop_succ_cons,List.drop_zero] at Aa;rw[hg] at hX Ar AI Aa ⊢;simp only at hX Ar AI Aa ⊢;rw[<-HN.out] at Aa;clear HR hg;have AE:Below w2.heap.size w2 (w2.alloc (.cells #[.string o,.string tt,.slice a n c] 52)):=(Below.refl _ _).alloc lz _;have As:=hb2.trans (AE.mono hb2.size);have k3:=k0.below As k0.lt;have q3:=k1.below As k1.lt;have p3:=Ap.below As Ap.lt;have r3:=At.below As lz;have e3:=ae.new w2 #[.string o,.string tt,.slice a n c] 52;have AJ:aB g w (w2.alloc (.cells #[.string o,.string tt,.slice a n c] 52)):=(aB.of HB.out).trans (aB.of As)
 have AG:af (fun b=>w.heap.size+2<=b) (w2.alloc (.cells #[.string o,.string tt,.slice a n c] 52)) x [.string o,.string tt,.slice a n c]:=af.below AE _ _ (af.move lz (fun _ _ _=>rfl) (fun b hb _=>by rw[<-HZ.out];exact hb) _ _ hX);have Br:w.heap.size+2<=w2.heap.size:=by rw[<-HZ.out];exact hb2.size
 have Aw:=Jh AG AJ;have AD:=Jh k3 (And.intro q3 (And.intro p3 (And.intro r3 e3)));have AQ:=k3.lt;have AU:=q3.lt;have AP:=e3.lt;clear HK k0 k1 Ap At Aq hb2 As AE hX AG AJ HB
 by_cases hc1:e=2\/(e=0/\2+k<N)
 ·rw[if_pos hc1] at Aa
  have hL:=jo g v (t::t2::row) (.slice ra N rc) stop last (2+k) _ p3 r3 (by simp;omega);rw[show ((2+k:Nat):Int)=2+(k:Int) by omega,<-Aa] at hL;have Av:=Hh Aa;have h0:xG R=0/\zL R=bW:=by rw[Aa];exact jq _ _ _ _
  have H0:=Hh h0;clear Aa h0 r3 p3 Ar;obtain⟨Ah,Ak,Ai,Al,Aj,Am⟩:=k3.n3 rfl;obtain⟨Ab,Ae,Ac,Af,Ad,Ag⟩:=e3.n3 rfl;clear k3 q3 e3;simp only[iE] at hL;rcases hc1 with rfl|⟨rfl,hlt⟩
  ·go_wp2_with fail
   refine hL.mono ?_;clear hL Ah Ai Aj Ak Al Am Ab Ac Ad Ae Af Ag;rintro _ w4 ⟨rfl,hs4,p4⟩;have q4:=hs4.cells AD.out.2.1 (by omega);have AH:=q4.lt;have An:=Jh p4 (Aw.out.2.trans hs4);have Au:=Hh q4;obtain⟨Ay,A5,Az,A6,A0,A7,A1,A8,A2,A9,A3,AA,A4,AB⟩:=q4.n7 rfl;clear q4 p4 hs4;go_wp2_with fail;have Ao:=Au.out.put aj 0;obtain⟨y0,y1,y2,y3,y4,y5,y6⟩:=Ao.m7 rfl;simp only[ak] at y0 y1 y2 y3 y4 y5 y6;refine bodyPost_ret (v:=.tuple #[.int .i64 0,.agg #[.bool false,.string ⟨#[]⟩,.string ⟨#[]⟩,.string ⟨#[]⟩,.slice none 0 0,.slice none 0 0,.slice none 0 0]]) (by simp[results,Tryz.results133,go_sem,y0,y1,y2,y3,y4,y5,y6]) rfl ?_;show kM g v R w _ (ak w4 (w.heap.size+1) 0 aj);exact⟨An.out.2.setAllNew (by omega) _,An.out.1.setAllOther (by omega),aj,by rw[H0.out.1],(by rw[H0.out.2];exact aP.zero _ _),rfl⟩
  ·have hd:decide ((2:Int)+(k:Int)<(N:Int))=true:=by rw[decide_eq_true_iff];omega
   go_wp2_with fail;refine hL.mono ?_;clear hL Ah Ai Aj Ak Al Am Ab Ac Ad Ae Af Ag;rintro _ w4 ⟨rfl,hs4,p4⟩;have q4:=hs4.cells AD.out.2.1 (by omega);have AH:=q4.lt;have An:=Jh p4 (Aw.out.2.trans hs4);have Au:=Hh q4;obtain⟨Ay,A5,Az,A6,A0,A7,A1,A8,A2,A9,A3,AA,A4,AB⟩:=q4.n7 rfl;clear q4 p4 hs4;go_wp2_with fail;have Ao:=Au.out.put aj 0;obtain⟨y0,y1,y2,y3,y4,y5,y6⟩:=Ao.m7 rfl;simp only[ak] at y0 y1 y2 y3 y4 y5 y6;refine bodyPost_ret (v:=.tuple #[.int .i64 0,.agg #[.bool false,.string ⟨#[]⟩,.string ⟨#[]⟩,.string ⟨#[]⟩,.slice none 0 0,.slice none 0 0,.slice none 0 0]]) (by simp[results,Tryz.results133,go_sem,y0,y1,y2,y3,y4,y5,y6]) rfl ?_;show kM g v R w _ (ak w4 (w.heap.size+1) 0 aj);exact⟨An.out.2.setAllNew (by omega) _,An.out.1.setAllOther (by omega),aj,by rw[H0.out.1],(by rw[H0.out.2];exact aP.zero _ _),rfl⟩
 ·rw[if_neg hc1] at Aa
  have AC:e≠2:=fun h=>hc1 (.inl h)
  by_cases he:e=0
  ·subst he
   have hk:k=row.length:=by
    have:¬2+k<N:=fun h=>hc1 (.inr ⟨rfl,h⟩);omega
   rw[if_pos rfl] at Aa;have hd:decide ((2:Int)+(k:Int)<(N:Int))=false:=by rw[decide_eq_false_iff_not];omega
   obtain⟨b,AF,rfl,hlt,c0,c1,c2⟩:=r3.get (j:=0) (by simp);simp only[Nat.zero_mul,Nat.add_zero,List.getElem_cons_zero] at c0 c1 c2;have Av:=Hh Aa;have AM:=Hh q3;have AL:=Hh p3;clear Aa hk hc1 r3 p3 Ar AC;obtain⟨Ah,Ak,Ai,Al,Aj,Am⟩:=k3.n3 rfl;obtain⟨Ab,Ae,Ac,Af,Ad,Ag⟩:=e3.n3 rfl;obtain⟨AV,Bd,AW,Be,AX,Bf,AY,Bg,AZ,Bh,Bb,Bi,Bc,Bj⟩:=q3.n7 rfl;clear k3 q3 e3;go_wp2_with fail;go_region
   all_goals
    go_wp2_with fail;have Ao:=(AM.out.put [.bool false,.string t.text,.string o,.string tt,.slice a n c,.slice none 0 0,.slice none 0 0] 0).drew;obtain⟨y0,y1,y2,y3,y4,y5,y6⟩:=Ao.m7 rfl;simp only[ak] at y0 y1 y2 y3 y4 y5 y6;refine bodyPost_ret (v:=.tuple #[.int .i64 2,.agg #[.bool false,.string t.text,.string o,.string tt,.slice a n c,.slice none 0 0,.slice none 0 0]]) (by simp[results,Tryz.results133,go_sem,y0,y1,y2,y3,y4,y5,y6]) rfl ?_;show kM g v R w _ (ak (w2.alloc (.cells #[.string o,.string tt,.slice a n c] 52)) (w.heap.size+1) 0 [.bool false,.string t.text,.string o,.string tt,.slice a n c,.slice none 0 0,.slice none 0 0]).drew;rw[Av.out];refine⟨(Aw.out.2.setAllNew (by omega) _).drew,(AL.out.setAllOther (by omega)).drew,[.bool false,.string t.text,.string o,.string tt,.slice a n c,.slice none 0 0,.slice none 0 0],rfl,?_⟩;refine⟨aP.leaf ?_ lZ.nil,rfl⟩;exact Nh (q:=w.heap.size+1) (B:=w.heap.size+2) (by omega) (by omega) Aw.out.1
  ·rw[if_neg he] at Aa
   have Bn:=Ar he AC;have hlt:2+k<(t::t2::row).length:=by simp;omega
   rw[List.getElem?_eq_getElem hlt] at Aa;obtain⟨b,AF,rfl,AT,c0,c1,c2⟩:=r3.get (j:=2+k) hlt;simp only at Aa;generalize (t::t2::row)[2+k]=tk at *;have hF:=qB g v 0 0 tk.pos e _ p3;have Bp:(e==0)=false:=by simpa using he
   have Bq:(e != 0)=true:=by simpa using he
   have Bo:(e==2)=false:=by simpa using AC
   have Av:=Hh Aa;clear Aa r3 p3 Ar hc1 he AC hlt;obtain⟨Ah,Ak,Ai,Al,Aj,Am⟩:=k3.n3 rfl;obtain⟨Ab,Ae,Ac,Af,Ad,Ag⟩:=e3.n3 rfl;clear k3 q3 e3;have Bl:(2:Int)+(k:Int)<(N:Int):=by omega
   have Bk:AF+(2+k)*3=AF+(2+k)*3:=rfl;go_wp2_with fail;refine hF.mono ?_;clear hF Ah Ai Aj Ak Al Am Ab Ac Ad Ae Af Ag c0 c1 c2;rintro _ w4 ⟨rfl,p4,hw4⟩;have hs4:aB g (w2.alloc (.cells #[.string o,.string tt,.slice a n c] 52)) w4:=by rw[hw4];exact ((aB.refl _ _).set _ _).set _ _
   clear hw4;have H0:Hid (xG R=0/\zL R=bW):=Hh (by rw[Av.out];exact⟨rfl,rfl⟩);have p4:iK w4 g v (Fq R).1 (Fq R).2:=by rw[Av.out];exact p4
   have q4:=hs4.cells AD.out.2.1 (by omega);have AH:=q4.lt;have An:=Jh p4 (Aw.out.2.trans hs4);have Au:=Hh q4;obtain⟨Ay,A5,Az,A6,A0,A7,A1,A8,A2,A9,A3,AA,A4,AB⟩:=q4.n7 rfl;clear q4 p4 hs4;go_wp2_with fail;have Ao:=Au.out.put aj 0;obtain⟨y0,y1,y2,y3,y4,y5,y6⟩:=Ao.m7 rfl;simp only[ak] at y0 y1 y2 y3 y4 y5 y6;refine bodyPost_ret (v:=.tuple #[.int .i64 0,.agg #[.bool false,.string ⟨#[]⟩,.string ⟨#[]⟩,.string ⟨#[]⟩,.slice none 0 0,.slice none 0 0,.slice none 0 0]]) (by simp[results,Tryz.results133,go_sem,y0,y1,y2,y3,y4,y5,y6]) rfl ?_;show kM g v R w _ (ak w4 (w.heap.size+1) 0 aj);exact⟨An.out.2.setAllNew (by omega) _,An.out.1.setAllOther (by omega),aj,by rw[H0.out.1],(by rw[H0.out.2];exact aP.zero _ _),rfl⟩
def uP(row:List ag)(m:Nat)(pre:List ByteArray):Prop:=pre.length=m/\fA row=pre++fA (row.drop m)
theorem uP.zero(row:List ag):uP row 0 []:=⟨rfl,rfl⟩
theorem uP.step{row:List ag}{m:Nat}{pre:List ByteArray}(h:uP row m pre)(hm:m<row.length)(h3:row[m].kind=3){x:ByteArray}(hx:jD row[m].text=some x):uP row (m+1) (pre++[x]):=by
 refine⟨by simp[h.1],?_⟩;rw[h.2,List.drop_eq_getElem_cons hm,fA,if_pos h3,hx];simp
theorem uP.stop{row:List ag}{m:Nat}{pre:List ByteArray}(h:uP row m pre)(hm:m<row.length)(h3:row[m].kind≠3):fA row=pre/\pre.length=m:=by
 refine⟨?_,h.1⟩;rw[h.2,List.drop_eq_getElem_cons hm,fA,if_neg h3,List.append_nil]
theorem uP.done{row:List ag}{m:Nat}{pre:List ByteArray}(h:uP row m pre)(hm:row.length<=m):fA row=pre/\pre.length=m:=by
 refine⟨?_,h.1⟩;rw[h.2,List.drop_eq_nil_of_le hm,fA,List.append_nil]
theorem Tryz.infoStr:(Tryz.prog.info? 9).map (fun i=>(i.zero,i.size,i.bytes))=some (some (.string ⟨#[]⟩),1,16):=by kernel_rfl
def Nz(w W:World)(line xc:Array Value)(v:Value)(pre:List ByteArray):Prop:=Below w.heap.size w W/\ae W w.heap.size line 86/\ae W (w.heap.size+1) aj.toArray 54/\ae W (w.heap.size+2) xc 54/\aT Value.string 9 (w.heap.size+3) W v pre/\w.heap.size+3<=W.heap.size
theorem Nz.step{w W W':World}{line xc:Array Value}{v:Value}{pre:List ByteArray}(h:Nz w W line xc v pre)(hb:Below W.heap.size W W'):Nz w W' line xc v pre:=
 ⟨h.1.trans (hb.mono h.1.size),h.2.1.below hb h.2.1.lt,h.2.2.1.below hb h.2.2.1.lt,h.2.2.2.1.below hb h.2.2.2.1.lt,h.2.2.2.2.1.below hb lz,Nat.le_trans h.2.2.2.2.2 hb.size⟩
theorem Gi{w3:World}{B n q:Nat}{v:Value}{l:List ByteArray}{vals:List Value}(hq:q<B)(hn:n<=B)(hx:aT Value.string 9 B w3 v l):lZ (fun b=>n<=b) (ak w3 q 0 vals).drew v l:=by
 have ho:aT Value.string 9 B (ak w3 q 0 vals).drew v l:=hx.moved (fun k hk=>aL q vals 0 w3 k (by have:=(World.ownsRow.lt hx k hk).1;omega));exact⟨ho.row,fun k hk=>by have h9:=World.ownsRow.lt ho k hk;exact⟨Nat.le_trans hn h9.1,h9.2⟩⟩
theorem Ap(g:Nat)(oa:Option Addr)(n oc:Nat)(t:ag)(row:List ag)(lv:Value)(stop:Int)(last:Bool)(w:World)(h:iK w g (.slice oa n oc) 0 0)(hr:aH w lv (t::row))(hT:Tab w)(hTg:1<w.heap.size)(hn:row.length<=900000)(hsh:∀t∈row,t.text.size<=1048576)(hq:∀t∈row,t.kind=3->jD t.text≠none) :
  Calls Tryz.prog 134 #[.pointer (some ⟨g,0,none⟩),iE lv stop last] w (kM g (.slice oa n oc) (fE n (t::row) stop last t.text) w):=by
 obtain⟨ra,rc,rfl,Bo,Cu,-⟩:=hr.len;obtain⟨N,hN⟩:=exq ((t::row).length);have Co:N<=row.length+1/\row.length+1<=N:=by rw[hN];simp
 rw[<-hN] at hr Bo ⊢;unfold maxLen at Cu;have HN:=Hh hN;clear hN;obtain⟨R,hR⟩:=exq (fE n (t::row) stop last t.text);have HR:=Hh hR;rw[<-hR];clear hR;have Ao:=h.lt;obtain⟨b,Al,rfl,AL,c0,c1,c2⟩:=hr.get (j:=0) (by simp);simp only[Nat.zero_mul,Nat.add_zero,List.getElem_cons_zero] at c0 c1 c2;have H0:=Jh h (And.intro hr hT);clear h hr hT;go_enter Tryz.func134,Tryz.ntmps134;go_wp2_with fail
 have BO:Below w.heap.size w (((w.alloc (.cells (dK (.slice (some ⟨b,Al,none⟩) N rc) stop last) 86)).alloc (.cells aj.toArray 54)).alloc (.cells #[.bool true,.string t.text,.string ⟨#[]⟩,.string ⟨#[]⟩,.slice none 0 0,.slice none 0 0,.slice none 0 0] 54)):=
  (((Below.refl _ w).alloc lz _).alloc (by simp) _).alloc (by simp only[World.size_alloc];omega) _
 have kA:=((ae.new w (dK (.slice (some ⟨b,Al,none⟩) N rc) stop last) 86).alloc (.cells aj.toArray 54)).alloc (.cells #[.bool true,.string t.text,.string ⟨#[]⟩,.string ⟨#[]⟩,.slice none 0 0,.slice none 0 0,.slice none 0 0] 54);have kB:=(ae.new (w.alloc (.cells (dK (.slice (some ⟨b,Al,none⟩) N rc) stop last) 86)) aj.toArray 54).alloc (.cells #[.bool true,.string t.text,.string ⟨#[]⟩,.string ⟨#[]⟩,.slice none 0 0,.slice none 0 0,.slice none 0 0] 54);have kC:=ae.new ((w.alloc (.cells (dK (.slice (some ⟨b,Al,none⟩) N rc) stop last) 86)).alloc (.cells aj.toArray 54)) #[.bool true,.string t.text,.string ⟨#[]⟩,.string ⟨#[]⟩,.slice none 0 0,.slice none 0 0,.slice none 0 0] 54;simp only[World.size_alloc] at kB kC;have BT:(((w.alloc (.cells (dK (.slice (some ⟨b,Al,none⟩) N rc) stop last) 86)).alloc (.cells aj.toArray 54)).alloc (.cells #[.bool true,.string t.text,.string ⟨#[]⟩,.string ⟨#[]⟩,.slice none 0 0,.slice none 0 0,.slice none 0 0] 54)).heap.size=w.heap.size+3:=by simp
 generalize ((w.alloc (.cells (dK (.slice (some ⟨b,Al,none⟩) N rc) stop last) 86)).alloc (.cells aj.toArray 54)).alloc (.cells #[.bool true,.string t.text,.string ⟨#[]⟩,.string ⟨#[]⟩,.slice none 0 0,.slice none 0 0,.slice none 0 0] 54)=wA at *;have HA:=Jh BO (And.intro kA (And.intro kB (And.intro kC BT)));clear BO kA kB kC BT
 go_loopw [4,7,8,9] (fun _ iv _ _ wr=>∃(m:Nat) (pre:List ByteArray) (v:Value),m<=row.length/\iv=.int .i64 ((1+m:Nat):Int)/\uP row m pre/\Below w.heap.size w wr/\ae wr w.heap.size (dK (.slice (some ⟨b,Al,none⟩) N rc) stop last) 86/\
   ae wr (w.heap.size+1) aj.toArray 54/\ae wr (w.heap.size+2) #[.bool true,.string t.text,.string ⟨#[]⟩,.string ⟨#[]⟩,.slice none 0 0,v,.slice none 0 0] 54/\aT Value.string 9 (w.heap.size+3) wr v pre/\w.heap.size+3<=wr.heap.size) (fun _ iv _ _ _=>N-(intOf iv).toNat)
 case atStart=>exact⟨0,[],_,Nat.zero_le _,rfl,uP.zero _,HA.out.1,HA.out.2.1,HA.out.2.2.1,HA.out.2.2.2.1,aT.nil,by rw[HA.out.2.2.2.2];exact Nat.le_refl _⟩
 case round=>
  clear HA c0 c1 c2 AL;obtain⟨m,pre,v,hm,rfl,AD,Ab,k0,k1,k2,Aa,hz⟩:=hrel;obtain⟨Bq,Bt,Bi⟩:=H0.out;have hp:=Bq.below Ab Ao;have hr:=Bt.below Ab lz;have Bj:=Bi.below Ab hTg;have Cy:pre.length<=row.length:=by rw[AD.1];exact hm
  have BM:=Hh AD;obtain⟨M,hM⟩:=exq (1+m);have Cn:M<=1+m/\1+m<=M:=by omega
  rw[<-hM];have Bl:=k0.lt;have Bm:=k1.lt;have Bn:=k2.lt
  by_cases hlab:∃h:m<row.length,row[m].kind=3
  ·obtain⟨Aw,h3⟩:=hlab
   have At:M<(t::row).length:=by simp;omega
   have AI:(t::row)[M]=row[m]:=by subst hM;simp[Nat.add_comm 1]
   obtain⟨bb,ob,he,AL,c0,c1,c2⟩:=hr.get At;cases he
   rw[AI] at c0 c1 c2;rw[h3] at c0;obtain⟨x,hx,BS⟩:=(zF row[m].text).resolve_left (fun h=>hq _ (List.getElem_mem _) h3 h.1);have hQ:=Av row[m].text wr (by have:=hsh _ (List.getElem_mem Aw);omega) Bj;rw[BS] at hQ;have Cm:=Hh (BM.out.step Aw h3 hx);have AG:decide ((M:Int)<(N:Int))=true:=by rw[decide_eq_true_iff];omega
   obtain⟨va,vc,rfl,-⟩:=Aa.row.len;generalize row[m]=tk at *;have HK:=Jh k0 (And.intro k1 (And.intro k2 (And.intro Aa Ab)));obtain⟨Ad,Ag,Ae,Ah,Af,Ai⟩:=k0.n3 rfl;obtain⟨Ay,A5,Az,A6,A0,A7,A1,A8,A2,A9,A3,AA,A4,AB⟩:=k2.n7 rfl;clear k0 k1 k2 Aa Ab AD Bq Bt Bi hp hr Bj AI BS hM;go_wp2_with fail;refine hQ.mono ?_;clear hQ Ad Ae Af Ag Ah Ai Ay Az A0 A1 A2 A3 A4 A5 A6 A7 A8 A9 AA AB c0 c1 c2;rintro _ w2 ⟨rfl,hb2⟩;obtain⟨k0,k1,k2,Aa,Ab⟩:=HK.out;have AE:=k2.below hb2 k2.lt;have AC:=Aa.below hb2 lz;have C6:=hb2.size;have Cv:=AE.lt;have Cl:=Jh (k0.below hb2 k0.lt) (And.intro (k1.below hb2 k1.lt) (And.intro AE (Ab.trans (hb2.mono Ab.size))));clear k0 k1 k2 Aa Ab hb2;obtain⟨AO,AV,AP,AW,AQ,AX,AR,-⟩:=AE.n4 rfl
   obtain⟨-,-,-,-,-,-,-,AY,AS,AZ,AT,Ba,AU,Bb⟩:=AE.n7 rfl;go_wp2_with (with_reducible first|refine aK ?_)
   refine Stop.out ?_;have AK:=aT.lit (f:=Value.string) (E:=9) (base:=w2.heap.size) (w:=w2) [x] lz (by simp[maxLen]);refine dG rfl _ _ _ rfl (w.heap.size+3) 9 16 (.string ⟨#[]⟩) Tryz.underlying34 Tryz.infoStr rfl (fun _=>rfl) pre [x] (by exact AC.alloc _) AK.row (by simp;unfold maxLen;omega) (by simp;omega) (by simp;omega) (w2.alloc (.cells #[.string x] 9)) (Below.refl _ _) ?_;intro v3 w3 own3 hb3 hg3;obtain⟨C2,C3,rfl,-⟩:=own3.row.len;have C0:∀k,(Value.slice va pre.length vc).ownBlock=some k->w.heap.size+3<=k:=fun k hk=>(World.ownsRow.lt AC k hk).1;have Be:=(AE.alloc (.cells #[.string x] 9)).below hb3 (by omega);have Cw:=Be.lt;have HX:=Jh own3 hb3;clear own3 hg3 AE AO AP AQ AR AS AT AU AV AW AX AY AZ Ba Bb AC AK hb3;have Bh:=Hh Be;obtain⟨BX,Ce,BY,Cf,BZ,Cg,Ca,Ch,Cb,Ci,Cc,Cj,Cd,Ck⟩:=Be.n7 rfl;clear Be;go_wp2;go_roundw
   case rel=>
    obtain⟨own3,hb3⟩:=HX.out;obtain⟨k0,k1,k2,Ab⟩:=Cl.out;have C1:=hb3.size;simp only[World.size_alloc] at C1;have Cp:Below w.heap.size w w3:=(Ab.alloc (by omega) (.cells #[.string x] 9)).trans (hb3.mono (by omega))
    refine⟨m+1,_,_,by omega,by go_num,Cm.out,Cp.setCell (by show w.heap.size<=w.heap.size+2;omega) _,
     ((k0.alloc _).below hb3 (by omega)).setOther _ _ (by show w.heap.size+2≠_;omega),((k1.alloc _).below hb3 (by omega)).setOther _ _ (by show w.heap.size+2≠_;omega),Bh.out.setI 5 _,?_,by rw[World.size_setCell];omega⟩
    have ho:=own3.setOther ⟨w.heap.size+2,5,none⟩ (.slice C2 (pre++[x]).length C3) (fun h=>by have h9:w.heap.size+3<=w.heap.size+2:=(World.ownsRow.lt own3 _ h).1;omega);simp only[List.length_append,List.length_cons,List.length_nil,Nat.zero_add] at ho;exact ho
   case measure=>simp[intOf];omega
  ·have Ak:fA row=pre/\pre.length=m:=by
    by_cases Aw:m<row.length
    ·exact AD.stop Aw (fun h3=>hlab ⟨Aw,h3⟩)
    ·exact AD.done (by omega)
   have Ac:=HR.out;unfold fE at Ac;simp only[List.drop_succ_cons,List.drop_zero,Ak.1,Ak.2] at Ac;rw[<-hM] at Ac;obtain⟨va,vc,rfl,-⟩:=Aa.row.len;have Ar:=Hh Ac;have HS:=Hh (show Nz w wr (dK (.slice (some ⟨b,Al,none⟩) N rc) stop last) #[.bool true,.string t.text,.string ⟨#[]⟩,.string ⟨#[]⟩,.slice none 0 0,.slice va pre.length vc,.slice none 0 0] (.slice va pre.length vc) pre from ⟨Ab,k0,k1,k2,Aa,hz⟩);clear Ak Ac AD BM HR Ab k0 k1 k2 Aa Bq Bt Bi Bj hp hM
   by_cases Aw:m<row.length
   focus
    have At:M<(t::row).length:=by simp;omega
    have AI:(t::row)[M]=row[m]:=by
      have hM:M=1+m:=by omega
      subst hM;simp[Nat.add_comm 1]
    obtain⟨bb,ob,he,AL,c0,c1,c2⟩:=hr.get At;cases he
    have h3:((t::row)[M].kind==3)=false:=by
     rw[beq_eq_false_iff_ne,AI];exact fun h3=>hlab ⟨Aw,h3⟩
    have AG:decide ((M:Int)<(N:Int))=true:=by rw[decide_eq_true_iff];omega
    have Ct:((M:Int)==(N:Int))=false:=by rw[beq_eq_false_iff_ne];omega
    have BQ:(t::row)[M]?=some (t::row)[M]:=List.getElem?_eq_getElem At;have BP:(t::row).drop M=(t::row)[M]::(t::row).drop (M+1):=List.drop_eq_getElem_cons At;generalize (t::row)[M]=tk at *;have Bf:=Jh BQ BP;have As:=o6 tk ut wr;clear AI hlab BQ BP;obtain⟨kk,kt,kp⟩:=tk;simp only[jb] at As;simp only at c0 c1 c2 h3;obtain⟨Ab,k0,k1,k2,Aa,Aq⟩:=HS.out;obtain⟨Ad,Ag,Ae,Ah,Af,Ai⟩:=k0.n3 rfl;clear Ab k0 k1 k2 Aa Aq hr;go_wp2_with fail;refine As.mono ?_;clear As c0 c1 c2 Ad Ae Af Ag Ah Ai;rintro _ w2 ⟨rfl,hb2⟩;have Am:=Hh (HS.out.step hb2);clear hb2 HS hz AL Bl Bm Bn;have Ac:=Ar.out;rw[Bf.out.1,Bf.out.2,pJ] at Ac;clear Ar
    by_cases hsg:lI ⟨kk,kt,kp⟩ ut=false
    focus
     rw[if_pos hsg] at Ac;rw[hsg];have Aj:=Hh Ac;clear Ac;obtain⟨Ab,k0,k1,k2,Aa,Aq⟩:=Am.out;have hL:=jo g (.slice oa n oc) (t::row) (.slice (some ⟨b,Al,none⟩) N rc) stop last (M) _ (H0.out.1.below Ab Ao) (H0.out.2.1.below Ab lz) (by simp;omega);rw[<-Aj.out,show (((M:Nat)):Int)=(M:Int) by omega] at hL;have H9:Hid (xG R=0/\zL R=bW):=Hh (by rw[Aj.out];exact jq _ _ _ _);simp only[iE] at hL;have Au:=k0.lt;obtain⟨Ad,Ag,Ae,Ah,Af,Ai⟩:=k0.n3 rfl;clear Ab k0 k1 k2 Aa;go_wp2_with fail;have Bc:=Am
    rotate_left
    focus
     rw[if_neg hsg] at Ac;have An:lI ⟨kk,kt,kp⟩ ut=true:=by simpa using hsg
     rw[An];clear hsg An
     by_cases hdp:64<n
     focus
      rw[if_pos hdp] at Ac;simp only at Ac;have Cq:decide ((64:Int)<(n:Int))=true:=by rw[decide_eq_true_iff];omega
      have Aj:=Hh Ac;obtain⟨Ab,k0,k1,k2,Aa,Aq⟩:=Am.out;have Bd:=H0.out.1.below Ab Ao;obtain⟨bb,ob,he,AL,c0,c1,c2⟩:=(H0.out.2.1.below Ab lz).get At;cases he
      have AM:(t::row)[M].pos=kp:=by
       have:=Bf.out.1;rw[List.getElem?_eq_getElem At] at this;rw[Option.some.inj this]
      rw[AM] at c2;have hF:=qB g (.slice oa n oc) 0 0 kp 5 _ Bd;have Au:=k0.lt;have BR:=Bd.lt;have Bs:=Bd.cell 0 _ rfl;obtain⟨Ad,Ag,Ae,Ah,Af,Ai⟩:=k0.n3 rfl;clear Ac Ab k0 k1 k2 Aa Bd c0 c1 AM hdp;go_wp2_with fail;refine hF.mono ?_;clear hF Ad Ae Af Ag Ah Ai c2 Bs;rintro _ w4 ⟨rfl,p4,hw4⟩;obtain⟨Ab,k0,k1,k2,Aa,-⟩:=Am.out;have Ax:aB g w2 w4:=by rw[hw4];exact ((aB.refl _ _).set _ _).set _ _
      have q4:=Ax.cells k1 (by omega);have Cx:=q4.lt;have p4:iK w4 g (.slice oa n oc) (Fq R).1 (Fq R).2:=by rw[Aj.out];exact p4
      have Bg:=Jh p4 ((aB.of Ab).trans Ax);have BN:=Hh q4;have H9:Hid (xG R=0/\zL R=bW):=Hh (by rw[Aj.out];exact⟨rfl,rfl⟩);obtain⟨B8,BF,B9,BG,BA,BH,BB,BI,BC,BJ,BD,BK,BE,BL⟩:=q4.n7 rfl;clear q4 p4 Ax Ab k0 k1 k2 Aa hw4;go_wp2_with fail
     rotate_left
     focus
      rw[if_neg hdp] at Ac;have Cq:decide ((64:Int)<(n:Int))=false:=by rw[decide_eq_false_iff_not];omega
      have Bs:=(H0.out.1.below Am.out.1 Ao).cell 0 _ rfl;have BR:=(H0.out.1.below Am.out.1 Ao).lt;rw[<-HN.out] at Ac
      by_cases Ak:N=M+1
      case pos=>
       rw[if_pos Ak] at Ac;have Bk:((M:Int)+1==(N:Int))=true:=by rw[beq_iff_eq];omega
       have Aj:=Hh Ac;clear Ac Ak hdp;obtain⟨Ab,k0,k1,k2,Aa,Aq⟩:=Am.out;have Au:=k0.lt;have Bo:=k1.lt;have Bp:=k2.lt;have HK:=Jh k1 (And.intro Aa (And.intro Ab (H0.out.1.below Ab Ao)));obtain⟨Ad,Ag,Ae,Ah,Af,Ai⟩:=k0.n3 rfl;obtain⟨Bu,B1,Bv,B2,Bw,B3,Bx,B4,By,B5,Bz,B6,B0,B7⟩:=k1.n7 rfl;obtain⟨Ay,A5,Az,A6,A0,A7,A1,A8,A2,A9,A3,AA,A4,AB⟩:=k2.n7 rfl;clear Ab k0 k1 k2 Aa;go_wp2_with fail;go_region
       all_goals
        go_wp2_with fail;obtain⟨k1,Aa,Ab,Br⟩:=HK.out;have AN:=(k1.put [.bool true,.string t.text,.string ⟨#[]⟩,.string ⟨#[]⟩,.slice none 0 0,.slice va pre.length vc,.slice none 0 0] 0).drew;obtain⟨y0,y1,y2,y3,y4,y5,y6⟩:=AN.m7 rfl;simp only[ak] at y0 y1 y2 y3 y4 y5 y6;refine bodyPost_ret (v:=.tuple #[.int .i64 3,.agg #[.bool true,.string t.text,.string ⟨#[]⟩,.string ⟨#[]⟩,.slice none 0 0,.slice va pre.length vc,.slice none 0 0]]) (by simp[results,Tryz.results134,go_sem,y0,y1,y2,y3,y4,y5,y6]) rfl ?_;show kM g (.slice oa n oc) R w _ (ak w2 (w.heap.size+1) 0 [.bool true,.string t.text,.string ⟨#[]⟩,.string ⟨#[]⟩,.slice none 0 0,.slice va pre.length vc,.slice none 0 0]).drew;rw[Aj.out];refine⟨((aB.of Ab).setAllNew (by omega) _).drew,(Br.setAllOther (by omega)).drew,[.bool true,.string t.text,.string ⟨#[]⟩,.string ⟨#[]⟩,.slice none 0 0,.slice va pre.length vc,.slice none 0 0],rfl,?_⟩;refine⟨aP.leaf (af.leaf _ _ _ _) ?_,rfl⟩;exact Gi (q:=w.heap.size+1) (B:=w.heap.size+3) (by omega) (by omega) Aa
      focus
       rw[if_neg Ak] at Ac;have Bk:((M:Int)+1==(N:Int))=false:=by rw[beq_eq_false_iff_ne];omega
       have AJ:M+1<(t::row).length:=by rw[<-HN.out];omega
       obtain⟨C4,C7,Cs,Cz,d0,d1,d2⟩:=(H0.out.2.1.below Am.out.1 lz).get AJ;cases Cs
       have AH:row.drop M=(t::row)[M+1]::row.drop (M+1):=List.drop_eq_getElem_cons AJ;rw[AH,pJ] at Ac;have As:=o6 (t::row)[M+1] nW w2;generalize (t::row)[M+1]=tk2 at *;obtain⟨BU,BW,BV⟩:=tk2;simp only[jb] at As;simp only at d0 d1 d2;obtain⟨Ab,k0,k1,k2,Aa,Aq⟩:=Am.out;have Au:=k0.lt;obtain⟨Ad,Ag,Ae,Ah,Af,Ai⟩:=k0.n3 rfl;have Ar:=Hh Ac;have C5:Al+(M+1)*3=Al+(M+1)*3:=rfl;clear Ab k0 k1 k2 Aa Ac AH hdp;go_wp2_with fail;refine As.mono ?_;clear As d0 d1 d2 Ad Ae Af Ag Ah Ai Bs BR;rintro _ w5 ⟨rfl,hb5⟩;have AF:=Hh (Am.out.step hb5);clear hb5 Am;have Ac:=Ar.out;clear Ar
       by_cases hsg:lI ⟨BU,BW,BV⟩ nW=false
       focus
        rw[if_pos hsg] at Ac;rw[hsg];have Aj:=Hh Ac;clear Ac hsg;obtain⟨Ab,k0,k1,k2,Aa,Aq⟩:=AF.out;have hL:=jo g (.slice oa n oc) (t::row) (.slice (some ⟨b,Al,none⟩) N rc) stop last ((M+1)) _ (H0.out.1.below Ab Ao) (H0.out.2.1.below Ab lz) (by simp;omega);rw[<-Aj.out,show ((((M+1):Nat)):Int)=(M:Int)+1 by omega] at hL;have H9:Hid (xG R=0/\zL R=bW):=Hh (by rw[Aj.out];exact jq _ _ _ _);simp only[iE] at hL;have Au:=k0.lt;obtain⟨Ad,Ag,Ae,Ah,Af,Ai⟩:=k0.n3 rfl;clear Ab k0 k1 k2 Aa;go_wp2_with fail;have Bc:=AF
       rotate_left
       focus
        rw[if_neg hsg] at Ac;have An:lI ⟨BU,BW,BV⟩ nW=true:=by simpa using hsg
        rw[An];clear hsg An
        by_cases hmore:M+2<N
        focus
         rw[if_pos hmore] at Ac;have Aj:=Hh Ac;have Cr:decide ((M:Int)+1+1<(N:Int))=true:=by rw[decide_eq_true_iff];omega
         clear Ac;obtain⟨Ab,k0,k1,k2,Aa,Aq⟩:=AF.out;have hL:=jo g (.slice oa n oc) (t::row) (.slice (some ⟨b,Al,none⟩) N rc) stop last ((M+2)) _ (H0.out.1.below Ab Ao) (H0.out.2.1.below Ab lz) (by simp;omega);rw[<-Aj.out,show ((((M+2):Nat)):Int)=(M:Int)+1+1 by omega] at hL;have H9:Hid (xG R=0/\zL R=bW):=Hh (by rw[Aj.out];exact jq _ _ _ _);simp only[iE] at hL;have Au:=k0.lt;obtain⟨Ad,Ag,Ae,Ah,Af,Ai⟩:=k0.n3 rfl;clear Ab k0 k1 k2 Aa;go_wp2_with fail;have Bc:=AF
        rotate_left
        ·rw[if_neg hmore] at Ac
         have Aj:=Hh Ac;have Cr:decide ((M:Int)+1+1<(N:Int))=false:=by rw[decide_eq_false_iff_not];omega
         clear Ac;obtain⟨Ab,k0,k1,k2,Aa,Aq⟩:=AF.out;have Au:=k0.lt;have Bo:=k1.lt;have Bp:=k2.lt;have HK:=Jh k1 (And.intro Aa (And.intro Ab (H0.out.1.below Ab Ao)));obtain⟨Ad,Ag,Ae,Ah,Af,Ai⟩:=k0.n3 rfl;obtain⟨Bu,B1,Bv,B2,Bw,B3,Bx,B4,By,B5,Bz,B6,B0,B7⟩:=k1.n7 rfl;obtain⟨Ay,A5,Az,A6,A0,A7,A1,A8,A2,A9,A3,AA,A4,AB⟩:=k2.n7 rfl;clear Ab k0 k1 k2 Aa;go_wp2_with fail;go_region
         all_goals
          go_wp2_with fail;obtain⟨k1,Aa,Ab,Br⟩:=HK.out;have AN:=(k1.put [.bool true,.string t.text,.string ⟨#[]⟩,.string ⟨#[]⟩,.slice none 0 0,.slice va pre.length vc,.slice none 0 0] 0).drew;obtain⟨y0,y1,y2,y3,y4,y5,y6⟩:=AN.m7 rfl;simp only[ak] at y0 y1 y2 y3 y4 y5 y6;refine bodyPost_ret (v:=.tuple #[.int .i64 4,.agg #[.bool true,.string t.text,.string ⟨#[]⟩,.string ⟨#[]⟩,.slice none 0 0,.slice va pre.length vc,.slice none 0 0]]) (by simp[results,Tryz.results134,go_sem,y0,y1,y2,y3,y4,y5,y6]) rfl ?_;show kM g (.slice oa n oc) R w _ (ak w5 (w.heap.size+1) 0 [.bool true,.string t.text,.string ⟨#[]⟩,.string ⟨#[]⟩,.slice none 0 0,.slice va pre.length vc,.slice none 0 0]).drew;rw[Aj.out];refine⟨((aB.of Ab).setAllNew (by omega) _).drew,(Br.setAllOther (by omega)).drew,[.bool true,.string t.text,.string ⟨#[]⟩,.string ⟨#[]⟩,.slice none 0 0,.slice va pre.length vc,.slice none 0 0],rfl,?_⟩;refine⟨aP.leaf (af.leaf _ _ _ _) ?_,rfl⟩;exact Gi (q:=w.heap.size+1) (B:=w.heap.size+3) (by omega) (by omega) Aa
   rotate_left 4
   focus
    have AG:decide ((M:Int)<(N:Int))=false:=by rw[decide_eq_false_iff_not];omega
    have Ct:((M:Int)==(N:Int))=true:=by rw[beq_iff_eq];omega
    have Ac:=Ar.out;rw[List.drop_eq_nil_of_le (by simp;omega),if_pos (by rfl)] at Ac;have Aj:=Hh Ac;clear Ac Ar hlab hr;obtain⟨Ab,k0,k1,k2,Aa,Aq⟩:=HS.out;have hL:=jo g (.slice oa n oc) (t::row) (.slice (some ⟨b,Al,none⟩) N rc) stop last (M) _ (H0.out.1.below Ab Ao) (H0.out.2.1.below Ab lz) (by simp;omega);rw[<-Aj.out,show (((M:Nat)):Int)=(M:Int) by omega] at hL;have H9:Hid (xG R=0/\zL R=bW):=Hh (by rw[Aj.out];exact jq _ _ _ _);simp only[iE] at hL;have Au:=k0.lt;obtain⟨Ad,Ag,Ae,Ah,Af,Ai⟩:=k0.n3 rfl;clear Ab k0 k1 k2 Aa;go_wp2_with fail;have Bc:=HS
   all_goals
    try (
     refine hL.mono ?_;clear hL Ad Ae Af Ag Ah Ai;rintro _ w4 ⟨rfl,Ax,p4⟩;obtain⟨Ab,k0,k1,k2,Aa,-⟩:=Bc.out;have q4:=Ax.cells k1 (by omega);have Cx:=q4.lt;have Bg:=Jh p4 ((aB.of Ab).trans Ax);have BN:=Hh q4;obtain⟨B8,BF,B9,BG,BA,BH,BB,BI,BC,BJ,BD,BK,BE,BL⟩:=q4.n7 rfl;clear q4 p4 Ax Ab k0 k1 k2 Aa;go_wp2_with fail
     skip)
    have AN:=BN.out.put aj 0;obtain⟨y0,y1,y2,y3,y4,y5,y6⟩:=AN.m7 rfl;simp only[ak] at y0 y1 y2 y3 y4 y5 y6;refine bodyPost_ret (v:=.tuple #[.int .i64 0,.agg #[.bool false,.string ⟨#[]⟩,.string ⟨#[]⟩,.string ⟨#[]⟩,.slice none 0 0,.slice none 0 0,.slice none 0 0]]) (by simp[results,Tryz.results134,go_sem,y0,y1,y2,y3,y4,y5,y6]) rfl ?_;show kM g (.slice oa n oc) R w _ (ak w4 (w.heap.size+1) 0 aj);exact⟨Bg.out.2.setAllNew (by omega) _,Bg.out.1.setAllOther (by omega),aj,by rw[H9.out.1],(by rw[H9.out.2];exact aP.zero _ _),rfl⟩
def OJ(w W:World)(line:Array Value):Prop:=Below w.heap.size w W/\ae W w.heap.size line 86/\ae W (w.heap.size+1) aj.toArray 54/\w.heap.size+2<=W.heap.size
theorem OJ.step{w W W':World}{line:Array Value}(h:OJ w W line)(hb:Below W.heap.size W W'):OJ w W' line:=
 ⟨h.1.trans (hb.mono h.1.size),h.2.1.below hb h.2.1.lt,h.2.2.1.below hb h.2.2.1.lt,Nat.le_trans h.2.2.2 hb.size⟩
theorem aP.shape7{P:Nat->Prop}{w:World}{t:bA}{cs:List Value}(h:aP P w t cs):∃n vo vt va vn vc la ln lc ia k cap,cs=[.bool t.block,.string n,.string vo,.string vt,.slice va vn vc,.slice la ln lc,.slice ia k cap]:=by
 cases t
 unfold aP at h;obtain⟨_,_,_,_,_,_,rfl,hv,hl,-⟩:=h.open;obtain⟨va,vn,vc,rfl⟩:=Ab hv;obtain⟨la,lc,rfl,-⟩:=hl.1.len;exact⟨_,_,_,_,_,_,_,_,_,_,_,_,rfl⟩
theorem KY(g:Nat)(oa:Option Addr)(n oc:Nat)  (lv:Value) (stop:Int) (last:Bool) (w:World) (h:iK w g (.slice oa n oc) 0 0) (hr:aH w lv []) (ho:∀b,lv.ownBlock=some b->b<w.heap.size) (hT:jk w) (hn:([]:List ag).length<=900000) (hsh:∀t∈([]:List ag),t.text.size<=1048576) (hq:∀t∈([]:List ag),t.kind=3->jD t.text≠none) :
  Calls Tryz.prog 89 #[.pointer (some ⟨g,0,none⟩),iE lv stop last] w (kM g (.slice oa n oc) (aY n [] stop last) w):=by
 obtain⟨ra,rc,rfl,Ah,Ai,-⟩:=hr.len;obtain⟨N,hN⟩:=exq (([]:List ag).length);have Aa:N<=([]:List ag).length/\([]:List ag).length<=N:=by omega
 rw[<-hN] at hr Ah ho ⊢;unfold maxLen at Ai;have HN:=Hh hN;clear hN;obtain⟨R,hR⟩:=exq (aY n [] stop last);have HR:=Hh hR;rw[<-hR];clear hR;have Ag:=h.lt;have Ad:Below w.heap.size w ((w.alloc (.cells (dK (.slice ra N rc) stop last) 86)).alloc (.cells aj.toArray 54)):=((Below.refl _ w).alloc lz _).alloc (by simp) _;have kA:=(ae.new w (dK (.slice ra N rc) stop last) 86).alloc (.cells aj.toArray 54);have kB:=ae.new (w.alloc (.cells (dK (.slice ra N rc) stop last) 86)) aj.toArray 54;simp only[World.size_alloc] at kB;have Af:((w.alloc (.cells (dK (.slice ra N rc) stop last) 86)).alloc (.cells aj.toArray 54)).heap.size=w.heap.size+2:=by simp
 have HS:=Hh (show OJ w ((w.alloc (.cells (dK (.slice ra N rc) stop last) 86)).alloc (.cells aj.toArray 54)) (dK (.slice ra N rc) stop last) from ⟨Ad,kA,kB,by rw[Af];exact Nat.le_refl _⟩);have H0:=Jh h (And.intro hr (And.intro ho hT));clear Ad kA kB Af h hr ho hT;have Ak:((N:Int)==0)=true:=by rw[beq_iff_eq];simp at Aa;omega
 have Ac:Hid (R=.empty):=HR;have H9:Hid (xG R=1/\zL R=bW):=Hh (by rw[Ac.out];exact⟨rfl,rfl⟩);go_enter Tryz.func89,Tryz.ntmps89;go_wp2_with fail;obtain⟨Ae,k0,k1,Al⟩:=HS.out;have Aj:=Hh k1;have p4:iK ((w.alloc (.cells (dK (.slice ra N rc) stop last) 86)).alloc (.cells aj.toArray 54)) g (.slice oa n oc) (Fq R).1 (Fq R).2:=by rw[Ac.out];exact H0.out.1.below Ae Ag
 have Ab:=Jh p4 (aB.of (g:=g) Ae);obtain⟨y0,y1,y2,y3,y4,y5,y6⟩:=k1.m7 rfl;refine bodyPost_ret (v:=.tuple #[.int .i64 1,.agg #[.bool false,.string ⟨#[]⟩,.string ⟨#[]⟩,.string ⟨#[]⟩,.slice none 0 0,.slice none 0 0,.slice none 0 0]]) (by simp[results,Tryz.results89,go_sem,y0,y1,y2,y3,y4,y5,y6]) rfl ?_;exact⟨Ab.out.2,Ab.out.1,aj,by rw[H9.out.1],(by rw[H9.out.2];exact aP.zero _ _),rfl⟩
theorem MJ(b:Bool)(n o s:ByteArray)(va:Option Addr)(vn vc:Nat)(la:Option Addr)(ln lc:Nat)(ia:Option Addr)(k c:Nat):∀v∈(#[.bool b,.string n,.string o,.string s,.slice va vn vc,.slice la ln lc,.slice ia k c]:Array Value).toList,v.oneCell'=true:=by
 intro v hv;simp at hv
 rcases hv with rfl|rfl|rfl|rfl|rfl|rfl|rfl<;>rfl
theorem Bz{w3:World}{B n q:Nat}{x:bA}{cs:List Value}{vals:Array Value}(hq:q<B)(hn:n<=B)(hx:aP (fun b=>B<=b) w3 x cs):aP (fun b=>n<=b) (w3.setRow q vals) x cs:=
 aP.move (P:=fun b=>B<=b) (Q:=fun b=>n<=b) (w:=w3) (w':=(w3.setRow q vals)) (Nat.le_of_eq (setRow_size w3 q vals).symm) (fun b (hb:B<=b) _=>setRow_other w3 q b vals (by omega)) (fun b (hb:B<=b) _=>Nat.le_trans hn hb) x cs hx
theorem aB.setRowNew{w w':World}{g q:Nat}(h:aB g w w')(hq:w.heap.size<=q)(vals:Array Value):aB g w (w'.setRow q vals):=
 ⟨below_setRow h.1 (Nat.zero_le _) _,fun k hk hn=>(setRow_other w' q k vals (by omega)).trans (h.2 k hk hn)⟩
theorem KX(g:Nat)(oa:Option Addr)(n oc:Nat)(t:ag)(r:List ag)(lv:Value)(stop:Int)(last:Bool)(w:World)(h:iK w g (.slice oa n oc) 0 0)(hr:aH w lv (t::r))(ho:∀b,lv.ownBlock=some b->b<w.heap.size)(hT:jk w)(hn:(t::r).length<=900000)(hsh:∀u∈(t::r),u.text.size<=1048576)(hq:∀u∈(t::r),u.kind=3->jD u.text≠none)(hs0:lI t nW=false)(hk1:t.kind=1) :
  Calls Tryz.prog 89 #[.pointer (some ⟨g,0,none⟩),iE lv stop last] w (kM g (.slice oa n oc) (aY n (t::r) stop last) w):=by
 obtain⟨ra,rc,rfl,A7,A8,-⟩:=hr.len;obtain⟨N,hN⟩:=exq ((t::r).length);have Ao:N<=(t::r).length/\(t::r).length<=N:=by omega
 rw[<-hN] at hr A7 ho ⊢;unfold maxLen at A8;have HN:=Hh hN;clear hN;obtain⟨R,hR⟩:=exq (aY n (t::r) stop last);have HR:=Hh hR;rw[<-hR];clear hR;have Ay:=h.lt;have A1:Below w.heap.size w ((w.alloc (.cells (dK (.slice ra N rc) stop last) 86)).alloc (.cells aj.toArray 54)):=((Below.refl _ w).alloc lz _).alloc (by simp) _;have kA:=(ae.new w (dK (.slice ra N rc) stop last) 86).alloc (.cells aj.toArray 54);have kB:=ae.new (w.alloc (.cells (dK (.slice ra N rc) stop last) 86)) aj.toArray 54;simp only[World.size_alloc] at kB;have A3:((w.alloc (.cells (dK (.slice ra N rc) stop last) 86)).alloc (.cells aj.toArray 54)).heap.size=w.heap.size+2:=by simp
 have HS:=Hh (show OJ w ((w.alloc (.cells (dK (.slice ra N rc) stop last) 86)).alloc (.cells aj.toArray 54)) (dK (.slice ra N rc) stop last) from ⟨A1,kA,kB,by rw[A3];exact Nat.le_refl _⟩);have H0:=Jh h (And.intro hr (And.intro ho hT));clear A1 kA kB A3 h hr ho hT;simp only[List.length_cons] at Ao hn;have AE:1<=N:=by omega
 have AG:((N:Int)==0)=false:=by rw[beq_eq_false_iff_ne];omega
 obtain⟨bb,ob,he,A9,c0,c1,c2⟩:=(H0.out.2.1.below HS.out.1 lz).get (j:=0) (by simp);cases he
 simp only[Nat.zero_mul,Nat.add_zero,List.getElem_cons_zero] at c0 c1 c2;have Ar:=o6 t nW ((w.alloc (.cells (dK (.slice (some ⟨bb,ob,none⟩) N rc) stop last) 86)).alloc (.cells aj.toArray 54));have Ac:=HR.out;simp only[aY] at Ac;rw[pJ] at Ac;have At:=Hh Ac;clear Ac HR;have Ax:=Jh hsh hq;have AI:=hsh t (by simp);clear hsh hq;simp only[jb] at Ar;have A0:=Jh hs0 hk1;clear hs0 hk1;go_enter Tryz.func89,Tryz.ntmps89;go_wp2_with fail;refine Ar.mono ?_;generalize (w.alloc (.cells (dK (.slice (some ⟨bb,ob,none⟩) N rc) stop last) 86)).alloc (.cells aj.toArray 54)=w1 at *;clear Ar c0 c1 c2 A9;rintro _ w2 ⟨rfl,hb2⟩;have Ab:=Hh (HS.out.step hb2);clear hb2 HS;have Ac:=At.out;clear At;have hs0:=A0.out.1;have hk1:=A0.out.2;rw[if_neg (by simp[hs0])] at Ac;have Av:lI t nW=false:=hs0;rw[Av];clear Av hs0;obtain⟨AC,AJ,A5,AA,c0,c1,c2⟩:=(H0.out.2.1.below Ab.out.1 lz).get (j:=0) (by simp);cases A5
 simp only[Nat.zero_mul,Nat.add_zero,List.getElem_cons_zero] at c0 c1 c2;rw[if_neg (by simpa using hk1)] at Ac;have AH:(t.kind != 1)=false:=by simp[hk1]
 cases r with
 |nil=>
  have hd:decide ((1:Int)<(N:Int))=false:=by rw[decide_eq_false_iff_not];simp at Ao;omega
  rw[if_neg (by simp[bK])] at Ac;have hC:=Ap g oa n oc t [] (.slice (some ⟨bb,ob,none⟩) N rc) stop last w2 (H0.out.1.below Ab.out.1 Ay) (H0.out.2.1.below Ab.out.1 lz) (H0.out.2.2.2.below Ab.out.1).utf (H0.out.2.2.2.below Ab.out.1).utf.pos (by simp) (fun t ht=>by cases ht) (fun t ht=>by cases ht);rw[<-Ac] at hC;obtain⟨Ad,k0,k1,As⟩:=Ab.out;have Az:=k0.lt;obtain⟨Ae,Ah,Af,Ai,Ag,Aj⟩:=k0.n3 rfl;clear Ad k0 k1 Ac hk1;simp only[iE] at hC;go_wp2_with fail;clear Ae Af Ag Ah Ai Aj c0 c1 c2;refine hC.mono ?_;clear hC;rintro _ w4 ⟨hs4,p4,cs,rfl,hin,hi6⟩;obtain⟨cn,Am,An,va,vn,vc,la,ln,lc,Al,ck,Aa,rfl⟩:=aP.shape7 hin;obtain⟨Ad,k0,k1,As⟩:=Ab.out;have q4:=hs4.cells k1 (by omega);have A2:=q4.lt;have Ak:=Jh p4 (And.intro ((aB.of Ad).trans hs4) (And.intro hin hi6));have Aq:=Hh q4;clear q4 p4 hs4 Ad k0 k1 hin hi6;generalize (zL R).block=cb at *;go_wp2_with (with_reducible first|refine bH ?_)
  refine Stop.out ?_;refine az rfl 54 _ _ rfl rfl _ rfl #[.bool cb,.string cn,.string Am,.string An,.slice va vn vc,.slice la ln lc,.slice Al ck Aa] rfl _ _ Aq.out rfl (by kernel_rfl) (MJ _ _ _ _ _ _ _ _ _ _ _ _ _) ?_;have Au:ae (w4.setRow (w.heap.size+1) #[.bool cb,.string cn,.string Am,.string An,.slice va vn vc,.slice la ln lc,.slice Al ck Aa]) (w.heap.size+1) #[.bool cb,.string cn,.string Am,.string An,.slice va vn vc,.slice la ln lc,.slice Al ck Aa] 54:=setRow_heap _ _ _ _ _ _ Aq.out;obtain⟨y0,y1,y2,y3,y4,y5,y6⟩:=Au.m7 rfl;go_wp2;refine bodyPost_ret (v:=.tuple #[.int .i64 (xG R),.agg #[.bool cb,.string cn,.string Am,.string An,.slice va vn vc,.slice la ln lc,.slice Al ck Aa]]) (by simp[results,Tryz.results89,go_sem,y0,y1,y2,y3,y4,y5,y6]) rfl ?_;exact⟨Ak.out.2.1.setRowNew (by omega) _,(setRow_other _ _ _ _ (by omega)).trans Ak.out.1,_,rfl,Bz (B:=w2.heap.size) (by omega) (by omega) Ak.out.2.2.1,Ak.out.2.2.2⟩
 |cons t2 r2=>
  have AF:2<=N:=by simp at Ao;omega
  have hd:decide ((1:Int)<(N:Int))=true:=by rw[decide_eq_true_iff];simp at Ao;omega
  obtain⟨AD,AK,A6,AB,d0,d1,d2⟩:=(H0.out.2.1.below Ab.out.1 lz).get (j:=1) (by simp);cases A6
  simp only[Nat.one_mul,List.getElem_cons_succ,List.getElem_cons_zero] at d0 d1 d2;have Ar:=o6 t2 Ie w2;rw[pJ] at Ac;have At:=Hh Ac;obtain⟨Ad,k0,k1,As⟩:=Ab.out;have Az:=k0.lt;obtain⟨Ae,Ah,Af,Ai,Ag,Aj⟩:=k0.n3 rfl;clear Ad k0 k1 Ac hk1;simp only[jb] at Ar;go_wp2_with fail;refine Ar.mono ?_;clear Ar Ae Af Ag Ah Ai Aj c0 c1 c2 d0 d1 d2;rintro _ w5 ⟨rfl,hb5⟩;have A4:=Hh (Ab.out.step hb5);clear hb5 Ab;have Ac:=At.out;clear At;have Ab:=A4
  by_cases hsq:lI t2 Ie=true
  ·rw[if_pos hsq] at Ac
   rw[hsq];have hC:=ze g (.slice oa n oc) t t2 r2 (.slice (some ⟨bb,ob,none⟩) N rc) stop last w5 (H0.out.1.below Ab.out.1 Ay) (H0.out.2.1.below Ab.out.1 lz) (fun b hb=>Nat.lt_of_lt_of_le (H0.out.2.2.1 b hb) Ab.out.1.size) (H0.out.2.2.2.below Ab.out.1) (by simp at hn;omega) (fun t ht=>Ax.out.1 t (by simp[ht]));rw[<-Ac] at hC;obtain⟨Ad,k0,k1,As⟩:=Ab.out;have Az:=k0.lt;obtain⟨Ae,Ah,Af,Ai,Ag,Aj⟩:=k0.n3 rfl;clear Ad k0 k1 Ac hsq;simp only[iE] at hC;go_wp2_with fail;clear Ae Af Ag Ah Ai Aj;refine hC.mono ?_;clear hC;rintro _ w4 ⟨hs4,p4,cs,rfl,hin,hi6⟩;obtain⟨cn,Am,An,va,vn,vc,la,ln,lc,Al,ck,Aa,rfl⟩:=aP.shape7 hin;obtain⟨Ad,k0,k1,As⟩:=Ab.out;have q4:=hs4.cells k1 (by omega);have A2:=q4.lt;have Ak:=Jh p4 (And.intro ((aB.of Ad).trans hs4) (And.intro hin hi6));have Aq:=Hh q4;clear q4 p4 hs4 Ad k0 k1 hin hi6;generalize (zL R).block=cb at *;go_wp2_with (with_reducible first|refine bH ?_)
   refine Stop.out ?_;refine az rfl 54 _ _ rfl rfl _ rfl #[.bool cb,.string cn,.string Am,.string An,.slice va vn vc,.slice la ln lc,.slice Al ck Aa] rfl _ _ Aq.out rfl (by kernel_rfl) (MJ _ _ _ _ _ _ _ _ _ _ _ _ _) ?_;have Au:ae (w4.setRow (w.heap.size+1) #[.bool cb,.string cn,.string Am,.string An,.slice va vn vc,.slice la ln lc,.slice Al ck Aa]) (w.heap.size+1) #[.bool cb,.string cn,.string Am,.string An,.slice va vn vc,.slice la ln lc,.slice Al ck Aa] 54:=setRow_heap _ _ _ _ _ _ Aq.out;obtain⟨y0,y1,y2,y3,y4,y5,y6⟩:=Au.m7 rfl;go_wp2;refine bodyPost_ret (v:=.tuple #[.int .i64 (xG R),.agg #[.bool cb,.string cn,.string Am,.string An,.slice va vn vc,.slice la ln lc,.slice Al ck Aa]]) (by simp[results,Tryz.results89,go_sem,y0,y1,y2,y3,y4,y5,y6]) rfl ?_;exact⟨Ak.out.2.1.setRowNew (by omega) _,(setRow_other _ _ _ _ (by omega)).trans Ak.out.1,_,rfl,Bz (B:=w5.heap.size) (by omega) (by omega) Ak.out.2.2.1,Ak.out.2.2.2⟩
  ·rw[if_neg hsq] at Ac
   have Aw:lI t2 Ie=false:=by simpa using hsq
   rw[Aw];have hC:=Ap g oa n oc t (t2::r2) (.slice (some ⟨bb,ob,none⟩) N rc) stop last w5 (H0.out.1.below Ab.out.1 Ay) (H0.out.2.1.below Ab.out.1 lz) (H0.out.2.2.2.below Ab.out.1).utf (H0.out.2.2.2.below Ab.out.1).utf.pos (by simp at hn ⊢;omega) (fun t ht=>Ax.out.1 t (List.mem_cons_of_mem _ ht)) (fun t ht=>Ax.out.2 t (List.mem_cons_of_mem _ ht));rw[<-Ac] at hC;obtain⟨Ad,k0,k1,As⟩:=Ab.out;have Az:=k0.lt;obtain⟨Ae,Ah,Af,Ai,Ag,Aj⟩:=k0.n3 rfl;clear Ad k0 k1 Ac hsq Aw;simp only[iE] at hC;go_wp2_with fail;clear Ae Af Ag Ah Ai Aj;refine hC.mono ?_;clear hC;rintro _ w4 ⟨hs4,p4,cs,rfl,hin,hi6⟩;obtain⟨cn,Am,An,va,vn,vc,la,ln,lc,Al,ck,Aa,rfl⟩:=aP.shape7 hin;obtain⟨Ad,k0,k1,As⟩:=Ab.out;have q4:=hs4.cells k1 (by omega);have A2:=q4.lt;have Ak:=Jh p4 (And.intro ((aB.of Ad).trans hs4) (And.intro hin hi6));have Aq:=Hh q4;clear q4 p4 hs4 Ad k0 k1 hin hi6;generalize (zL R).block=cb at *;go_wp2_with (with_reducible first|refine bH ?_)
   refine Stop.out ?_;refine az rfl 54 _ _ rfl rfl _ rfl #[.bool cb,.string cn,.string Am,.string An,.slice va vn vc,.slice la ln lc,.slice Al ck Aa] rfl _ _ Aq.out rfl (by kernel_rfl) (MJ _ _ _ _ _ _ _ _ _ _ _ _ _) ?_;have Au:ae (w4.setRow (w.heap.size+1) #[.bool cb,.string cn,.string Am,.string An,.slice va vn vc,.slice la ln lc,.slice Al ck Aa]) (w.heap.size+1) #[.bool cb,.string cn,.string Am,.string An,.slice va vn vc,.slice la ln lc,.slice Al ck Aa] 54:=setRow_heap _ _ _ _ _ _ Aq.out;obtain⟨y0,y1,y2,y3,y4,y5,y6⟩:=Au.m7 rfl;go_wp2;refine bodyPost_ret (v:=.tuple #[.int .i64 (xG R),.agg #[.bool cb,.string cn,.string Am,.string An,.slice va vn vc,.slice la ln lc,.slice Al ck Aa]]) (by simp[results,Tryz.results89,go_sem,y0,y1,y2,y3,y4,y5,y6]) rfl ?_;exact⟨Ak.out.2.1.setRowNew (by omega) _,(setRow_other _ _ _ _ (by omega)).trans Ak.out.1,_,rfl,Bz (B:=w5.heap.size) (by omega) (by omega) Ak.out.2.2.1,Ak.out.2.2.2⟩
theorem zR(g:Nat)(oa:Option Addr)(n oc:Nat)(t:ag)(r:List ag)(lv:Value)(stop:Int)(last:Bool)(w:World)(h:iK w g (.slice oa n oc) 0 0)(hr:aH w lv (t::r))(ho:∀b,lv.ownBlock=some b->b<w.heap.size)(hT:jk w)(hn:(t::r).length<=900000)(hsh:∀u∈(t::r),u.text.size<=1048576)(hq:∀u∈(t::r),u.kind=3->jD u.text≠none)(hB:lI t nW=true\/¬t.kind=1) :
  Calls Tryz.prog 89 #[.pointer (some ⟨g,0,none⟩),iE lv stop last] w (kM g (.slice oa n oc) (aY n (t::r) stop last) w):=by
 obtain⟨ra,rc,rfl,AI,AJ,-⟩:=hr.len;obtain⟨N,hN⟩:=exq ((t::r).length);have A6:N<=(t::r).length/\(t::r).length<=N:=by omega
 rw[<-hN] at hr AI ho ⊢;unfold maxLen at AJ;have HN:=Hh hN;clear hN;obtain⟨R,hR⟩:=exq (aY n (t::r) stop last);have HR:=Hh hR;rw[<-hR];clear hR;have Aj:=h.lt;have AD:Below w.heap.size w ((w.alloc (.cells (dK (.slice ra N rc) stop last) 86)).alloc (.cells aj.toArray 54)):=((Below.refl _ w).alloc lz _).alloc (by simp) _;have kA:=(ae.new w (dK (.slice ra N rc) stop last) 86).alloc (.cells aj.toArray 54);have kB:=ae.new (w.alloc (.cells (dK (.slice ra N rc) stop last) 86)) aj.toArray 54;simp only[World.size_alloc] at kB;have AE:((w.alloc (.cells (dK (.slice ra N rc) stop last) 86)).alloc (.cells aj.toArray 54)).heap.size=w.heap.size+2:=by simp
 have HS:=Hh (show OJ w ((w.alloc (.cells (dK (.slice ra N rc) stop last) 86)).alloc (.cells aj.toArray 54)) (dK (.slice ra N rc) stop last) from ⟨AD,kA,kB,by rw[AE];exact Nat.le_refl _⟩);have H0:=Jh h (And.intro hr (And.intro ho hT));clear AD kA kB AE h hr ho hT;simp only[List.length_cons] at A6 hn;have Bd:1<=N:=by omega
 have Be:((N:Int)==0)=false:=by rw[beq_eq_false_iff_ne];omega
 obtain⟨bb,ob,he,AK,c0,c1,c2⟩:=(H0.out.2.1.below HS.out.1 lz).get (j:=0) (by simp);cases he
 simp only[Nat.zero_mul,Nat.add_zero,List.getElem_cons_zero] at c0 c1 c2;have A7:=o6 t nW ((w.alloc (.cells (dK (.slice (some ⟨bb,ob,none⟩) N rc) stop last) 86)).alloc (.cells aj.toArray 54));have Ab:=HR.out;simp only[aY] at Ab;rw[pJ] at Ab;have AC:=Hh Ab;clear Ab HR;have Bb:=Jh hsh hq;have Bg:=hsh t (by simp);clear hsh hq;simp only[jb] at A7;go_enter Tryz.func89,Tryz.ntmps89;go_wp2_with fail;refine A7.mono ?_;generalize (w.alloc (.cells (dK (.slice (some ⟨bb,ob,none⟩) N rc) stop last) 86)).alloc (.cells aj.toArray 54)=w1 at *;clear A7 c0 c1 c2 AK;rintro _ w2 ⟨rfl,hb2⟩;have Ai:=Hh (HS.out.step hb2);clear hb2 HS;have Ab:=AC.out;clear AC
 by_cases hsg:lI t nW=true
 ·rw[if_pos hsg] at Ab
  rw[hsg];clear hsg
  by_cases h1:n=1
  ·rw[if_pos h1] at Ab
   have AM:((n:Int)==1)=true:=by rw[beq_iff_eq];omega
   have Al:=Hh Ab;clear Ab h1;have Ao:=(H0.out.1.below Ai.out.1 Aj).cell 0 _ rfl;have An:=(H0.out.1.below Ai.out.1 Aj).lt;obtain⟨Aa,k0,k1,AB⟩:=Ai.out;have hL:=jo g (.slice oa n oc) (t::r) (.slice (some ⟨bb,ob,none⟩) N rc) stop last (0) _ (H0.out.1.below Aa Aj) (H0.out.2.1.below Aa lz) (by simp;omega);rw[<-Al.out,show (((0:Nat)):Int)=0 from rfl] at hL;have H9:Hid (xG R=0/\zL R=bW):=Hh (by rw[Al.out];exact jq _ _ _ _);simp only[iE] at hL;have A8:=k0.lt;have An:=(H0.out.1.below Aa Aj).lt;have Ao:=(H0.out.1.below Aa Aj).cell 0 _ rfl;obtain⟨Ac,Af,Ad,Ag,Ae,Ah⟩:=k0.n3 rfl;clear Aa k0 k1;go_wp2_with fail;refine hL.mono ?_;clear hL Ac Ad Ae Af Ag Ah Ao An;rintro _ w4 ⟨rfl,hs4,p4⟩;obtain⟨Aa,k0,k1,-⟩:=Ai.out;have q4:=hs4.cells k1 (by omega);have A9:=q4.lt;have Ak:=Jh p4 ((aB.of Aa).trans hs4);have Am:=Hh q4;obtain⟨Ar,Ay,As,Az,At,A0,Au,A1,Av,A2,Aw,A3,Ax,-⟩:=q4.n7 rfl
   have A4:=q4.frozen 6;clear q4 p4 hs4 Aa k0 k1;go_wp2_with fail;have Ap:=Am.out.put aj 0;obtain⟨y0,y1,y2,y3,y4,y5,y6⟩:=Ap.m7 rfl;simp only[ak] at y0 y1 y2 y3 y4 y5 y6;refine bodyPost_ret (v:=.tuple #[.int .i64 0,.agg #[.bool false,.string ⟨#[]⟩,.string ⟨#[]⟩,.string ⟨#[]⟩,.slice none 0 0,.slice none 0 0,.slice none 0 0]]) (by simp[results,Tryz.results89,go_sem,y0,y1,y2,y3,y4,y5,y6]) rfl ?_;show kM g (.slice oa n oc) R w _ (ak w4 (w.heap.size+1) 0 aj);exact⟨Ak.out.2.setAllNew (by omega) _,Ak.out.1.setAllOther (by omega),aj,by rw[H9.out.1],(by rw[H9.out.2];exact aP.zero _ _),rfl⟩
  ·rw[if_neg h1] at Ab
   have AM:((n:Int)==1)=false:=by rw[beq_eq_false_iff_ne];omega
   simp only[List.length_cons] at Ab
   by_cases h2:1<r.length+1
   ·rw[if_pos h2] at Ab
    have hd:decide ((1:Int)<(N:Int))=true:=by rw[decide_eq_true_iff];omega
    have Al:=Hh Ab;clear Ab h1 h2;obtain⟨Aa,k0,k1,AB⟩:=Ai.out;have hL:=jo g (.slice oa n oc) (t::r) (.slice (some ⟨bb,ob,none⟩) N rc) stop last (1) _ (H0.out.1.below Aa Aj) (H0.out.2.1.below Aa lz) (by simp;omega);rw[<-Al.out,show (((1:Nat)):Int)=1 from rfl] at hL;have H9:Hid (xG R=0/\zL R=bW):=Hh (by rw[Al.out];exact jq _ _ _ _);simp only[iE] at hL;have A8:=k0.lt;have An:=(H0.out.1.below Aa Aj).lt;have Ao:=(H0.out.1.below Aa Aj).cell 0 _ rfl;obtain⟨Ac,Af,Ad,Ag,Ae,Ah⟩:=k0.n3 rfl;clear Aa k0 k1;go_wp2_with fail;refine hL.mono ?_;clear hL Ac Ad Ae Af Ag Ah Ao An;rintro _ w4 ⟨rfl,hs4,p4⟩;obtain⟨Aa,k0,k1,-⟩:=Ai.out;have q4:=hs4.cells k1 (by omega);have A9:=q4.lt;have Ak:=Jh p4 ((aB.of Aa).trans hs4);have Am:=Hh q4;obtain⟨Ar,Ay,As,Az,At,A0,Au,A1,Av,A2,Aw,A3,Ax,A4⟩:=q4.n7 rfl;clear q4 p4 hs4 Aa k0 k1;go_wp2_with fail;have Ap:=Am.out.put aj 0
    obtain⟨y0,y1,y2,y3,y4,y5,y6⟩:=Ap.m7 rfl;simp only[ak] at y0 y1 y2 y3 y4 y5 y6;refine bodyPost_ret (v:=.tuple #[.int .i64 0,.agg #[.bool false,.string ⟨#[]⟩,.string ⟨#[]⟩,.string ⟨#[]⟩,.slice none 0 0,.slice none 0 0,.slice none 0 0]]) (by simp[results,Tryz.results89,go_sem,y0,y1,y2,y3,y4,y5,y6]) rfl ?_;show kM g (.slice oa n oc) R w _ (ak w4 (w.heap.size+1) 0 aj);exact⟨Ak.out.2.setAllNew (by omega) _,Ak.out.1.setAllOther (by omega),aj,by rw[H9.out.1],(by rw[H9.out.2];exact aP.zero _ _),rfl⟩
   ·rw[if_neg h2] at Ab
    have hd:decide ((1:Int)<(N:Int))=false:=by rw[decide_eq_false_iff_not];omega
    have Al:=Hh Ab;have H9:Hid (xG R=5/\zL R=bW):=Hh (by rw[Al.out];exact⟨rfl,rfl⟩);clear Ab h1 h2;obtain⟨Aa,k0,k1,AB⟩:=Ai.out;have A5:=H0.out.1.below Aa Aj;have Ao:=A5.cell 0 _ rfl;have An:=A5.lt;have A8:=k0.lt;have A9:=k1.lt;have p4:iK w2 g (.slice oa n oc) (Fq R).1 (Fq R).2:=by rw[Al.out];exact A5
    have Ak:=Jh p4 (aB.of (g:=g) Aa);have Am:=Hh k1;obtain⟨Ac,Af,Ad,Ag,Ae,Ah⟩:=k0.n3 rfl;obtain⟨AN,AU,AO,AV,AP,AW,AQ,AX,AR,AY,AS,AZ,AT,Ba⟩:=k1.n7 rfl;clear Aa k0 k1 A5 p4;go_wp2_with fail;have Ap:=Am.out.put aj 0;obtain⟨y0,y1,y2,y3,y4,y5,y6⟩:=Ap.m7 rfl;simp only[ak] at y0 y1 y2 y3 y4 y5 y6;refine bodyPost_ret (v:=.tuple #[.int .i64 5,.agg #[.bool false,.string ⟨#[]⟩,.string ⟨#[]⟩,.string ⟨#[]⟩,.slice none 0 0,.slice none 0 0,.slice none 0 0]]) (by simp[results,Tryz.results89,go_sem,y0,y1,y2,y3,y4,y5,y6]) rfl ?_;show kM g (.slice oa n oc) R w _ (ak w2 (w.heap.size+1) 0 aj);exact⟨Ak.out.2.setAllNew (by omega) _,Ak.out.1.setAllOther (by omega),aj,by rw[H9.out.1],(by rw[H9.out.2];exact aP.zero _ _),rfl⟩
 ·rw[if_neg hsg] at Ab
  have Aq:lI t nW=false:=by simpa using hsg
  have AA:=hsg;rw[Aq];clear hsg Aq;obtain⟨Bc,Bh,AG,AL,c0,c1,c2⟩:=(H0.out.2.1.below Ai.out.1 lz).get (j:=0) (by simp);cases AG
  simp only[Nat.zero_mul,Nat.add_zero,List.getElem_cons_zero] at c0 c1 c2
  by_cases hk1:t.kind=1
  ·exact absurd hk1 (by exact hB.resolve_left AA)
  ·rw[if_pos (by simpa using hk1)] at Ab
   have Bf:(t.kind != 1)=true:=by simpa using hk1
   have Al:=Hh Ab;have AH:=Ai.out.2.1.lt;have AF:=Ai.out.2.1.cell 0 _ rfl;clear Ab hk1;obtain⟨Aa,k0,k1,AB⟩:=Ai.out;have hL:=jo g (.slice oa n oc) (t::r) (.slice (some ⟨bb,ob,none⟩) N rc) stop last (0) _ (H0.out.1.below Aa Aj) (H0.out.2.1.below Aa lz) (by simp;omega);rw[<-Al.out,show (((0:Nat)):Int)=0 from rfl] at hL;have H9:Hid (xG R=0/\zL R=bW):=Hh (by rw[Al.out];exact jq _ _ _ _);simp only[iE] at hL;have A8:=k0.lt;have An:=(H0.out.1.below Aa Aj).lt;have Ao:=(H0.out.1.below Aa Aj).cell 0 _ rfl;obtain⟨Ac,Af,Ad,Ag,Ae,Ah⟩:=k0.n3 rfl;clear Aa k0 k1;go_wp2_with fail;refine hL.mono ?_;clear hL Ac Ad Ae Af Ag Ah Ao An;rintro _ w4 ⟨rfl,hs4,p4⟩;obtain⟨Aa,k0,k1,-⟩:=Ai.out;have q4:=hs4.cells k1 (by omega);have A9:=q4.lt;have Ak:=Jh p4 ((aB.of Aa).trans hs4);have Am:=Hh q4;obtain⟨Ar,Ay,As,Az,At,A0,Au,A1,Av,A2,Aw,A3,Ax,A4⟩:=q4.n7 rfl;clear q4 p4 hs4 Aa k0 k1
   go_wp2_with fail;have Ap:=Am.out.put aj 0;obtain⟨y0,y1,y2,y3,y4,y5,y6⟩:=Ap.m7 rfl;simp only[ak] at y0 y1 y2 y3 y4 y5 y6;refine bodyPost_ret (v:=.tuple #[.int .i64 0,.agg #[.bool false,.string ⟨#[]⟩,.string ⟨#[]⟩,.string ⟨#[]⟩,.slice none 0 0,.slice none 0 0,.slice none 0 0]]) (by simp[results,Tryz.results89,go_sem,y0,y1,y2,y3,y4,y5,y6]) rfl ?_;show kM g (.slice oa n oc) R w _ (ak w4 (w.heap.size+1) 0 aj);exact⟨Ak.out.2.setAllNew (by omega) _,Ak.out.1.setAllOther (by omega),aj,by rw[H9.out.1],(by rw[H9.out.2];exact aP.zero _ _),rfl⟩
theorem KZ(g:Nat)(oa:Option Addr)(n oc:Nat)(row:List ag)(lv:Value)(stop:Int)(last:Bool)(w:World)(h:iK w g (.slice oa n oc) 0 0)(hr:aH w lv row)(ho:∀b,lv.ownBlock=some b->b<w.heap.size)(hT:jk w)(hn:row.length<=900000)(hsh:∀t∈row,t.text.size<=1048576)(hq:∀t∈row,t.kind=3->jD t.text≠none) :
  Calls Tryz.prog 89 #[.pointer (some ⟨g,0,none⟩),iE lv stop last] w (kM g (.slice oa n oc) (aY n row stop last) w):=by
 cases row with
 |nil=>exact KY g oa n oc lv stop last w h hr ho hT hn hsh hq
 |cons t r=>
  by_cases h1:lI t nW=true
  ·exact zR g oa n oc t r lv stop last w h hr ho hT hn hsh hq (.inl h1)
  ·by_cases h2:t.kind=1
   ·exact KX g oa n oc t r lv stop last w h hr ho hT hn hsh hq (by simpa using h1) h2
   ·exact zR g oa n oc t r lv stop last w h hr ho hT hn hsh hq (.inr h2)
def Ml(xs:List Value):Nat->List Value->List Value
 |_,[]=>xs
 |o,v::r=>Ml (xs.set o v) (o+1) r
theorem o7:∀(vs zs ts:List Value),zs.length=vs.length->Ml (ts++zs) ts.length vs=ts++vs
 |[],[],ts,_=>rfl
 |[],_::_,_,h=>by simp at h
 |_::_,[],_,h=>by simp at h
 | v::r,z::zs,ts,h=>by
  have ih:=o7 r zs (ts++[v]) (by simpa using h);simp only[List.length_append,List.length_cons,List.length_nil,List.append_assoc,List.cons_append,List.nil_append] at ih;rw[Ml,List.set_append_right _ _ lz,Nat.sub_self,List.set_cons_zero];exact ih
theorem nD{base g n cap size:Nat}{e:TypeId}:∀(vs:List Value) (o:Nat) {w:World} {xs:List Value},w.ownsRow base e size (.slice (some ⟨g,0,none⟩) n cap) n xs->(w.setCells g o vs).ownsRow base e size (.slice (some ⟨g,0,none⟩) n cap) n (Ml xs o vs)
 |[],_,_,_,h=>h
 |v::r,o,_,_,h=>nD r (o+1) (h.stored o v).1
theorem kG(g:Nat):∀(vs:List Value) (o:Nat) (w:World),w.grownBy (w.setCells g o vs) (some g)
 |[],_,w=>⟨rfl,rfl,rfl,Nat.le_refl _,fun _ _ _=>rfl⟩
 |v::r,o,w=>World.grownBy.trans (b:=w.setCell ⟨g,o,none⟩ v) ⟨rfl,rfl,rfl,by simp[World.setCell],fun k _ hk=>heap_setCell_other w ⟨g,o,none⟩ k v (fun e=>hk (by simp[e]))⟩ (kG g r (o+1) _)
section
variable {P:Program}
end
theorem qX:∀u∈aj,u.oneCell'=true:=by
 intro u hu;simp[aj] at hu
 rcases hu with rfl|rfl|rfl|rfl|rfl|rfl|rfl<;>rfl
theorem F6{n:Nat}(w:World)(hw:w.heap.size=n)(j:Nat)(u:Value)(hu:aj[j]?=some u):(w.alloc (.cells aj.toArray 54)).cell? ⟨n,j,none⟩=some u:=by
 subst hw;rw[World.cell?_alloc_new]
 simpa using hu
theorem Ca(w:World)(o1 o2:Obj):((w.alloc o1).alloc o2).heap.size=w.heap.size+2:=by
 rw[World.size_alloc,World.size_alloc]
theorem OA{w:World}{base k n ob oc:Nat}{v:Value}{ts os:List Value}(o:Obj)(hb:base<=w.heap.size)(h1:w.ownsRow base 54 7 v k ts)(h2:w.ownsRow base 54 7 (.slice (some ⟨ob,0,none⟩) n oc) n os) :
  (((w.alloc o).alloc (.cells aj.toArray 54)).drew.drew.ownsRow base 54 7 v k ts)/\(((w.alloc o).alloc (.cells aj.toArray 54)).drew.drew.ownsRow base 54 7 (.slice (some ⟨ob,0,none⟩) n oc) n os)/\
  (∀(j:Nat) (u:Value),aj[j]?=some u->((w.alloc o).alloc (.cells aj.toArray 54)).drew.drew.cell? ⟨w.heap.size+1,j,none⟩=some u)/\base<=((w.alloc o).alloc (.cells aj.toArray 54)).drew.drew.heap.size/\((w.alloc o).alloc (.cells aj.toArray 54)).drew.drew.heap.size=w.heap.size+2/\Below w.heap.size w ((w.alloc o).alloc (.cells aj.toArray 54)).drew.drew:=
 ⟨show ((w.alloc o).alloc (.cells aj.toArray 54)).ownsRow _ _ _ _ _ _ from (h1.alloc _).alloc _,show ((w.alloc o).alloc (.cells aj.toArray 54)).ownsRow _ _ _ _ _ _ from (h2.alloc _).alloc _,
  fun j u hu=>F6 (w.alloc o) (World.size_alloc w _) j u hu,Nat.le_trans hb (Nat.le_trans (Nat.le_add_right _ 2) (Nat.le_of_eq (Ca w o (.cells aj.toArray 54)).symm)),Ca w o _,((((Below.refl _ w).alloc lz _).alloc (by simp) _).drew).drew⟩
theorem gu{w:World}{base k g cap:Nat}{ts:List Value}(h:w.ownsRow base 54 7 (.slice (some ⟨g,0,none⟩) (k+1) cap) (k+1) (ts++aj))(hl:ts.length=k*7)(j:Nat)(u:Value)(hu:aj[j]?=some u):w.cell? ⟨g,k*7+j,none⟩=some u:=by
 have hj:j<7:=(List.getElem?_eq_some_iff.1 hu).1;rw[h.cellAt _ (by omega),List.getElem?_append_right (by omega),show k*7+j-ts.length=j by omega];exact hu
theorem Bf{w:World}{base k g cap:Nat}{ts:List Value}(h:w.ownsRow base 54 7 (.slice (some ⟨g,0,none⟩) (k+1) cap) (k+1) (ts++aj))(hl:ts.length=k*7):w.cell? ⟨g,k*7,none⟩=some (.bool false):=gu h hl 0 _ rfl
theorem Nq{v:Value}{g ob H n:Nat}(h:v.ownBlock=some g\/g=H)(hH:H=n+2)(hne:v.ownBlock≠some ob)(hl:ob<n):¬g=ob/\(v.ownBlock=some g\/g=n+2):=
 ⟨fun e=>h.elim (fun q=>hne (by rw[q,e])) (fun q=>by omega),h.imp id (fun q=>q.trans hH)⟩
def L9(base ob oc M k:Nat)(os ts xs:List Value)(tv:Value)(w:World)(r:Ending)(w':World):Prop:=
 r=.returned (.tuple #[])/\∃g2 cap2,w'.ownsRow base 54 7 (.slice (some ⟨g2,0,none⟩) (k+1) cap2) (k+1) (ts++xs)/\
  w'.ownsRow base 54 7 (.slice (some ⟨ob,0,none⟩) (M+1) oc) (M+1) (os.set (M*7+6) (.slice (some ⟨g2,0,none⟩) (k+1) cap2))/\
  (tv.ownBlock=some g2\/w.heap.size<=g2)/\Below 0 w w'/\(∀b,b<w.heap.size->b≠ob->tv.ownBlock≠some b->w'.heap[b]?=w.heap[b]?)
section
variable {base ob oc M N k g3 cap3:Nat} {os ts xs:List Value} {tv:Value} {w W w3:World}
theorem Ef{b:Nat}(hat:tv.ownBlock=some g3\/g3=w.heap.size+2)(h1:b<w.heap.size)(h2:tv.ownBlock≠some b):b≠g3:=fun e=>hat.elim (fun q=>h2 (by rw[q,e])) (fun q=>by omega)
theorem LY(hx:xs.length=7)(HN:N=M+1)(hL:ts.length=k*7)(hne:¬g3=ob)(hW:Below w.heap.size w W)(h1:w3.ownsRow base 54 7 (.slice (some ⟨g3,0,none⟩) (k+1) cap3) (k+1) (ts++aj))(h2:W.grownBy w3 tv.ownBlock)(hat:tv.ownBlock=some g3\/g3=w.heap.size+2)
  (h3:w3.ownsRow base 54 7 (.slice (some ⟨ob,0,none⟩) N oc) N os):L9 base ob oc M k os ts xs tv w (.returned (.tuple #[])) ((w3.setCells g3 (k*7) xs).setCell ⟨ob,M*7+6,none⟩ (.slice (some ⟨g3,0,none⟩) (k+1) cap3)):=by
 subst HN;have a1:=nD xs (k*7) h1;rw[<-hL,o7 xs aj ts (by rw[hx];rfl),hL] at a1;have a2:=kG g3 xs (k*7) w3;have a3:=h3.kept a2 (.inr (fun e=>hne (by simpa [Value.ownBlock] using e.symm)));obtain⟨a4,a5⟩:=a3.stored (M*7+6) (.slice (some ⟨g3,0,none⟩) (k+1) cap3);refine⟨rfl,g3,cap3,a1.kept a5 (.inr (fun e=>hne (by simpa [Value.ownBlock] using e))),a4,hat.imp id (fun q=>by omega),?_,fun b hb1 hb2 hb3=>?_⟩
 ·exact ((((hW.mono (Nat.zero_le _)).grown h2 (Nat.zero_le _) (fun _ _=>Nat.zero_le _)).grown a2 (Nat.zero_le _) (fun _ _=>Nat.zero_le _)).grown a5 (Nat.zero_le _) (fun _ _=>Nat.zero_le _))
 ·have z1:=hW.size
  have z2:=h2.size;have z3:=a2.size;rw[a5.block b (by omega) (fun e=>hb2 (Option.some.inj e)),a2.block b (by omega) (fun e=>Ef hat hb1 hb3 (Option.some.inj e)),h2.block b (by omega) (fun e=>hb3 e.symm)];exact hW.block b hb1
theorem LX(hx:xs.length=7)(HN:N=M+1)(hL:ts.length=k*7)(hne:¬g3=ob)(hW:Below w.heap.size w W)(h1:w3.ownsRow base 54 7 (.slice (some ⟨g3,0,none⟩) (k+1) cap3) (k+1) (ts++aj))(h2:W.grownBy w3 tv.ownBlock)(hat:tv.ownBlock=some g3\/g3=w.heap.size+2)
  (h3:w3.ownsRow base 54 7 (.slice (some ⟨ob,0,none⟩) N oc) N os):L9 base ob oc M k os ts xs tv w (.returned (.tuple #[])) ((w3.setCell ⟨ob,M*7+6,none⟩ (.slice (some ⟨g3,0,none⟩) (k+1) cap3)).setCells g3 (k*7) xs):=by
 subst HN;obtain⟨a4,a5⟩:=h3.stored (M*7+6) (.slice (some ⟨g3,0,none⟩) (k+1) cap3);have a1:=nD xs (k*7) (h1.kept a5 (.inr (fun e=>hne (by simpa [Value.ownBlock] using e))));rw[<-hL,o7 xs aj ts (by rw[hx];rfl),hL] at a1;have a2:=kG g3 xs (k*7) (w3.setCell ⟨ob,M*7+6,none⟩ (.slice (some ⟨g3,0,none⟩) (k+1) cap3));refine⟨rfl,g3,cap3,a1,a4.kept a2 (.inr (fun e=>hne (by simpa [Value.ownBlock] using e.symm))),hat.imp id (fun q=>by omega),?_,fun b hb1 hb2 hb3=>?_⟩
 ·exact ((((hW.mono (Nat.zero_le _)).grown h2 (Nat.zero_le _) (fun _ _=>Nat.zero_le _)).grown a5 (Nat.zero_le _) (fun _ _=>Nat.zero_le _)).grown a2 (Nat.zero_le _) (fun _ _=>Nat.zero_le _))
 ·have z1:=hW.size
  have z2:=h2.size;have z3:=a5.size;rw[a2.block b (by omega) (fun e=>Ef hat hb1 hb3 (Option.some.inj e)),a5.block b (by omega) (fun e=>hb2 (Option.some.inj e)),h2.block b (by omega) (fun e=>hb3 e.symm)];exact hW.block b hb1
theorem Oz{a0 a1 a2 a3 a4 a5 a6:Value}(HN:N=M+1)(hL:ts.length=k*7)(hne:¬g3=ob)(h1:w3.ownsRow base 54 7 (.slice (some ⟨g3,0,none⟩) (k+1) cap3) (k+1) (ts++aj))(h2:W.grownBy w3 tv.ownBlock)(hat:tv.ownBlock=some g3\/g3=w.heap.size+2)
  (h3:w3.ownsRow base 54 7 (.slice (some ⟨ob,0,none⟩) N oc) N os) (hW:Below w.heap.size w W):L9 base ob oc M k os ts [a0,a1,a2,a3,a4,a5,a6] tv w (.returned (.tuple #[])) ((((((((w3.setCell ⟨g3,k*7,none⟩ a0).setCell ⟨g3,k*7+1,none⟩ a1).setCell ⟨g3,k*7+2,none⟩ a2).setCell ⟨g3,k*7+3,none⟩ a3).setCell ⟨g3,k*7+4,none⟩ a4).setCell ⟨g3,k*7+5,none⟩ a5).setCell ⟨g3,k*7+6,none⟩ a6).setCell ⟨ob,M*7+6,none⟩ (.slice (some ⟨g3,0,none⟩) (k+1) cap3)):=
 LY (xs:=[a0,a1,a2,a3,a4,a5,a6]) rfl HN hL hne hW h1 h2 hat h3
theorem Oy{a0 a1 a2 a3 a4 a5 a6:Value}(HN:N=M+1)(hL:ts.length=k*7)(hne:¬g3=ob)(h1:w3.ownsRow base 54 7 (.slice (some ⟨g3,0,none⟩) (k+1) cap3) (k+1) (ts++aj))(h2:W.grownBy w3 tv.ownBlock)(hat:tv.ownBlock=some g3\/g3=w.heap.size+2)
  (h3:w3.ownsRow base 54 7 (.slice (some ⟨ob,0,none⟩) N oc) N os) (hW:Below w.heap.size w W):L9 base ob oc M k os ts [a0,a1,a2,a3,a4,a5,a6] tv w (.returned (.tuple #[])) ((((((((w3.setCell ⟨ob,M*7+6,none⟩ (.slice (some ⟨g3,0,none⟩) (k+1) cap3)).setCell ⟨g3,k*7,none⟩ a0).setCell ⟨g3,k*7+1,none⟩ a1).setCell ⟨g3,k*7+2,none⟩ a2).setCell ⟨g3,k*7+3,none⟩ a3).setCell ⟨g3,k*7+4,none⟩ a4).setCell ⟨g3,k*7+5,none⟩ a5).setCell ⟨g3,k*7+6,none⟩ a6):=
 LX (xs:=[a0,a1,a2,a3,a4,a5,a6]) rfl HN hL hne hW h1 h2 hat h3
end
theorem Nr(g ob oc M k base:Nat)(a e:Int)(os ts:List Value)(tv:Value)(xb:Bool)(xn xo xs:ByteArray)(va:Option Addr)(vn vc:Nat)(la:Option Addr)(ln lc:Nat)(ia:Option Addr)(ik ic:Nat)(w:World)
  (h:iK w g (.slice (some ⟨ob,0,none⟩) (M+1) oc) a e) (ho:w.ownsRow base 54 7 (.slice (some ⟨ob,0,none⟩) (M+1) oc) (M+1) os) (ht:os[M*7+6]?=some tv) (hts:w.ownsRow base 54 7 tv k ts)
  (hne:tv.ownBlock≠some ob) (hgo:g≠ob) (hgt:tv.ownBlock≠some g) (hM:M<=1000000) (hk:k<=1000000) (hb:base<=w.heap.size) :
  Calls Tryz.prog 90 #[.pointer (some ⟨g,0,none⟩),.agg #[.bool xb,.string xn,.string xo,.string xs,.slice va vn vc,.slice la ln lc,.slice ia ik ic]] w (L9 base ob oc M k os ts [.bool xb,.string xn,.string xo,.string xs,.slice va vn vc,.slice la ln lc,.slice ia ik ic] tv w):=by
 obtain⟨ta,tc,rfl⟩:∃ta tc,tv=.slice ta k tc:=by
  rcases hts.2 with ⟨h1,h2⟩|⟨g',cap',cur,h1,-⟩
  ·exact⟨none,0,by rw[h1,h2]⟩
  ·exact⟨_,_,h1⟩
 obtain⟨i0,Ag,Ad⟩:=Option.map_eq_some_iff.1 Tryz.infoItm;simp only[Prod.mk.injEq] at Ad;obtain⟨Ai,Aj,Ak⟩:=Ad;have Ap:=h.lt;have Ah:=(World.ownsRow.lt ho ob rfl).2;obtain⟨N,hN⟩:=exq (M+1);have Ae:N<=M+1/\M+1<=N:=by omega
 rw[<-hN] at h ho;have HN:=Hh hN;clear hN;have Am:(N:Int)-1=(M:Int):=by omega
 have Al:M<N:=by omega
 have An:w.cell? ⟨ob,M*7+6,none⟩=some (.slice ta k tc):=by rw[ho.cellAt _ (by omega)];exact ht
 have Ao:w.frozen? ⟨ob,M*7+6,none⟩=false:=ho.frozenAt _;have HH:=Jh h (And.intro ho hts);have Ar:=h.cell 0 _ rfl;clear h ho hts;go_enter Tryz.func90,Tryz.ntmps90;go_wp2_with fail;have HL:=Hh HH.out.2.2.1;have HQ:=Hh (OA (.cells #[.bool xb,.string xn,.string xo,.string xs,.slice va vn vc,.slice la ln lc,.slice ia ik ic] 54) hb HH.out.2.2 HH.out.2.1);have Aq:(k:Int)<(k:Int)+1:=by omega
 go_region
 all_goals
  go_wp2_with fail
 go_region_law (first
  |(refine step_append_lies _ rfl _ _ 42 rfl base 54 i0 _ 7 128 Tryz.underlying42 Ag Ai Aj Ak rfl (by decide) (.slice ta k tc) k ts (by rfl) (by exact HQ.out.1) ⟨w.heap.size+1,0,none⟩ 1 1 aj (by rfl) rfl (by intro j u hu;rw[Addr.add_lit,Nat.zero_add];exact HQ.out.2.2.1 j u hu) qX (by omega) (by unfold maxLen;omega) (by omega) (by exact HQ.out.2.2.2.1) _ rfl ?_;intro g3 cap3 w3 hown3 hgrow3 hat3 hlt3;have Ab:=HQ.out.2.1.kept hgrow3 (.inr (fun e=>hne e.symm));have Az:=(Ab.cellAt (M*7+6) (by omega)).trans ht;have A0:=Ab.frozenAt (M*7+6);have m0:=Bf hown3 HL.out;have As:=hown3.frozenAt (k*7);have m1:=gu hown3 HL.out 1 _ rfl;have At:=hown3.frozenAt (k*7+1);have m2:=gu hown3 HL.out 2 _ rfl;have Au:=hown3.frozenAt (k*7+2);have m3:=gu hown3 HL.out 3 _ rfl;have Av:=hown3.frozenAt (k*7+3);have m4:=gu hown3 HL.out 4 _ rfl;have Aw:=hown3.frozenAt (k*7+4);have m5:=gu hown3 HL.out 5 _ rfl;have Ax:=hown3.frozenAt (k*7+5);have m6:=gu hown3 HL.out 6 _ rfl;have Ay:=hown3.frozenAt (k*7+6);have Aa:=Nq hat3 HQ.out.2.2.2.2.1 hne Ah;have Ac:=Aa.1;have Af:¬ob=g3:=fun e=>Ac e.symm;have HG:=Jh hown3 (And.intro hgrow3 (And.intro Aa.2 Ab));clear hown3 hgrow3 hat3 Ab Aa))
 all_goals
  refine bodyPost_end (v:=.tuple #[]) (by simp[results,Tryz.results90,go_sem]) rfl ?_
 all_goals
  obtain⟨q1,q2,q3,q4⟩:=HG.out
  first
   |(with_reducible refine Oz HN.out HL.out Ac q1 q2 q3 q4 ?_)
   |(with_reducible refine Oy HN.out HL.out Ac q1 q2 q3 q4 ?_)
  exact HQ.out.2.2.2.2.2
end Go.Proofs.YtbcdaaobbebooaaGreatDoor
