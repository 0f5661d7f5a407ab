import Derived.Test.YtbcdaaobbebooaaGreatDoorMgk
set_option linter.unusedSimpArgs false
set_option linter.unusedVariables false
set_option maxRecDepth 100000
set_option maxHeartbeats 20000000
namespace Go.Proofs.YtbcdaaobbebooaaGreatDoor
open Go.RowKit Go.Tab
theorem ny.inn{B g:Nat}{rb:Option Nat}{w:World}{v:Value}{C:List lH}(h:ny B g rb w v C)(hB:B<=w.heap.size)(b:Nat)(hb:w.heap.size<=b):zu B g rb v C b:=
 ⟨Nat.le_trans hB hb,fun e=>by have:=h.gl;omega,fun e=>by have:=h.rl b e;omega,fun e=>by have:=(h.lt (.inl e)).2;omega,fun c hc e=>by have:=(h.lt (.inr ⟨c,hc,e⟩)).2;omega⟩
theorem ny.below{B g:Nat}{rb:Option Nat}{w w':World}{v:Value}{C:List lH}(h:ny B g rb w v C)(hb:Below w.heap.size w w'):ny B g rb w' v C:=
 h.keep hb.size (fun b hl _ _=>hb.block b hl) (fun b e=>⟨.inl e,Nat.lt_of_lt_of_le (h.rl b e) hb.size⟩)
theorem ny.save{B g:Nat}{rb:Option Nat}{w w':World}{v:Value}{C:List lH}(h:ny B g rb w v C)(hb:aC g w w'):ny B g rb w' v C:=
 h.keep hb.1.size (fun b hl h1 _=>hb.2 b hl h1) (fun b e=>⟨.inl e,Nat.lt_of_lt_of_le (h.rl b e) hb.1.size⟩)
def GN(B g:Nat)(rb:Option Nat)(r:List bP×Int×Int)(w:World)(e:Ending)(w':World):Prop:=
 e=.returned (.tuple #[])/\∃v',Pj B g rb w' v' r.1/\iR w' g v' r.2.1 r.2.2/\kW B rb w w'
theorem Ik{B g:Nat}{rb:Option Nat}{w w4:World}{v:Value}{C:List lH}{x:bP}{xs:List Value}{o:Obj}(h:ny B g rb w v C)(hB:B<=w.heap.size)(hg:B<=g)(hs:aC g (w.alloc o) w4)(hin:aN (fun b=>(w.alloc o).heap.size<=b) w4 x xs) :
  ny B g rb w4 v C/\aN (zu B g rb v C) w4 x xs/\kW B rb w w4:=by
 have hA:Below w.heap.size w (w.alloc o):=(Below.refl _ w).alloc lz _;have h1:=h.below hA;refine⟨h1.save hs,aN.move lz (fun _ _ _=>rfl) (fun b hb _=>h1.inn (Nat.le_trans hB hA.size) b hb) _ _ hin,?_,fun b e=>?_⟩
 ·exact (hA.mono hB).trans ⟨hs.1.os,hs.1.tape,hs.1.output,hs.1.size,fun k hk=>hs.2 k (by have:=hA.size;omega) (by omega)⟩
 ·exact (hs.2 b (by have:=h.rl b e;have:=hA.size;omega) (fun q=>h.apart.rg (by rw[e,q]))).trans (hA.block b (h.rl b e))
theorem zG{B g:Nat}{rb:Option Nat}{w w4 w5:World}{v:Value}{C:List lH}{x:bP}{xs:List Value}{a e:Int}{p:Prop}(h:ny B g rb w4 v C/\iR w4 g v a e/\aN (zu B g rb v C) w4 x xs/\kW B rb w w4/\p)(hb:Below w4.heap.size w4 w5)(hB:B<=w.heap.size) :
  ny B g rb w5 v C/\iR w5 g v a e/\aN (zu B g rb v C) w5 x xs/\kW B rb w w5:=
 ⟨h.1.below hb,h.2.1.below hb h.1.gl,aN.below hb _ _ h.2.2.1,h.2.2.2.1.trans hB ⟨hb.mono (Nat.le_trans hB h.2.2.2.1.1.size),fun b e=>hb.block b (h.1.rl b e)⟩⟩
theorem zL{B g n ob oc g3 cap3:Nat}{rb:Option Nat}{w w5 W W':World}{C:List lH}{c:lH}{x:bP}{xs os:List Value}{a e:Int}(h:ny B g rb w5 (.slice (some ⟨ob,0,none⟩) (C.length+1) oc) (C++[c])/\iR w5 g (.slice (some ⟨ob,0,none⟩) (C.length+1) oc) a e/\aN (zu B g rb (.slice (some ⟨ob,0,none⟩) (C.length+1) oc) (C++[c])) w5 x xs/\kW B rb w w5)
  (hg:B<=g) (h6:xs[6]?=some (.slice none 0 0)) (hn:n=C.length+1) (hos:os=(C++[c]).flatMap (·.cs)) (hB:B<=w.heap.size) (hW:Below w5.heap.size w5 W) (hs:W.heap.size=w5.heap.size+1) (hE:yL B g n g3 cap3 a e os xs (.slice (some ⟨ob,0,none⟩) n oc) W W') :
  ny B g rb W' (.slice (some ⟨g3,0,none⟩) (C.length+1+1) cap3) ((C++[c])++[⟨x,xs,.slice none 0 0⟩])/\iR W' g (.slice (some ⟨g3,0,none⟩) (C.length+1+1) cap3) a e/\kW B rb w W':=by
 subst hn;subst hos;obtain⟨e1,e2,e3,e4,e5⟩:=hE;have hf:∀b,b<w5.heap.size->(Value.slice (some ⟨ob,0,none⟩) (C.length+1) oc).ownBlock≠some b->b≠g->W'.heap[b]?=w5.heap[b]?:=fun b hb h1 h2=>(e5 b (by omega) h1 h2).trans (hW.block b hb);have Aa:w5.heap.size<=W'.heap.size:=by have:=e4.size;omega
 have hl:(C++[c]).length=C.length+1:=by simp
 have Ab:=Nat.le_trans hB h.2.2.2.1.size;have hp:=ny.push (g2:=g3) (cap2:=cap3) (c:=⟨x,xs,.slice none 0 0⟩) h.1 (j4.fresh h.2.2.1 h6) rfl (by rw[hl];exact e1) (e3.imp id (fun q=>by omega)) Aa hf;rw[hl] at hp;refine⟨hp,e2,h.2.2.2.trans hB ⟨⟨(e4.os).trans hW.os,(e4.tape).trans hW.tape,(e4.output).trans hW.output,Aa,fun k hk=>hf k (by omega) (fun q=>by have:=(h.1.lt (.inl q)).1;omega) (fun q=>?_)⟩,fun b eb=>hf b (h.1.rl b eb) (fun q=>h.1.apart.vr b q eb) (fun q=>h.1.apart.rg (by rw[eb,q]))⟩⟩;omega
theorem Fv{B g n ob oc g3 cap3:Nat}{rb:Option Nat}{w w5 W W':World}{C:List lH}{c:lH}{x:bP}{xs os:List Value}(h:ny B g rb w5 (.slice (some ⟨ob,0,none⟩) (C.length+1) oc) (C++[c])/\iR w5 g (.slice (some ⟨ob,0,none⟩) (C.length+1) oc) 0 0/\aN (zu B g rb (.slice (some ⟨ob,0,none⟩) (C.length+1) oc) (C++[c])) w5 x xs/\kW B rb w w5)
  (hg:B<=g) (h6:xs[6]?=some (.slice none 0 0)) (hn:n=C.length+1) (hos:os=(C++[c]).flatMap (·.cs)) (hB:B<=w.heap.size) (hW:Below w5.heap.size w5 W) (hs:W.heap.size=w5.heap.size+1) (hE:yL B g n g3 cap3 0 0 os xs (.slice (some ⟨ob,0,none⟩) n oc) W W') :
  GN B g rb (fQ ((C++[c]).map (·.x)) (.begins x)) w (.returned (.tuple #[])) W':=by
 obtain⟨p1,p2,p3⟩:=zL h hg h6 hn hos hB hW hs hE;exact⟨rfl,_,⟨_,by simp[fQ],p1⟩,p2,p3⟩
theorem j4.shape{P:Nat->Prop}{B:Nat}{w:World}{c:lH}(h:j4 P B w c):∃(b:Bool) (n vo vt:ByteArray) (va:Option Addr) (vn vc:Nat) (la:Option Addr) (ln lc:Nat) (ia:Option Addr) (k cap:Nat),c.cs=[.bool b,.string n,.string vo,.string vt,.slice va vn vc,.slice la ln lc,.slice ia k cap]:=by
 obtain⟨b,n,e,ls,vo,vt,vk,lv,L,-,h2,h3,h4,h5,-⟩:=h;obtain⟨va,vn,vc,rfl⟩:=Ad h3;obtain⟨la,lc,rfl,-⟩:=h4.1.len;rcases h5.2 with ⟨q,-⟩|⟨g,cap,cur,q,-⟩
 ·rw[q] at h2;exact⟨_,_,_,_,_,_,_,_,_,_,_,_,_,h2⟩
 ·rw[q] at h2;exact⟨_,_,_,_,_,_,_,_,_,_,_,_,_,h2⟩
theorem JJ{B g ob oc:Nat}{rb:Option Nat}{w:World}{C:List lH}{c:lH}(h:ny B g rb w (.slice (some ⟨ob,0,none⟩) (C.length+1) oc) (C++[c]))(j:Nat)(u:Value)(hu:c.cs[j]?=some u):w.cell? ⟨ob,C.length*7+j,none⟩=some u:=by
 have h7:∀d∈C,d.cs.length=7:=fun d hd=>(h.all d (by simp[hd])).len;have hj:j<7:=by have:=(List.getElem?_eq_some_iff.1 hu).1;rw[(h.all c (by simp)).len] at this;exact this
 have Aa:=h.row;rw[show (C++[c]).length=C.length+1 by simp] at Aa;rw[Aa.cellAt _ (by omega),Dp C c h7 j,hu]
theorem Ev{B g:Nat}{rb:Option Nat}{w w4 w5:World}{v:Value}{C:List lH}{a e:Int}{p:Prop}(h:ny B g rb w4 v C/\iR w4 g v a e/\p/\kW B rb w w4)(hb:Below w4.heap.size w4 w5)(hB:B<=w.heap.size) :
  ny B g rb w5 v C/\iR w5 g v a e/\True/\kW B rb w w5:=
 ⟨h.1.below hb,h.2.1.below hb h.1.gl,trivial,h.2.2.2.trans hB ⟨hb.mono (Nat.le_trans hB h.2.2.2.1.size),fun b e=>hb.block b (h.1.rl b e)⟩⟩
theorem Du{B g ob oc m:Nat}{rb:Option Nat}{w wc:World}{C:List lH}{c:lH}{xs:List Value}{p:Prop}(h:ny B g rb wc (.slice (some ⟨ob,0,none⟩) (C.length+1) oc) (C++[c])/\iR wc g (.slice (some ⟨ob,0,none⟩) (C.length+1) oc) 0 0/\p/\kW B rb w wc)
  (hC0:0<C.length) (hcs:c.cs=xs) (hC:C.length<=900001) (hk:∀d∈C,d.x.items.length<=900000) (hB:B<=w.heap.size) (hg:B<=g) (hm:m=C.length) :
  Calls Tryz.prog 90 #[.pointer (some ⟨g,0,none⟩),.agg xs.toArray] (wc.setCell ⟨g,0,none⟩ (.slice (some ⟨ob,0,none⟩) m oc)).drew fun e w'=>e=.returned (.tuple #[])/\GN B g rb (fQ ((C++[c]).map (·.x)) .fin) w (.returned (.tuple #[])) w':=by
 subst hm;subst hcs;have Aa:wc.heap.size<=(wc.setCell ⟨g,0,none⟩ (.slice (some ⟨ob,0,none⟩) C.length oc)).drew.heap.size:=by show _<=(wc.setCell _ _).heap.size;simp[World.setCell]
 have hf:∀b,b<wc.heap.size->b≠g->(wc.setCell ⟨g,0,none⟩ (.slice (some ⟨ob,0,none⟩) C.length oc)).drew.heap[b]?=wc.heap[b]?:=fun b _ hb=>heap_setCell_other wc ⟨g,0,none⟩ b _ hb;obtain⟨h1,h2⟩:=h.1.pop (w':=(wc.setCell ⟨g,0,none⟩ (.slice (some ⟨ob,0,none⟩) C.length oc)).drew) hC0 Aa hf;have hp:iR (wc.setCell ⟨g,0,none⟩ (.slice (some ⟨ob,0,none⟩) C.length oc)).drew g (.slice (some ⟨ob,0,none⟩) C.length oc) 0 0:=h.2.1.setI 0 _;have Ac:kW B rb wc (wc.setCell ⟨g,0,none⟩ (.slice (some ⟨ob,0,none⟩) C.length oc)).drew:=⟨⟨rfl,rfl,rfl,Aa,fun k hk=>hf k (Nat.lt_of_lt_of_le hk (Nat.le_trans hB h.2.2.2.1.size)) (by omega)⟩,fun b eb=>hf b (h.1.rl b eb) (fun q=>h.1.apart.rg (by rw[eb,q]))⟩;have Ab:=Nat.le_trans hB h.2.2.2.1.size;generalize (wc.setCell ⟨g,0,none⟩ (.slice (some ⟨ob,0,none⟩) C.length oc)).drew=wd at *;rcases List.eq_nil_or_concat C with rfl|⟨C1,d,hCd⟩
 ·simp at hC0
 ·rw[List.concat_eq_append] at hCd
  subst hCd;refine (DV 0 0 h1 hp h2 (by simp at hC;omega) (Nat.le_trans (hk d (by simp)) (by omega)) (Nat.le_trans Ab Aa)).mono ?_;rintro _ w' ⟨rfl,c2,e2,s2,p2,k2⟩;refine⟨rfl,rfl,_,⟨C1++[c2],?_,s2⟩,p2,(h.2.2.2.trans hB Ac).trans hB k2⟩;simp only[fQ,List.map_append,List.map_cons,List.map_nil,List.dropLast_concat,List.getLast?_concat,Option.getD_some,e2];exact jG _ _ _
theorem GV{P:Program}{code:Code}{Q:Exit->Act->World->Prop}{a:Act}{W:World}{Pr:World->Prop}(h:Pr W)(k:∀z,Pr z->Code.wp P code Q a z):Code.wp P code Q a W:=k W h
theorem J8(B g:Nat)(rb:Option Nat)(v:Value)(C:List lH)(c:lH)(row:List ag)(lv:Value)(stop:Int)(last:Bool)(w:World)(hS:ny B g rb w v (C++[c]))(h:iR w g v 0 0)(hr:aH w lv row)(ho:∀b,lv.ownBlock=some b->b<w.heap.size)(hT:jf w)(hn:row.length<=900000)(hsh:∀t∈row,t.text.size<=1048576)(hq:∀t∈row,t.kind=3->jP t.text≠none)
  (hC:C.length<=900000) (hk:∀d∈C++[c],d.x.items.length<=900000) (hB:B<=w.heap.size) (hg:B<=g) :
  Calls Tryz.prog 49 #[.pointer (some ⟨g,0,none⟩),iL lv stop last] w (GN B g rb (bB ((C++[c]).map (·.x)) row stop last) w):=by
 obtain⟨ob,oc,rfl⟩:∃ob oc,v=.slice (some ⟨ob,0,none⟩) (C.length+1) oc:=by
  have Bd:=hS.row;rw[show (C++[c]).length=C.length+1 by simp] at Bd;obtain⟨g',A7,q,-⟩:=World.ownsRow.form Bd (by omega);exact⟨g',A7,q⟩
 rw[jO];have hA:Below w.heap.size w (w.alloc (.cells #[lv,.int .i64 stop,.bool last] 86)):=(Below.refl _ w).alloc lz _;have hK:=KP g (some ⟨ob,0,none⟩) (C.length+1) oc row lv stop last _ (h.below hA hS.gl) (hr.below hA lz) (fun b e=>Nat.lt_of_lt_of_le (ho b e) hA.size) (hT.below hA) hn hsh hq;rw[show ((C++[c]).map (·.x)).length=C.length+1 by simp];have HF:Hid (bn (C.length+1) row stop last=.fin->0<C.length):=Hh (fun q=>by have:=qz q;omega);generalize bn (C.length+1) row stop last=R at *;obtain⟨la,lc,rfl,By,Bz,-⟩:=hr.len;have HH:=Jh hS (And.intro hB (And.intro hg (And.intro hC hk)));clear hS h hr ho hT hn hsh hq hC hk hB hA;generalize row.length=N at *;simp only[iL] at hK;go_enter Tryz.func49,Tryz.ntmps49;go_wp2_with fail;refine hK.mono ?_;clear hK;rintro _ w4 ⟨hsv,p4,cs,rfl,hin,hi6⟩;obtain⟨h4,A4,Bc⟩:=Ik HH.out.1 HH.out.2.1 HH.out.2.2.1 hsv hin;obtain⟨xn,xo,xt,va,vn,vc,Ar,ln,As,ia,ik,ic,rfl⟩:=aN.shape7 hin;simp only[List.getElem?_cons_succ,List.getElem?_cons_zero,Option.some.injEq,Value.slice.injEq] at hi6;obtain⟨rfl,rfl,rfl⟩:=hi6;clear hsv hin;have HX:=Jh h4 (And.intro p4 (And.intro A4 (And.intro Bc trivial)));clear h4 p4 A4 Bc;generalize (zP R).block=xb at *;go_wp2_with (with_reducible first|refine bC ?_)
 refine Stop.out ?_;refine az rfl 54 _ _ rfl rfl _ rfl #[.bool xb,.string xn,.string xo,.string xt,.slice va vn vc,.slice Ar ln As,.slice none 0 0] rfl _ _ (aa.new w4 ak.toArray 54) rfl (by kernel_rfl) (Mk _ _ _ _ _ _ _ _ _ _ _ _ _) ?_;rw[World.setRow_alloc_new];have Ba:Below w4.heap.size w4 (w4.alloc (.cells #[.bool xb,.string xn,.string xo,.string xt,.slice va vn vc,.slice Ar ln As,.slice none 0 0] 54)):=(Below.refl _ w4).alloc lz _;have Aq:aa (w4.alloc (.cells #[.bool xb,.string xn,.string xo,.string xt,.slice va vn vc,.slice Ar ln As,.slice none 0 0] 54)) w4.heap.size #[.bool xb,.string xn,.string xo,.string xt,.slice va vn vc,.slice Ar ln As,.slice none 0 0] 54:=aa.new w4 #[.bool xb,.string xn,.string xo,.string xt,.slice va vn vc,.slice Ar ln As,.slice none 0 0] 54;have HX:=Hh (zG HX.out Ba HH.out.2.1);have Bx:=Aq.lt;generalize w4.alloc (.cells #[.bool xb,.string xn,.string xo,.string xt,.slice va vn vc,.slice Ar ln As,.slice none 0 0] 54)=w5 at *;have HQ:=Hh Aq;clear Ba
 cases R with
 |wrong a e=>
  simp only[xU];clear Aq;go_wp2_with fail;refine bodyPost_end (v:=.tuple #[]) (by simp[results,Tryz.results49,go_sem]) rfl ?_;exact⟨rfl,_,⟨_,rfl,HX.out.1⟩,HX.out.2.1,HX.out.2.2.2⟩
 |empty=>
  simp only[xU];clear Aq;go_wp2_with fail;refine bodyPost_end (v:=.tuple #[]) (by simp[results,Tryz.results49,go_sem]) rfl ?_;exact⟨rfl,_,⟨_,rfl,HX.out.1⟩,HX.out.2.1,HX.out.2.2.2⟩
 |attr x=>
  simp only[xU];have hC:=DV _ _ HX.out.1 HX.out.2.1 HX.out.2.2.1 (Nat.le_trans HH.out.2.2.2.1 (by omega)) (Nat.le_trans (HH.out.2.2.2.2 c (by simp)) (by omega)) (Nat.le_trans HH.out.2.1 HX.out.2.2.2.1.size);obtain⟨Ac,Aj,Ad,Ak,Ae,Al,Af,Am,Ag,An,Ah,Ao,Ai,Ap⟩:=Aq.n7 rfl;clear Aq;go_wp2_with fail;refine hC.mono ?_;clear hC;rintro _ w6 ⟨rfl,c2,e2,s2,p2,k2⟩;have H6:=Jh e2 (And.intro s2 (And.intro p2 k2));clear e2 s2 p2 k2 Ac Ad Ae Af Ag Ah Ai Aj Ak Al Am An Ao Ap;go_wp2_with fail;refine bodyPost_end (v:=.tuple #[]) (by simp[results,Tryz.results49,go_sem]) rfl ?_;refine⟨rfl,_,⟨C++[c2],?_,H6.out.2.1⟩,H6.out.2.2.1,HX.out.2.2.2.trans HH.out.2.1 H6.out.2.2.2⟩;simp only[fQ,List.map_append,List.map_cons,List.map_nil,H6.out.1];exact jG _ _ _
 |begins x=>
  simp only[xU];obtain⟨Ac,Aj,Ad,Ak,Ae,Al,Af,Am,Ag,An,Ah,Ao,Ai,Ap⟩:=Aq.n7 rfl;clear Aq;obtain⟨i0,A9,A3⟩:=Option.map_eq_some_iff.1 Tryz.infoItm;simp only[Prod.mk.injEq] at A3;obtain⟨AF,AG,AH⟩:=A3
  obtain⟨n,os,v,HV,Bv,HL,Aa,A0,A1⟩:∃(n:Nat) (os:List Value) (v:Value),Hid (n=C.length+1/\os=(C++[c]).flatMap (·.cs)/\v=.slice (some ⟨ob,0,none⟩) n oc)/\n<=1000000/\Hid (os.length=n*7)/\
    Hid (((w5.alloc (.cells ak.toArray 54)).drew.ownsRow B 54 7 (.slice (some ⟨ob,0,none⟩) n oc) n os)/\(aa (w5.alloc (.cells ak.toArray 54)).drew g #[.slice (some ⟨ob,0,none⟩) n oc,.int .i64 0,.int .i64 0] 83)/\
    (∀(j:Nat) (u:Value),ak[j]?=some u->(w5.alloc (.cells ak.toArray 54)).drew.cell? ⟨w5.heap.size,j,none⟩=some u)/\B<=(w5.alloc (.cells ak.toArray 54)).drew.heap.size/\(w5.alloc (.cells ak.toArray 54)).drew.heap.size=w5.heap.size+1/\Below w5.heap.size w5 (w5.alloc (.cells ak.toArray 54)).drew)/\
    w5.cell? ⟨g,0,none⟩=some (.slice (some ⟨ob,0,none⟩) n oc)/\¬ob=g:=by
   have hr:=HX.out.1.row;rw[show (C++[c]).length=C.length+1 by simp] at hr;exact⟨_,_,_,Hh ⟨rfl,rfl,rfl⟩,by have:=HH.out.2.2.2.1;omega,Hh hr.1,Hh (F8 (Nat.le_trans HH.out.2.1 HX.out.2.2.2.1.size) hr HX.out.2.1),HX.out.2.1.cell 0 _ rfl,fun q=>HX.out.1.apart.vg (by rw[q];rfl)⟩
  have Az:=HX.out.1.gl;have Bb:(n:Int)<(n:Int)+1:=by omega
  go_wp2_with fail
  go_region_law (first
   |(refine step_append_lies _ rfl _ _ 42 rfl B 54 i0 _ 7 128 Tryz.underlying42 A9 AF AG AH rfl (by decide) (.slice (some ⟨ob,0,none⟩) n oc) n os (by rfl) (by exact Aa.out.1) ⟨w5.heap.size,0,none⟩ 1 1 ak (by rfl) rfl (by intro j u hu;rw[Addr.add_lit,Nat.zero_add];exact Aa.out.2.2.1 j u hu) rf (by omega) (by unfold maxLen;omega) (by omega) (by exact Aa.out.2.2.2.1) _ rfl ?_;intro g3 cap3 w3 hown3 hgrow3 hat3 hlt3;have Av:=Aa.out.2.1.kept hgrow3 (fun q=>A1 (Option.some.inj q).symm);obtain⟨Bm,Bn⟩:=Av.n1 rfl;have m0:=AZ hown3 HL.out;have Bf:=hown3.frozenAt (n*7);have m1:=gJ hown3 HL.out 1 _ rfl;have Bg:=hown3.frozenAt (n*7+1);have m2:=gJ hown3 HL.out 2 _ rfl;have Bh:=hown3.frozenAt (n*7+2);have m3:=gJ hown3 HL.out 3 _ rfl;have Bi:=hown3.frozenAt (n*7+3);have m4:=gJ hown3 HL.out 4 _ rfl;have Bj:=hown3.frozenAt (n*7+4);have m5:=gJ hown3 HL.out 5 _ rfl;have Bk:=hown3.frozenAt (n*7+5);have m6:=gJ hown3 HL.out 6 _ rfl;have Bl:=hown3.frozenAt (n*7+6);have Au:=Cz hat3 Aa.out.2.2.2.2.1 (fun q=>A1 (Option.some.inj q)) Az;have A8:¬g=g3:=fun e=>Au e.symm;have HG:=Jh hown3 (And.intro hgrow3 (And.intro hat3 Av));clear hown3 hgrow3 hat3 Av))
  all_goals
   go_wp2_with fail
  all_goals
   refine bodyPost_end (v:=.tuple #[]) (by simp[results,Tryz.results49,go_sem]) rfl ?_
  all_goals
   obtain⟨q1,q2,q3,q4⟩:=HG.out;refine Fv (g3:=g3) (cap3:=cap3) (xs:=[.bool xb,.string xn,.string xo,.string xt,.slice va vn vc,.slice Ar ln As,.slice none 0 0]) HX.out HH.out.2.2.1 rfl HV.out.1 HV.out.2.1 HH.out.2.1 Aa.out.2.2.2.2.2 Aa.out.2.2.2.2.1 ?_
   first
    |with_reducible exact F7 HL.out Au q1 q2 q3 q4
    |with_reducible exact F6 HL.out Au q1 q2 q3 q4
 |bare x=>
  simp only[xU];obtain⟨Ac,Aj,Ad,Ak,Ae,Al,Af,Am,Ag,An,Ah,Ao,Ai,Ap⟩:=Aq.n7 rfl;clear Aq;obtain⟨i0,A9,A3⟩:=Option.map_eq_some_iff.1 Tryz.infoItm;simp only[Prod.mk.injEq] at A3;obtain⟨AF,AG,AH⟩:=A3
  obtain⟨n,os,v,HV,Bv,HL,Aa,A0,A1⟩:∃(n:Nat) (os:List Value) (v:Value),Hid (n=C.length+1/\os=(C++[c]).flatMap (·.cs)/\v=.slice (some ⟨ob,0,none⟩) n oc)/\n<=1000000/\Hid (os.length=n*7)/\
    Hid (((w5.alloc (.cells ak.toArray 54)).drew.ownsRow B 54 7 (.slice (some ⟨ob,0,none⟩) n oc) n os)/\(aa (w5.alloc (.cells ak.toArray 54)).drew g #[.slice (some ⟨ob,0,none⟩) n oc,.int .i64 0,.int .i64 0] 83)/\
    (∀(j:Nat) (u:Value),ak[j]?=some u->(w5.alloc (.cells ak.toArray 54)).drew.cell? ⟨w5.heap.size,j,none⟩=some u)/\B<=(w5.alloc (.cells ak.toArray 54)).drew.heap.size/\(w5.alloc (.cells ak.toArray 54)).drew.heap.size=w5.heap.size+1/\Below w5.heap.size w5 (w5.alloc (.cells ak.toArray 54)).drew)/\
    w5.cell? ⟨g,0,none⟩=some (.slice (some ⟨ob,0,none⟩) n oc)/\¬ob=g:=by
   have hr:=HX.out.1.row;rw[show (C++[c]).length=C.length+1 by simp] at hr;exact⟨_,_,_,Hh ⟨rfl,rfl,rfl⟩,by have:=HH.out.2.2.2.1;omega,Hh hr.1,Hh (F8 (Nat.le_trans HH.out.2.1 HX.out.2.2.2.1.size) hr HX.out.2.1),HX.out.2.1.cell 0 _ rfl,fun q=>HX.out.1.apart.vg (by rw[q];rfl)⟩
  have Az:=HX.out.1.gl;have Bb:(n:Int)<(n:Int)+1:=by omega
  go_wp2_with fail
  go_region_law (first
   |(refine step_append_lies _ rfl _ _ 42 rfl B 54 i0 _ 7 128 Tryz.underlying42 A9 AF AG AH rfl (by decide) (.slice (some ⟨ob,0,none⟩) n oc) n os (by rfl) (by exact Aa.out.1) ⟨w5.heap.size,0,none⟩ 1 1 ak (by rfl) rfl (by intro j u hu;rw[Addr.add_lit,Nat.zero_add];exact Aa.out.2.2.1 j u hu) rf (by omega) (by unfold maxLen;omega) (by omega) (by exact Aa.out.2.2.2.1) _ rfl ?_;intro g3 cap3 w3 hown3 hgrow3 hat3 hlt3;have Av:=Aa.out.2.1.kept hgrow3 (fun q=>A1 (Option.some.inj q).symm);obtain⟨Bm,Bn⟩:=Av.n1 rfl;have m0:=AZ hown3 HL.out;have Bf:=hown3.frozenAt (n*7);have m1:=gJ hown3 HL.out 1 _ rfl;have Bg:=hown3.frozenAt (n*7+1);have m2:=gJ hown3 HL.out 2 _ rfl;have Bh:=hown3.frozenAt (n*7+2);have m3:=gJ hown3 HL.out 3 _ rfl;have Bi:=hown3.frozenAt (n*7+3);have m4:=gJ hown3 HL.out 4 _ rfl;have Bj:=hown3.frozenAt (n*7+4);have m5:=gJ hown3 HL.out 5 _ rfl;have Bk:=hown3.frozenAt (n*7+5);have m6:=gJ hown3 HL.out 6 _ rfl;have Bl:=hown3.frozenAt (n*7+6);have Au:=Cz hat3 Aa.out.2.2.2.2.1 (fun q=>A1 (Option.some.inj q)) Az;have A8:¬g=g3:=fun e=>Au e.symm;have HG:=Jh hown3 (And.intro hgrow3 (And.intro hat3 Av));clear hown3 hgrow3 hat3 Av))
  all_goals go_upto_region 10 with fail
  all_goals
   obtain⟨q1,q2,q3,q4⟩:=HG.out
   refine GV (Pr:=yL B g n g3 cap3 0 0 os [.bool xb,.string xn,.string xo,.string xt,.slice va vn vc,.slice Ar ln As,.slice none 0 0] (.slice (some ⟨ob,0,none⟩) n oc) (w5.alloc (.cells ak.toArray 54)).drew) (by
    first
     |with_reducible exact F7 HL.out Au q1 q2 q3 q4
     |with_reducible exact F6 HL.out Au q1 q2 q3 q4) (fun wc hE=>?_)
   clear q1 q2 q3 q4 HG m0 m1 m2 m3 m4 m5 m6 Bf Bg Bh Bi Bj Bk Bl Bm Bn;obtain⟨p1,p2,p3⟩:=zL HX.out HH.out.2.2.1 rfl HV.out.1 HV.out.2.1 HH.out.2.1 Aa.out.2.2.2.2.2 Aa.out.2.2.2.2.1 hE;have Be:(lH.mk (zP (oW.bare x)) [.bool xb,.string xn,.string xo,.string xt,.slice va vn vc,.slice Ar ln As,.slice none 0 0] (.slice none 0 0)).x=x:=rfl;generalize (lH.mk (zP (oW.bare x)) [.bool xb,.string xn,.string xo,.string xt,.slice va vn vc,.slice Ar ln As,.slice none 0 0] (.slice none 0 0))=c9 at *;have Bp:=Hh Be;clear Be;have AA:(C++[c]).length=C.length+1:=by simp
   rw[<-AA] at p1 p2;have AX:=Jh p1 (And.intro p2 (And.intro trivial p3));have AW:=Hh AA;clear p1 p2 p3 hE AA A0 A1 Az Bb;clear Ac Ad Ae Af Ag Ah Ai Aj Ak Al Am An Ao Ap;have HX:=AX;clear AX;obtain⟨tb,tn,tO,tt,ta,t1,t2,Ay,t3,t4,Ax,t5,t6,At⟩:=(HX.out.1.all c9 (by simp)).shape
   obtain⟨n2,m,HV,Bs,Bw,Bt,A0,f0,f1,f2,f3,f4,f5,f6⟩:∃(n2 m:Nat),Hid (n2=(C++[c]).length+1/\m=(C++[c]).length)/\m<=1000000/\(n2:Int)-1=(m:Int)/\m<n2/\wc.cell? ⟨g,0,none⟩=some (.slice (some ⟨g3,0,none⟩) n2 cap3)/\wc.cell? ⟨g3,m*7,none⟩=some (.bool tb)/\wc.cell? ⟨g3,m*7+1,none⟩=some (.string tn)/\wc.cell? ⟨g3,m*7+2,none⟩=some (.string tO)/\
     wc.cell? ⟨g3,m*7+3,none⟩=some (.string tt)/\wc.cell? ⟨g3,m*7+4,none⟩=some (.slice ta t1 t2)/\wc.cell? ⟨g3,m*7+5,none⟩=some (.slice Ay t3 t4)/\wc.cell? ⟨g3,m*7+6,none⟩=some (.slice Ax t5 t6):=by
    have ht:=JJ HX.out.1;rw[At] at ht;exact⟨_,_,Hh ⟨rfl,rfl⟩,by have:=HH.out.2.2.2.1;rw[AW.out];omega,by omega,by omega,HX.out.2.1.cell 0 _ rfl,ht 0 _ rfl,ht 1 _ rfl,ht 2 _ rfl,ht 3 _ rfl,ht 4 _ rfl,ht 5 _ rfl,ht 6 _ rfl⟩
   have Az:=HX.out.1.gl;have A5:=Jh At trivial;have AB:g3<wc.heap.size:=(HX.out.1.lt (.inl rfl)).2;clear At;go_cut [6] (fun x wk=>∃p6:Nat,x=.pointer (some ⟨p6,0,none⟩)/\aa wk p6 #[.bool tb,.string tn,.string tO,.string tt,.slice ta t1 t2,.slice Ay t3 t4,.slice Ax t5 t6] 54/\¬p6=g/\Below wc.heap.size wc wk)
   case first=>
    go_region
    all_goals go_wp2_with fail
    all_goals go_meet
    all_goals exact⟨_,rfl,(aa.new _ _ _).drew,by omega,((Below.refl _ _).alloc lz _).drew⟩
   case rest=>
    obtain⟨p6,rfl,k6,AC,A2⟩:=hcut;have Ab:=Hh (Ev ⟨HX.out.1,HX.out.2.1,trivial,HX.out.2.2.2⟩ A2 HH.out.2.1);obtain⟨Aw,AE⟩:=Ab.out.2.1.n1 rfl;have Br:=Ab.out.1.gl
    have Bu:m<=cap3:=by
     have hr:=Ab.out.1.row;rcases hr.2 with ⟨q,-⟩|⟨_,_,_,q,-,-,q3,-⟩
     ·cases q
     ·injection q with _ q1 q2
      have:=HV.out;omega
    have Bq:=k6.lt;rw[<-HV.out.1] at Aw;have Bo:=Hh k6;have AD:¬g=p6:=fun e=>AC e.symm;clear A0 f0 f1 f2 f3 f4 f5 f6 A2;obtain⟨AI,AP,AJ,AQ,AK,AR,AL,AS,AM,AT,AN,AU,AO,AV⟩:=k6.n7 rfl;clear k6;go_wp2_with fail;go_region
    all_goals go_wp2_with fail
    all_goals
     have hA:=Du (xs:=[.bool tb,.string tn,.string tO,.string tt,.slice ta t1 t2,.slice Ay t3 t4,.slice Ax t5 t6]) ⟨Ab.out.1,Ab.out.2.1,Ab.out.2.2.1,Ab.out.2.2.2⟩ (by simp) A5.out.1 (by have:=HH.out.2.2.2.1;rw[AW.out];omega) HH.out.2.2.2.2 HH.out.2.1 HH.out.2.2.1 HV.out.2;refine hA.mono ?_;clear hA;rintro _ w9 ⟨rfl,hR9⟩;have A6:=Hh hR9;clear hR9;go_wp2_with fail;refine bodyPost_end (v:=.tuple #[]) (by simp[results,Tryz.results49,go_sem]) rfl ?_;have hR9:=A6.out;rw[List.map_append (l₁:=C++[c]),List.map_cons,List.map_nil,Ew,Bp.out] at hR9;exact hR9
 |fin=>
  simp only[xU];have AY:=HF.out rfl;obtain⟨tb,tn,tO,tt,ta,t1,t2,Ay,t3,t4,Ax,t5,t6,At⟩:=(HX.out.1.all c (by simp)).shape
  obtain⟨n,m,HV,Bs,Bw,Bt,A0,f0,f1,f2,f3,f4,f5,f6⟩:∃(n m:Nat),Hid (n=C.length+1/\m=C.length)/\m<=1000000/\(n:Int)-1=(m:Int)/\m<n/\w5.cell? ⟨g,0,none⟩=some (.slice (some ⟨ob,0,none⟩) n oc)/\w5.cell? ⟨ob,m*7,none⟩=some (.bool tb)/\w5.cell? ⟨ob,m*7+1,none⟩=some (.string tn)/\w5.cell? ⟨ob,m*7+2,none⟩=some (.string tO)/\
    w5.cell? ⟨ob,m*7+3,none⟩=some (.string tt)/\w5.cell? ⟨ob,m*7+4,none⟩=some (.slice ta t1 t2)/\w5.cell? ⟨ob,m*7+5,none⟩=some (.slice Ay t3 t4)/\w5.cell? ⟨ob,m*7+6,none⟩=some (.slice Ax t5 t6):=by
   have ht:=JJ HX.out.1;rw[At] at ht;exact⟨_,_,Hh ⟨rfl,rfl⟩,by have:=HH.out.2.2.2.1;omega,by omega,by omega,HX.out.2.1.cell 0 _ rfl,ht 0 _ rfl,ht 1 _ rfl,ht 2 _ rfl,ht 3 _ rfl,ht 4 _ rfl,ht 5 _ rfl,ht 6 _ rfl⟩
  have Az:=HX.out.1.gl;have A5:=Jh At AY;have AB:ob<w5.heap.size:=(HX.out.1.lt (.inl rfl)).2;clear Aq At AY;go_upto_region 10 with fail
  go_cut [6] (fun x wc=>∃p6:Nat,x=.pointer (some ⟨p6,0,none⟩)/\aa wc p6 #[.bool tb,.string tn,.string tO,.string tt,.slice ta t1 t2,.slice Ay t3 t4,.slice Ax t5 t6] 54/\¬p6=g/\Below w5.heap.size w5 wc)
  case first=>
   go_region
   all_goals go_wp2_with fail
   all_goals go_meet
   all_goals exact⟨_,rfl,(aa.new _ _ _).drew,by omega,((Below.refl _ _).alloc lz _).drew⟩
  case rest=>
   obtain⟨p6,rfl,k6,AC,A2⟩:=hcut;have Ab:=Hh (zG (p:=True) ⟨HX.out.1,HX.out.2.1,HX.out.2.2.1,HX.out.2.2.2,trivial⟩ A2 HH.out.2.1);obtain⟨Aw,AE⟩:=Ab.out.2.1.n1 rfl;have Br:=Ab.out.1.gl
   have Bu:m<=oc:=by
    have hr:=Ab.out.1.row;rcases hr.2 with ⟨q,-⟩|⟨_,_,_,q,-,-,q3,-⟩
    ·cases q
    ·injection q with _ q1 q2
     have:=HV.out;omega
   have Bq:=k6.lt;rw[<-HV.out.1] at Aw;have Bo:=Hh k6;have AD:¬g=p6:=fun e=>AC e.symm;clear A0 f0 f1 f2 f3 f4 f5 f6 A2;obtain⟨AI,AP,AJ,AQ,AK,AR,AL,AS,AM,AT,AN,AU,AO,AV⟩:=k6.n7 rfl;clear k6;go_wp2_with fail;go_region
   all_goals go_wp2_with fail
   all_goals
    have hA:=Du (xs:=[.bool tb,.string tn,.string tO,.string tt,.slice ta t1 t2,.slice Ay t3 t4,.slice Ax t5 t6]) ⟨Ab.out.1,Ab.out.2.1,Ab.out.2.2.1,Ab.out.2.2.2⟩ A5.out.2 A5.out.1 (Nat.le_succ_of_le HH.out.2.2.2.1) (fun d hd=>HH.out.2.2.2.2 d (by simp[hd])) HH.out.2.1 HH.out.2.2.1 HV.out.2;refine hA.mono ?_;clear hA;rintro _ w9 ⟨rfl,hR9⟩;have A6:=Hh hR9;clear hR9;go_wp2_with fail;refine bodyPost_end (v:=.tuple #[]) (by simp[results,Tryz.results49,go_sem]) rfl ?_;exact A6.out
end Go.Proofs.YtbcdaaobbebooaaGreatDoor
namespace Go.Proofs.YtbcdaaobbebooaaGreatDoor
def KT(f:ag->ag):Prop:=∀t,(f t).kind=t.kind/\(f t).text=t.text
section
variable {f:ag->ag} (hf:KT f)
include hf
theorem oD(r:List ag)(w:ByteArray):bO (r.map f) w=bO r w:=by
 cases r with
 |nil=>rfl
 |cons t r=>simp only[List.map_cons,bO,(hf t).1,(hf t).2]
theorem MK(r:List ag)(lv:Nat):Gl (r.map f) lv=Gl r lv:=by
 cases r with
 |nil=>rfl
 |cons t r=>simp only[List.map_cons,Gl,(hf t).1,(hf t).2]
omit hf in
theorem uw(r:List ag)(n:Nat):cO (r.map f) n=cO r n:=by cases r<;>rfl
theorem Kk:∀(n:Nat) (t:Nt) (r:List ag) (d:Nat),aj n t (r.map f) d=aj n t r d:=by
 intro n
 induction n with
 |zero=>intros;rfl
 |succ n ih=>
  intro t r d
  cases t with
  |ploop a=>
   simp only[aj,<-List.map_drop,oD hf,uw,ih]
   cases hq:r.drop 1 with
   |nil=>rfl
   |cons t q=>simp only[List.map_cons,(hf t).1,(hf t).2]
  |prime=>
   cases r with
   |nil=>rfl
   | cons t r=>
    have e1:=oD hf (t::r);have e2:=uw (f:=f) (t::r);have e3:=ih (.many pq) (t::r);have e4:=fun k=>List.map_drop (l:=t::r) (i:=k) (f:=f);simp only[List.map_cons] at e1 e2 e3 e4;simp only[List.map_cons,aj,(hf t).1,(hf t).2,e1,e2,e3,<-e4,oD hf,uw,ih]
  |_=>simp only[aj,<-List.map_drop,oD hf,MK hf,uw,ih]
theorem Kl(r:List ag):gH (r.map f)=gH r:=by
 unfold gH ib;simp only[List.length_map,Kk hf]
theorem Db:∀r:List ag,jr (r.map f)=jr r
 |[]=>rfl
 |t::r=>by simp only[List.map_cons,jr,(hf t).1,(hf t).2,Db r]
end
theorem bP.add_items(t x:bP):(t.add x).items=t.items++[x]:=by cases t;rfl
theorem Il{n:Nat}{row:List ag}{stop:Int}{last:Bool}{st:List bP}(hl:st.length=n)(h:bn n row stop last=.fin):st.length≠1:=by
 rw[hl];exact qz h
theorem eG(row:List ag)(stop:Int)(last:Bool)(i:Nat):∃a e,e≠0/\eU row stop last i=.wrong a e:=by
 unfold eU;split
 ·exact⟨_,3,by decide,rfl⟩
 ·split
  ·exact⟨_,2,by decide,rfl⟩
  ·exact⟨_,3,by decide,rfl⟩
theorem xW(n:Nat)(row:List ag)(stop stop2:Int)(last last2:Bool):bn n row stop2 last2=bn n row stop last\/∃a e,e≠0/\bn n row stop last=.wrong a e:=by
 cases row with
 |nil=>exact .inl rfl
 |cons t r=>
  simp only[bn];split
  ·split
   ·exact .inr (eG _ _ _ _)
   ·split
    ·exact .inr (eG _ _ _ _)
    ·exact .inl rfl
  ·split
   ·exact .inr (eG _ _ _ _)
   ·split
    ·unfold j3
     split
     ·exact .inr (eG _ _ _ _)
     ·exact .inl rfl
    ·unfold gL
     simp only;split
     ·exact .inr (eG _ _ _ _)
     ·split
      ·exact .inl rfl
      ·split
       ·exact .inl rfl
       ·split
        ·exact .inr (eG _ _ _ _)
        ·split
         ·exact .inr (eG _ _ _ _)
         ·exact .inl rfl
theorem vw{st:List bP}(h:st≠[])(x:bP):iQ st x≠[]:=fun e=>by
 have:=iF st x;rw[e] at this;exact h (List.eq_nil_of_length_eq_zero this.symm)
theorem pu{st:List bP}(hs:st≠[])(row:List ag)(stop:Int)(last:Bool):(bB st row stop last).1≠[]:=by
 rw[jO];have hf:=fun e=>Il (st:=st) (row:=row) (stop:=stop) (last:=last) rfl e
 revert hf
 cases bn st.length row stop last with
 |wrong a e=>intro _;exact hs
 |empty=>intro _;exact hs
 |attr x=>intro _;exact vw hs x
 |begins x=>intro _;simp[fQ]
 |bare x=>intro _;exact vw hs x
 |fin=>
  intro hf;refine vw (fun e=>hf rfl ?_) _;have h1:=congrArg List.length e;have h2:=List.length_pos_iff.2 hs;rw[List.length_dropLast,List.length_nil] at h1;omega
theorem zR{l:Bs}(h:(aY l 0).2.2=0):dK l=bK l.length (aY l 0).1 [bY] []:=by
 unfold dK kz;rw[if_pos h];simp
theorem xV{l:Bs}(h:(aY l 0).2.2≠0):dK l=([],(aY l 0).2):=by
 unfold dK kz;rw[if_neg h];simp only;rw[if_pos h]
end Go.Proofs.YtbcdaaobbebooaaGreatDoor
namespace Go.Proofs.YtbcdaaobbebooaaGreatDoor
def Small(m:Nat)(st:List bP):Prop:=st≠[]/\st.length<=m+1/\∀x∈st,x.items.length<=m
theorem Small.le{m k:Nat}{st:List bP}(h:Small m st)(hk:m<=k):Small k st:=⟨h.1,Nat.le_trans h.2.1 (by omega),fun x hx=>Nat.le_trans (h.2.2 x hx) hk⟩
def oW.leaf:oW->Prop
 |.attr x=>x.items=[]
 |.begins x=>x.items=[]
 |.bare x=>x.items=[]
 |_=>True
theorem jo(row:List ag)(stop:Int)(last:Bool)(i:Nat):(eU row stop last i).leaf:=by
 obtain⟨a,e,-,h⟩:=eG row stop last i;rw[h];trivial
theorem EW(n:Nat)(row:List ag)(stop:Int)(last:Bool):(bn n row stop last).leaf:=by
 cases row with
 |nil=>trivial
 |cons t r=>
  simp only[bn];split
  ·split
   ·exact jo ..
   ·split
    ·exact jo ..
    ·trivial
  ·split
   ·exact jo ..
   ·split
    ·unfold j3
     split
     ·exact jo ..
     ·split
      ·rfl
      ·split<;>trivial
    ·unfold gL
     simp only;split
     ·exact jo ..
     ·split
      ·split<;>trivial
      ·split
       ·rfl
       ·split
        ·exact jo ..
        ·split
         ·exact jo ..
         ·rfl
def oW.calm:oW->Prop
 |.wrong a e=>e=0->a=0
 |_=>True
theorem jq(row:List ag)(stop:Int)(last:Bool)(i:Nat):(eU row stop last i).calm:=by
 obtain⟨a,e,he,h⟩:=eG row stop last i;rw[h];exact fun q=>absurd q he
theorem EX(n:Nat)(row:List ag)(stop:Int)(last:Bool):(bn n row stop last).calm:=by
 cases row with
 |nil=>trivial
 |cons t r=>
  simp only[bn];split
  ·split
   ·exact jq ..
   ·split
    ·exact jq ..
    ·trivial
  ·split
   ·exact jq ..
   ·split
    ·unfold j3
     split
     ·exact jq ..
     ·split
      ·trivial
      ·next h1 h2=>
       split
       ·exact fun q=>absurd q h2
       ·exact fun _=>rfl
    ·unfold gL
     simp only;split
     ·exact jq ..
     ·split
      ·split
       ·exact fun q=>by cases q
       ·exact fun _=>rfl
      ·split
       ·trivial
       ·split
        ·exact jq ..
        ·split
         ·exact jq ..
         ·trivial
theorem Ex{st:List bP}{row:List ag}{stop:Int}{last:Bool}(h:(bB st row stop last).2.2=0):(bB st row stop last).2.1=0:=by
 rw[jO] at h ⊢;have hc:=EX st.length row stop last
 revert h hc
 cases bn st.length row stop last with
 |wrong a e=>intro h hc;exact hc h
 |_=>intro _ _;rfl
theorem lG:∀(st:List bP) (x:bP) (m:Nat),(∀y∈st,y.items.length<=m)->∀y∈iQ st x,y.items.length<=m+1
 |[],_,_,_,y,hy=>by cases hy
 | [t],x,m,h,y,hy=>by
  simp only[iQ,List.mem_singleton] at hy;subst hy;rw[bP.add_items,List.length_append];have:=h t (by simp)
  simpa using this
 | t::u::r,x,m,h,y,hy=>by
  simp only[iQ,List.mem_cons] at hy;rcases hy with rfl|hy
  ·exact Nat.le_succ_of_le (h _ (by simp))
  ·exact lG (u::r) x m (fun z hz=>h z (by simp at hz ⊢;exact .inr hz)) y hy
theorem Cj{m:Nat}{st:List bP}(h:Small m st)(row:List ag)(stop:Int)(last:Bool):Small (m+1) (bB st row stop last).1:=by
 refine⟨pu h.1 row stop last,?_⟩;rw[jO];have hl:=EW st.length row stop last
 revert hl
 cases bn st.length row stop last with
 |wrong a e=>intro _;exact (h.le (Nat.le_succ m)).2
 |empty=>intro _;exact (h.le (Nat.le_succ m)).2
 |attr x=>intro _;exact⟨by simp only[fQ];rw[iF];have:=h.2.1;omega,lG _ _ _ h.2.2⟩
 |begins x=>
  intro hl;refine⟨by simp only[fQ,List.length_append,List.length_singleton];have:=h.2.1;omega,fun y hy=>?_⟩;simp only[fQ,List.mem_append,List.mem_singleton] at hy;rcases hy with hy|rfl
  ·exact Nat.le_succ_of_le (h.2.2 y hy)
  ·simp only[oW.leaf] at hl
   rw[hl];exact Nat.zero_le _
 |bare x=>intro _;exact⟨by simp only[fQ];rw[iF];have:=h.2.1;omega,lG _ _ _ h.2.2⟩
 |fin=>
  intro _;refine⟨by simp only[fQ];rw[iF,List.length_dropLast];have:=h.2.1;omega,lG _ _ _ (fun y hy=>h.2.2 y (List.dropLast_subset st hy))⟩
theorem BI:Small 0 [bY]:=⟨by simp,by simp,fun x hx=>by simp at hx;subst hx;simp[bY,bP.items]⟩
def je(size:Int)(toks:List ag)(k:Nat)(st:List bP)(row:List ag):Prop:=bK size toks [bY] []=bK size (toks.drop k) st row
theorem je.zero(size:Int)(toks:List ag):je size toks 0 [bY] []:=rfl
section
variable {size:Int} {toks:List ag} {k:Nat} {st:List bP} {row:List ag}
theorem je.open(h:je size toks k st row)(hk:k<toks.length):bK size toks [bY] []=(if toks[k].kind=6\/toks[k].kind=7 then bK size (toks.drop (k+1)) st row
  else if toks[k].kind=5 then
   (if (bB st row toks[k].pos false).2.2≠0 then ([],(bB st row toks[k].pos false).2) else bK size (toks.drop (k+1)) (bB st row toks[k].pos false).1 [])
  else bK size (toks.drop (k+1)) st (row++[toks[k]])):=by
 unfold je at h;rw[h,List.drop_eq_getElem_cons hk,bK]
theorem je.skip(h:je size toks k st row)(hk:k<toks.length)(h6:toks[k].kind=6\/toks[k].kind=7):je size toks (k+1) st row:=by
 have:=h.open hk;rw[if_pos h6] at this;exact this
theorem je.bad(h:je size toks k st row)(hk:k<toks.length)(h5:toks[k].kind=5)(he:(bB st row toks[k].pos false).2.2≠0):bK size toks [bY] []=([],(bB st row toks[k].pos false).2):=by
 have:=h.open hk;rw[if_neg (by omega),if_pos h5,if_pos he] at this;exact this
theorem je.line(h:je size toks k st row)(hk:k<toks.length)(h5:toks[k].kind=5)(he:(bB st row toks[k].pos false).2.2=0):je size toks (k+1) (bB st row toks[k].pos false).1 []:=by
 have:=h.open hk;rw[if_neg (by omega),if_pos h5,if_neg (by omega)] at this;exact this
theorem je.tok(h:je size toks k st row)(hk:k<toks.length)(h5:toks[k].kind≠5)(h6:¬(toks[k].kind=6\/toks[k].kind=7)):je size toks (k+1) st (row++[toks[k]]):=by
 have:=h.open hk;rw[if_neg h6,if_neg h5] at this;exact this
theorem je.last(h:je size toks k st row)(hk:toks.length<=k):bK size toks [bY] []=(if (bB st row size true).2.2≠0 then ([],(bB st row size true).2)
  else if 1<(bB st row size true).1.length then ([],size,2)
  else (((bB st row size true).1.head?.getD bY).items,-1,0)):=by
 unfold je at h;rw[h,List.drop_eq_nil_of_le hk,bK]
end
end Go.Proofs.YtbcdaaobbebooaaGreatDoor
namespace Go.Proofs.YtbcdaaobbebooaaGreatDoor
open Go.RowKit Go.Tab
def O1(R:List bP×Int×Int)(w:World)(e:Ending)(w':World):Prop:=(∃v,e=.returned (.tuple #[v,.int .i64 R.2.1,.int .i64 R.2.2])/\mq w' v R.1)/\Below w.heap.size w w'
theorem mq.nil{w:World}:mq w (.slice none 0 0) []:=⟨none,0,rfl,Nat.le_refl _,Nat.zero_le _,fun _=>rfl,fun x h=>by cases h⟩
theorem GQ.items{w:World}{t:bP}{cs:List Value}{v:Value}(h:GQ w t cs)(h6:cs[6]?=some v):mq w v t.items:=by
 obtain⟨b,n,e,ls,Ab⟩:=t;obtain⟨vo,vt,vk,lv,a,Aa,rfl,-,-,h3,h4,h5,h7⟩:=mI.open h;simp only[List.getElem?_cons_succ,List.getElem?_cons_zero,Option.some.injEq] at h6;subst h6;exact⟨a,Aa,rfl,h3,h4,h5,h7⟩
structure BH(toks:List ag)(size:Int)(B g k:Nat)(C:List lH)(row:List ag)(rv v:Value)(w wr:World):Prop where
 st:ny B g rv.ownBlock wr v C
 box:iR wr g v 0 0
 own:aI B wr rv row
 kept:Below B w wr
 big:B<=wr.heap.size
 rest:je size toks k (C.map (·.x)) row
 small:Small k (C.map (·.x))
 len:row.length<=k
 mem:∀t∈row,t∈toks
section
variable {toks:List ag} {size:Int} {B g k:Nat} {C:List lH} {row:List ag} {rv v:Value} {w wr:World}
theorem BH.below(h:BH toks size B g k C row rv v w wr){w':World}(hb:Below wr.heap.size wr w'):BH toks size B g k C row rv v w w':=
 ⟨h.st.below hb,h.box.below hb h.st.gl,h.own.below hb lz,h.kept.trans (hb.mono h.big),Nat.le_trans h.big hb.size,h.rest,h.small,h.len,h.mem⟩
theorem BH.skip(h:BH toks size B g k C row rv v w wr)(hk:k<toks.length)(h6:toks[k].kind=6\/toks[k].kind=7):BH toks size B g (k+1) C row rv v w wr:=
 ⟨h.st,h.box,h.own,h.kept,h.big,h.rest.skip hk h6,h.small.le (Nat.le_succ k),Nat.le_succ_of_le h.len,h.mem⟩
theorem BH.tok(h:BH toks size B g k C row rv v w wr)(hk:k<toks.length)(h5:toks[k].kind≠5)(h6:¬(toks[k].kind=6\/toks[k].kind=7)){g3 n cap3:Nat}{w3:World}
  (h1:aI B w3 (.slice (some ⟨g3,0,none⟩) n cap3) (row++[toks[k]])) (h2:wr.grownBy w3 rv.ownBlock) (h3:rv.ownBlock=some g3\/g3=wr.heap.size) (h4:g3<w3.heap.size) :
  BH toks size B g (k+1) C (row++[toks[k]]) (.slice (some ⟨g3,0,none⟩) n cap3) v w w3:=by
 have Ab:∀b,rv.ownBlock=some b->B<=b/\b<wr.heap.size:=World.ownsRow.lt h.own;have Aa:∀b,b<wr.heap.size->b≠g->rv.ownBlock≠some b->w3.heap[b]?=wr.heap[b]?:=fun b hb _ hn=>h2.block b hb (fun e=>hn e.symm);refine⟨h.st.keep h2.size Aa (fun b e=>?_),?_,h1,h.kept.trans ⟨h2.os,h2.tape,h2.output,h2.size,fun b hb=>h2.block b (Nat.lt_of_lt_of_le hb h.big) (fun e=>by have:=(Ab b e.symm).1;omega)⟩,Nat.le_trans h.big h2.size,h.rest.tok hk h5 h6,h.small.le (Nat.le_succ k),by rw[List.length_append];simpa using h.len,fun t ht=>?_⟩
 ·simp only[Value.ownBlock,Option.some.injEq] at e
  subst e;exact⟨h3.imp id (fun q=>by omega),h4⟩
 ·exact h.box.kept h2 (fun e=>h.st.apart.rg e.symm)
 ·rcases List.mem_append.1 ht with ht|ht
  ·exact h.mem t ht
  ·simp at ht;subst ht;exact List.getElem_mem hk
theorem aI.none{base:Nat}{a:Option Addr}{n cap:Nat}{l:List ag}(h:aI base w (.slice a n cap) l):aI base w (.slice a 0 cap) []:=by
 obtain⟨h1,h2⟩:=h;refine⟨rfl,?_⟩;rcases h2 with ⟨h2,-⟩|⟨g,cap',cur,he,hb,hg,h3,h4,h5,h6⟩
 ·cases h2;exact .inl ⟨rfl,rfl⟩
 ·cases he;exact .inr ⟨_,_,cur,rfl,hb,hg,Nat.zero_le _,h4,h5,by simp⟩
theorem aI.capB{base:Nat}{a:Option Addr}{n cap:Nat}{l:List ag}(h:aI base w (.slice a n cap) l):n=l.length/\n<=cap/\cap<=maxLen:=by
 obtain⟨h1,h2⟩:=h;rcases h2 with ⟨h2,h3⟩|⟨g,cap',cur,he,hb,hg,h3,h4,h5,h6⟩
 ·cases h2;exact⟨h3.symm,Nat.le_refl _,Nat.zero_le _⟩
 ·cases he;exact⟨rfl,h3,h4⟩
theorem BH.line{a:Option Addr}{n cap:Nat}(h:BH toks size B g k C row (.slice a n cap) v w wr)(hk:k<toks.length)(h5:toks[k].kind=5)(he:(bB (C.map (·.x)) row toks[k].pos false).2.2=0){w3:World}{v3:Value}{C3:List lH}{e1:Int}
  (h0:(bB (C.map (·.x)) row toks[k].pos false).1=C3.map (·.x)) (h1:ny B g (Value.slice a n cap).ownBlock w3 v3 C3) (h2:iR w3 g v3 e1 (bB (C.map (·.x)) row toks[k].pos false).2.2) (h21:e1=0) (h3:kW B (Value.slice a n cap).ownBlock wr w3) :
  BH toks size B g (k+1) C3 [] (.slice a 0 cap) v3 w w3:=by
 rw[he] at h2;subst h21;have Aa:(Value.slice a 0 cap).ownBlock=(Value.slice a n cap).ownBlock:=by cases a<;>rfl
 exact⟨by rw[Aa];exact h1,h2,(h.own.moved (fun b e=>h3.2 b e)).none,h.kept.trans h3.1,Nat.le_trans h.big h3.1.size,by rw[<-h0];exact h.rest.line hk h5 he,by rw[<-h0];exact Cj h.small _ _ _,Nat.zero_le _,fun t ht=>by cases ht⟩
end
section
variable {P:Program} {w:World} {ops:Array Oper} {rest:List Oper} {o:Oper} {a:Act} {Q:Exit->Act->World->Prop}
theorem mJ(hgd:Region.wanted o (yielded ops a.tmps)=true)(x hi:Operand)(t:TypeId)(sz:Nat)(ho:o.op=.slice t x none (some hi) none)
  (ht:P.underlying t=some (.slice (P.elem t))) (hs:(P.info? (P.elem t)).map (fun i=>i.size)=some sz)
  (ad:Option Addr) (n cap:Nat) (hx:a.eval x=.slice ad n cap) (k:IntKind) (eH:a.eval hi=.int k 0)
  (hK:wpList P ops Q rest (a.put o.dst (.slice ad 0 cap)) w):wpList P ops Q (o::rest) a w:=by
 refine fF hgd fun K hK'=>?_;have Aa:=run_slice_h (P:=P) w t ad n cap ht k 0 (by omega) (by omega);unfold Oper.wp;simp only[execOp,ho,hx,eH,Option.map_some,Option.map_none,Sem.run_bind,run_sliceAt_slice (P:=P) w t _ _ _ _ ht,Aa,sH hs,Result.andThen,Sem.run_pure,Oper.upon_value,Int.toNat_zero]
 have e1:sliced ad 0 0 cap sz=.slice ad 0 cap:=by
  unfold sliced
  cases ad with
  |none=>simp
  |some y=>simp[Addr.add]
 rw[e1];exact hK' _ _ hK
theorem yS(hgd:Region.wanted o (yielded ops a.tmps)=true)(l c:Operand)(t:TypeId)(hop:o.op=.makeSlice t l c)
  (e:TypeId) (bytes size:Nat) (z:Value) (ht:P.underlying t=some (.slice e)) (hi:(P.info? e).map (fun i=>(i.zero,i.size,i.bytes))=some (some z,size,bytes))
  (kl kc:IntKind) (n:Nat) (hl:a.eval l=.int kl (n:Int)) (hc:a.eval c=.int kc (n:Int)) (hby:bytes*n<=281474976710656) (hm:n<=maxLen)
  (hK:wpList P ops Q rest (a.put o.dst (.slice (some ⟨w.heap.size,0,Option.none⟩) n n)) (w.alloc (.cells (madeCells z.cells (n*size)) e))):wpList P ops Q (o::rest) a w:=by
 obtain⟨i,Ac,Aa⟩:=Option.map_eq_some_iff.1 hi;simp only[Prod.mk.injEq] at Aa;obtain⟨hz,hs,hb⟩:=Aa;refine fF hgd fun K hK'=>?_
 have Ab:(i.bytes:Int)*(n:Int)<=281474976710656:=by
  have h:((i.bytes*n:Nat):Int)<=281474976710656:=by rw[hb];omega
  rwa [Int.natCast_mul] at h
 have hr:=run_make (P:=P) w t e i z ht Ac hz kl kc n n (by omega) (Int.le_refl _) Ab (by simp[maxLen] at hm;omega);simp only[Int.toNat_natCast,hs] at hr;unfold Oper.wp;simp[execOp,hop,hl,hc,hr,Result.andThen]
 exact hK' _ _ hK
end
theorem BH.start(toks:List ag)(size:Int)(w:World) :
  BH toks size w.heap.size (w.heap.size+1) 0 [⟨bY,ak,.slice none 0 0⟩] [] (.slice none 0 0) (.slice (some ⟨w.heap.size,0,none⟩) 1 1) w
   ((w.alloc (.cells ak.toArray 54)).alloc (.cells #[.slice (some ⟨w.heap.size,0,none⟩) 1 1,.int .i64 0,.int .i64 0] 83)):=by
 have hB:Below w.heap.size w ((w.alloc (.cells ak.toArray 54)).alloc (.cells #[.slice (some ⟨w.heap.size,0,none⟩) 1 1,.int .i64 0,.int .i64 0] 83)):=((Below.refl _ w).alloc lz _).alloc (by simp) _;have hc:=aa.new (w.alloc (.cells ak.toArray 54)) #[.slice (some ⟨w.heap.size,0,none⟩) 1 1,.int .i64 0,.int .i64 0] 83;rw[World.size_alloc] at hc
 have Aa:((w.alloc (.cells ak.toArray 54)).alloc (.cells #[.slice (some ⟨w.heap.size,0,none⟩) 1 1,.int .i64 0,.int .i64 0] 83)).ownsRow w.heap.size 54 7 (.slice (some ⟨w.heap.size,0,none⟩) 1 1) 1 ak:=by
  refine World.ownsRow.alloc (w:=w.alloc (.cells ak.toArray 54)) ⟨rfl,.inr ⟨w.heap.size,1,ak.toArray,rfl,Nat.le_refl _,?_,Nat.le_refl _,by unfold maxLen;omega,rfl,rfl⟩⟩ _;exact aa.new w ak.toArray 54
 refine⟨⟨by simp,fun b e=>(by cases e),Aa,⟨?_,fun b _ e=>(by cases e),(fun e=>by cases e),fun c hc b e=>?_,by simp⟩,fun c hc=>?_⟩,hc,aI.nil,hB,hB.size,je.zero size toks,BI,Nat.le_refl _,fun t ht=>by cases ht⟩
 ·simp only[Value.ownBlock,ne_eq,Option.some.injEq];omega
 ·simp at hc;subst hc;cases e
 ·simp at hc;subst hc
  exact j4.fresh (aN.zero _ _) rfl
theorem ny.end{B g:Nat}{rb:Option Nat}{w:World}{v:Value}{C:List lH}(h:ny B g rb w v C)(hn:¬1<C.length)(h0:C≠[]) :
  ∃ob oc iv,v=.slice (some ⟨ob,0,none⟩) 1 oc/\w.cell? ⟨ob,6,none⟩=some iv/\mq w iv ((C.map (·.x)).head?.getD bY).items:=by
 obtain⟨c,rfl⟩:∃c,C=[c]:=by
  match C,hn,h0 with
  |[c],_,_=>exact⟨c,rfl⟩
  |_::_::_,hn,_=>simp at hn
 have hc:=h.all c (by simp);obtain⟨ob,oc,q,-⟩:=World.ownsRow.form h.row (by simp);have q':v=.slice (some ⟨ob,0,none⟩) 1 oc:=q;subst q';have Aa:=h.row;refine⟨ob,oc,c.iv,rfl,?_,?_⟩
 ·have:=Aa.cellAt 6 (by simp)
  rw[this]
  simpa using hc.cell6
 ·exact GQ.items (aN.at _ _ (hc.itm (Q:=fun _=>True) (fun _ _ _=>trivial) (fun _ _=>trivial))) hc.cell6
theorem zI{toks:List ag}{size:Int}{B g k:Nat}{C:List lH}{row:List ag}{rv v:Value}{w wr:World}(h:BH toks size B g k C row rv v w wr)(stop:Int)(last:Bool)(hT:jf wr)(hk:k<=800000)(hB:B<=g)(hsh:∀t∈toks,t.text.size<=1048576)(hq:∀t∈toks,t.kind=3->jP t.text≠none) :
  Calls Tryz.prog 49 #[.pointer (some ⟨g,0,none⟩),iL rv stop last] wr (GN B g rv.ownBlock (bB (C.map (·.x)) row stop last) wr):=by
 rcases List.eq_nil_or_concat C with rfl|⟨C0,c,hC⟩
 ·exact absurd rfl h.small.1
 ·rw[List.concat_eq_append] at hC
  subst hC;have hl:=h.small.2.1;simp only[List.length_map,List.length_append,List.length_singleton] at hl
  exact J8 B g rv.ownBlock v C0 c row rv stop last wr h.st h.box h.own.toks (fun b e=>(World.ownsRow.lt h.own b e).2) hT (by have:=h.len;omega) (fun t ht=>hsh t (h.mem t ht)) (fun t ht=>hq t (h.mem t ht)) (by omega)
   (fun d hd=>by have:=h.small.2.2 d.x (List.mem_map.2 ⟨d,hd,rfl⟩);omega) h.big hB
theorem gB{w:World}{ops:Array Oper}{rest:List Oper}{o:Oper}{a:Act}{Q:Exit->Act->World->Prop}(hgd:o.guard=none)(s x:Operand)
  (ho:o.op=.call { callee:=.builtin .append,args:=#[s,x],argTypes:=#[22,22] })
  (base:Nat) (l:List ag) (t:ag) (hown:aI base w (a.eval s) l) (g:Nat) (hx:a.eval x=.slice (some ⟨g,0,none⟩) 1 1)
  (hc:aa w g #[.int .i64 t.kind,.string t.text,.int .i64 t.pos] 63)
  (hm:l.length<=1000000) (hbase:base<=w.heap.size) (H:Nat) (hH:w.heap.size=H)
  (hK:∀gb cap w',aI base w' (.slice (some ⟨gb,0,none⟩) (l.length+1) cap) (l++[t])->w.grownBy w' (a.eval s).ownBlock->((a.eval s).ownBlock=some gb\/gb=H)->gb<w'.heap.size->
   wpList Tryz.prog ops Q rest (a.put o.dst (.slice (some ⟨gb,0,none⟩) (l.length+1) cap)) w'):wpList Tryz.prog ops Q (o::rest) a w:=by
 obtain⟨i,Aa,Ab,Ac,Ad⟩:=info_parts Tryz.infoTok;refine wpList_append_lies w hgd s x 22 ho base 63 i _ 3 32 Tryz.underlying22 Aa Ab Ac Ad rfl (by decide) (a.eval s) l.length (l.flatMap gN) rfl hown ⟨g,0,none⟩ 1 1 (gN t) hx rfl ?_ (sF t) (by omega) (by unfold maxLen;omega) (by omega) hbase H hH ?_
 ·intro j u hu
  rw[Addr.add_lit,Nat.zero_add];exact hc.cell _ _ (by simpa [gN] using hu)
 ·intro gb cap w' hown' hg hat hlt
  exact hK gb cap w' (by unfold aI;simpa using hown') hg hat hlt
theorem zk(s:ByteArray)(w:World)(hT:jf w)(hs:s.size<=800000):Calls Tryz.prog 18 #[.string s] w (O1 (dK s.data.toList) w):=by
 have hL:=tV s w hT (by omega);obtain⟨A4,As⟩:=C9 s.data.toList
 have Av:∀t∈(kz s.data.toList).1,t.kind=3->jP t.text≠none:=by
  have:=tX s.data.toList.length s.data.toList 0 lz;unfold kz;split
  ·exact this
  ·intro t ht
   cases ht
 have AL:s.data.toList.length=s.size:=eX s;rw[AL] at A4 As;have hR:dK s.data.toList=(if (kz s.data.toList).2.2≠0 then ([],(kz s.data.toList).2) else bK s.size (kz s.data.toList).1 [bY] []):=by unfold dK;rw[AL]
 rw[hR];generalize kz s.data.toList=X at *;obtain⟨Aa,AR,er⟩:=X;simp only at hL A4 As Av ⊢;clear hR AL;obtain⟨R,AH⟩:=exq ((if er≠0 then (([]:List bP),AR,er) else bK s.size Aa [bY] []));rw[<-AH];have AO:=Hh AH;clear AH;have HT:=Jh As Av;clear As Av;go_enter Tryz.func18,Tryz.ntmps18;go_wp2_with fail;refine hL.mono ?_;clear hL;rintro _ w1 ⟨tv,rfl,hown,hb1⟩
 by_cases he:er=0
 ·subst he
  have AI:=hT.below hb1;have AK:=AI.utf.pos;have AC:=hown.toks;obtain⟨ta,tc,rfl⟩:=hown.len;have Ay:=Jh hb1 AI;have Be:=Hh AC;have AP:Hid (R=bK s.size Aa [bY] []):=Hh (by rw[AO.out,if_neg (fun q=>q rfl)]);clear hown AC hb1 AI AK hT;obtain⟨G,hG⟩:=exq (w1.heap.size+1);have HG:=Hh hG;go_wp2_with (with_reducible first|refine lK ?_)
  refine Stop.out ?_;refine yS rfl _ _ _ rfl 54 128 7 _ Tryz.underlying42 Tryz.infoItm _ _ 1 rfl rfl (by omega) (by unfold maxLen;omega) ?_;rw[show madeCells (Value.agg #[.bool false,.string ⟨#[]⟩,.string ⟨#[]⟩,.string ⟨#[]⟩,.slice none 0 0,.slice none 0 0,.slice none 0 0]).cells (1*7)=ak.toArray by kernel_rfl];go_wp2_with fail;rw[<-hG];have An:=BH.start Aa s.size w1;rw[<-hG] at An;clear hG;go_loopw [7,9,25] (fun rv _ i wr=>∃(k:Nat) (C:List lH) (row:List ag) (v:Value),k<=Aa.length/\i=.int .i64 (k:Int)/\BH Aa s.size w1.heap.size G k C row rv v w1 wr) (fun _ _ i _=>Aa.length-(intOf i).toNat)
  case atStart=>exact⟨0,_,[],_,Nat.zero_le _,rfl,An⟩
  case round=>
   clear An;obtain⟨k,C,row,v,hk,rfl,hI⟩:=hrel;have AB:=jf.below Ay.out.2 hI.kept;have Bi:G<wr.heap.size:=hI.st.gl;have Bl:w1.heap.size<=wr.heap.size:=hI.big;obtain⟨ra,rc,rfl⟩:=hI.own.len
   by_cases hkl:k<Aa.length
   ·obtain⟨bb,Bm,rfl,Bj,q0,q1,q2⟩:=(Be.out.below hI.kept lz).get hkl
    have hA:Below wr.heap.size wr (wr.alloc (.cells #[.int .i64 Aa[k].kind,.string Aa[k].text,.int .i64 Aa[k].pos] 63)):=(Below.refl _ wr).alloc lz _;have Az:=hI.below hA;have Ar:=aa.new wr #[.int .i64 Aa[k].kind,.string Aa[k].text,.int .i64 Aa[k].pos] 63;have HS:=Hh (fun h6=>Az.skip hkl h6);have HR:=Jh (fun stop last=>zI Az stop last (AB.below hA) (by omega) (by have:=HG.out;omega) (fun t ht=>Nat.le_trans (HT.out.1 t ht) (by omega)) HT.out.2) (And.intro hI Az);have Ao:=hI.box;clear hI Az AB hA;have A1:∃kd tx ps,Aa[k].kind=kd/\Aa[k].text=tx/\Aa[k].pos=ps:=⟨_,_,_,rfl,rfl,rfl⟩;obtain⟨kd,tx,ps,A3,A8,A6⟩:=A1;have HK:=Jh A3 (And.intro A8 A6);rw[A3,A8,A6] at Ar;rw[A3] at q0;rw[A8] at q1;rw[A6] at q2;have HQ:Hid (wr.alloc (.cells #[.int .i64 Aa[k].kind,.string Aa[k].text,.int .i64 Aa[k].pos] 63)=wr.alloc (.cells #[.int .i64 kd,.string tx,.int .i64 ps] 63)):=Hh (by rw[A3,A8,A6]);clear A3 A8 A6
    by_cases h6:kd=6\/kd=7
    ·have hS:=HS.out (by rw[HK.out.1];exact h6)
     rw[HQ.out] at hS;have AQ:=Hh hS;obtain⟨Ab,Ae,Ac,Af,Ad,Ag⟩:=Ao.n3 rfl;clear hS HS HR Ao Ar;rcases h6 with rfl|rfl
     ·have e5:((6:Int) != 5)=true:=by decide
      go_wp2_with fail;go_roundw
      case rel=>exact⟨k+1,C,row,v,hkl,by go_num,AQ.out⟩
      case measure=>simp[intOf];omega
     ·go_wp2_with fail
      go_roundw
      case rel=>exact⟨k+1,C,row,v,hkl,by go_num,AQ.out⟩
      case measure=>simp[intOf];omega
    ·by_cases h5:kd=5
     ·subst h5
      have Aw:=HR.out.1 ps false;obtain⟨RR,AG⟩:=exq (bB (C.map (·.x)) row ps false);rw[<-AG] at Aw;rw[HQ.out] at Aw;have Ap:=Hh AG;obtain⟨Ab,Ae,Ac,Af,Ad,Ag⟩:=Ao.n3 rfl;clear AG Ao h6;have e6:((5:Int)==6)=false:=by decide
      have e7:((5:Int)==7)=false:=by decide
      go_wp2_with fail;refine Aw.mono ?_;clear Aw Ar Ab Ac Ad Ae Af Ag;rintro _ w3 ⟨rfl,v3,⟨C3,hC3,hS3⟩,hP3,hK3⟩;have AU:G<w3.heap.size:=hS3.gl;have AJ:=HR.out.2.1.own.capB;obtain⟨-,Bb,A2⟩:=AJ;unfold maxLen at A2
      by_cases he5:RR.2.2=0
      ·have hz:RR.2.1=0:=by rw[Ap.out] at he5 ⊢;exact Ex he5
       rw[he5,hz] at hP3
       have hL:Hid (BH Aa s.size w1.heap.size G (k+1) C3 [] (.slice ra 0 rc) v3 w1 w3):=Hh (by
        have Az:=HR.out.2.2;have h9:RR=bB (C.map (·.x)) row Aa[k].pos false:=by rw[HK.out.2.2];exact Ap.out
        rw[h9] at he5 hC3;refine Az.line hkl HK.out.1 he5 hC3 hS3 (e1:=0) ?_ rfl (by rw[HQ.out];exact hK3)
        rw[he5];exact hP3)
       obtain⟨Ah,Ak,Ai,Al,Aj,Am⟩:=hP3.n3 rfl;clear hP3 hC3 hS3 hK3 HR HS he5 hz Ap HQ;go_wp2_with (with_reducible first|refine jm ?_)
       refine Stop.out ?_;refine mJ rfl _ _ _ 3 rfl Tryz.underlying22 (by kernel_rfl) ra row.length rc rfl _ rfl ?_;go_wp2_with fail;go_roundw
       case rel=>exact⟨k+1,C3,[],v3,hkl,by go_num,hL.out⟩
       case measure=>simp[intOf];omega
      ·have At:Hid (R=([],RR.2)):=Hh (by
        have h9:RR=bB (C.map (·.x)) row Aa[k].pos false:=by rw[HK.out.2.2];exact Ap.out
        rw[AP.out,h9]
        exact HR.out.2.1.rest.bad hkl HK.out.1 (by rw[<-h9];exact he5))
       have A0:Hid (Below w.heap.size w w3):=Hh (Ay.out.1.trans ((HR.out.2.1.kept.trans ((Below.refl _ wr).alloc HR.out.2.1.big (.cells #[.int .i64 5,.string tx,.int .i64 ps] 63) |>.trans hK3.1)).mono Ay.out.1.size));have AD:(RR.2.2 != 0)=true:=by simpa using he5
       have Bf:Hid (RR.2=(RR.2.1,RR.2.2)):=Hh rfl;clear hC3 hS3 hK3 HR HS Ap HQ he5;generalize RR.2.1=pa at *;generalize RR.2.2=pe at *;obtain⟨Ah,Ak,Ai,Al,Aj,Am⟩:=hP3.n3 rfl;clear hP3;go_wp2_with (with_reducible first|refine jm ?_)
       refine Stop.out ?_;refine mJ rfl _ _ _ 3 rfl Tryz.underlying22 (by kernel_rfl) ra row.length rc rfl _ rfl ?_;go_wp2_with fail;go_quiet (fail)
       go_wp2_with fail;refine bodyPost_ret (v:=.tuple #[.slice none 0 0,.int .i64 pa,.int .i64 pe]) (by simp[results,Tryz.results18,go_sem]) rfl ?_;rw[At.out,Bf.out];exact⟨⟨_,rfl,mq.nil⟩,ah A0.out _⟩
     ·have AT:Aa[k].kind≠5/\¬(Aa[k].kind=6\/Aa[k].kind=7):=by rw[HK.out.1];exact⟨h5,h6⟩
      have e5:(kd==5)=false:=by simpa using h5
      have e6:(kd==6)=false:=by simp at h6 ⊢;omega
      have e7:(kd==7)=false:=by simp at h6 ⊢;omega
      have AN:=Hh AT;have A7:aI w1.heap.size (wr.alloc (.cells #[.int .i64 kd,.string tx,.int .i64 ps] 63)) (.slice ra row.length rc) row:=by rw[<-HQ.out];exact HR.out.2.2.own
      have Bk:=HR.out.2.1.len;obtain⟨Ab,Ae,Ac,Af,Ad,Ag⟩:=Ao.n3 rfl;clear Ao AT h5 h6;go_wp2_with (with_reducible first|refine aA ?_)
      refine Stop.out ?_
      refine gB rfl _ _ rfl w1.heap.size row ⟨kd,tx,ps⟩ (by exact A7.alloc _) (wr.heap.size+1) (by first|rfl|simp) (by
       have:=aa.new (wr.alloc (.cells #[.int .i64 kd,.string tx,.int .i64 ps] 63)) #[.int .i64 kd,.string tx,.int .i64 ps] 63;rw[World.size_alloc] at this
       exact this) (by omega) (by simp;omega) (wr.heap.size+2) (by simp) ?_
      intro g3 cap3 w3 hown3 hg3 hat3 hlt3
      have AF:Hid (BH Aa s.size w1.heap.size G (k+1) C (row++[Aa[k]]) (.slice (some ⟨g3,0,none⟩) (row.length+1) cap3) v w1 w3):=Hh (by
       have A9:=HR.out.2.2;rw[HQ.out] at A9;have A9:=A9.below ((Below.refl _ _).alloc lz (.cells #[.int .i64 kd,.string tx,.int .i64 ps] 63))
       have AC:Aa[k]=⟨kd,tx,ps⟩:=by
        obtain⟨z1,z2,z3⟩:=HK.out;rw[<-z1,<-z2,<-z3]
       have A5:aI w1.heap.size w3 (.slice (some ⟨g3,0,none⟩) (row.length+1) cap3) (row++[Aa[k]]):=by rw[AC];exact hown3
       exact A9.tok hkl AN.out.1 AN.out.2 A5 hg3 (hat3.imp id (fun q=>by simpa using q)) hlt3)
      have Ao:=AF.out.box;have AU:G<w3.heap.size:=AF.out.st.gl;clear hown3 hg3 hat3 hlt3 A7 Ar HR HQ HS q0 q1 q2 Ab Ac Ad Ae Af Ag;obtain⟨Ab,Ae,Ac,Af,Ad,Ag⟩:=Ao.n3 rfl;clear Ao;go_wp2_with fail;go_roundw
      case rel=>exact⟨k+1,C,_,v,hkl,by go_num,by simpa using AF.out⟩
      case measure=>simp[intOf];omega
   ·obtain rfl:k=Aa.length:=by omega
    have Aw:=zI hI s.size true AB (by omega) (by have:=HG.out;omega) (fun t ht=>Nat.le_trans (HT.out.1 t ht) (by omega)) HT.out.2;have Aq:=hI.rest.last lz;have Bd:=pu hI.small.1 row s.size true;have HI:=Hh hI;rw[<-AP.out] at Aq;have Ao:=hI.box;generalize bB (C.map (·.x)) row s.size true=RR at *;have Ap:=Jh Aq Bd;clear hI AB Aq Bd;obtain⟨Ab,Ae,Ac,Af,Ad,Ag⟩:=Ao.n3 rfl;clear Ao;go_wp2_with fail;refine Aw.mono ?_;clear Aw Ab Ac Ad Ae Af Ag;rintro _ w3 ⟨rfl,v3,⟨C3,hC3,hS3⟩,hP3,hK3⟩;have AU:G<w3.heap.size:=hS3.gl;have A0:Hid (Below w.heap.size w w3):=Hh (Ay.out.1.trans ((HI.out.kept.trans hK3.1).mono Ay.out.1.size));clear HI hK3
    by_cases he5:RR.2.2=0
    ·have AM:C3≠[]:=fun e=>Ap.out.2 (by rw[hC3,e];rfl)
     have Ax:=Ap.out.1;rw[if_neg (fun q=>q he5),hC3] at Ax;rw[he5] at hP3;generalize RR.2.1=pa at *;clear Ap he5
     by_cases hn:1<C3.length
     ·rw[if_pos (by simpa using hn)] at Ax
      have AA:=Hh Ax;obtain⟨ob,oc,Bg,-⟩:=World.ownsRow.form hS3.row (by omega);subst Bg;have hF:=qG G _ _ _ s.size 2 w3 hP3;have hm:(1:Int)<(C3.length:Int):=by omega
      generalize C3.length=n3 at *;obtain⟨Ah,Ak,Ai,Al,Aj,Am⟩:=hP3.n3 rfl;clear hP3 hS3 hC3 AM hn Ax;go_wp2_with fail;refine hF.mono ?_;clear hF Ah Ai Aj Ak Al Am;rintro _ w4 ⟨rfl,hP4,hw4⟩
      have AE:Hid (Below w.heap.size w w4):=Hh (by
       rw[hw4];have h1:=HG.out;have h2:=Ay.out.1.size
       exact (A0.out.setCell (p:=⟨G,1,none⟩) (by show w.heap.size<=G;omega) _).setCell (p:=⟨G,2,none⟩) (by show w.heap.size<=G;omega) _)
      have Bh:G<w4.heap.size:=hP4.lt;obtain⟨AV,AY,AW,AZ,AX,Ba⟩:=hP4.n3 rfl;clear hP4 hw4;have e2:((2:Int) != 0)=true:=by decide
      go_wp2_with fail;go_quiet (fail)
      go_wp2_with fail;refine bodyPost_ret (v:=.tuple #[.slice none 0 0,.int .i64 s.size,.int .i64 2]) (by simp[results,Tryz.results18,go_sem]) rfl ?_;rw[AA.out];exact⟨⟨_,rfl,mq.nil⟩,ah AE.out _⟩
     ·rw[if_neg (by simpa using hn)] at Ax
      obtain⟨ob,oc,iv,rfl,Bc,Au⟩:=hS3.end hn AM;have AA:=Jh Ax Au;obtain⟨ia,ic,rfl,-⟩:=Au.len;generalize ((C3.map (·.x)).head?.getD bY).items=its at *;obtain⟨Ah,Ak,Ai,Al,Aj,Am⟩:=hP3.n3 rfl;clear hP3 hS3 hC3 AM hn Ax Au;go_wp2_with fail;refine bodyPost_ret (v:=.tuple #[.slice ia its.length ic,.int .i64 (-1),.int .i64 0]) (by simp[results,Tryz.results18,go_sem]) rfl ?_;rw[AA.out.1];exact⟨⟨_,rfl,AA.out.2⟩,A0.out⟩
    ·have At:Hid (R=([],RR.2.1,RR.2.2)):=Hh (by rw[Ap.out.1,if_pos he5])
     have AD:(RR.2.2 != 0)=true:=by simpa using he5
     have AS:(RR.2.2==0)=false:=by simpa using he5
     clear hC3 hS3 Ap he5;generalize RR.2.1=pa at *;generalize RR.2.2=pe at *;obtain⟨Ah,Ak,Ai,Al,Aj,Am⟩:=hP3.n3 rfl;clear hP3;go_wp2_with fail;go_quiet (fail)
     go_wp2_with fail;refine bodyPost_ret (v:=.tuple #[.slice none 0 0,.int .i64 pa,.int .i64 pe]) (by simp[results,Tryz.results18,go_sem]) rfl ?_;rw[At.out];exact⟨⟨_,rfl,mq.nil⟩,ah A0.out _⟩
 ·have e0:(er != 0)=true:=by simpa using he
  go_wp2_with fail;refine bodyPost_end (v:=.tuple #[.slice none 0 0,.int .i64 AR,.int .i64 er]) (by simp[results,Tryz.results18,go_sem]) rfl ?_;rw[AO.out,if_pos he];exact⟨⟨_,rfl,mq.nil⟩,hb1⟩
end Go.Proofs.YtbcdaaobbebooaaGreatDoor
namespace Go.Proofs.YtbcdaaobbebooaaGreatDoor
theorem xY:∀(k:Nat) (l:Bs) (p:Nat),l.length<=k->(∀t∈(aY l p).1,0<=t.pos/\t.pos<=(p+l.length:Nat))/\-1<=(aY l p).2.1/\(aY l p).2.1<=(p+l.length:Nat)
 | 0,l,p,h=>by
  obtain rfl:=List.eq_nil_of_length_eq_zero (Nat.le_zero.1 h);rw[eZ];exact⟨fun t ht=>(by cases ht),by simp,by simp only;omega⟩
 | k+1,[],p,_=>by
  rw[eZ];exact⟨fun t ht=>(by cases ht),by simp,by simp only;omega⟩
 | k+1,c::r,p,h=>by
  simp only[List.length_cons] at h ⊢
  by_cases hb:cz c=true
  ·rw[dF hb]
   obtain⟨h1,h2,h3⟩:=xY k r (p+1) (by omega);exact⟨fun t ht=>by have:=h1 t ht;omega,h2,by omega⟩
  ·have hb:cz c=false:=by simpa using hb
   cases ho:eY (c::r) with
   |bad off e=>
    rw[gp hb ho];have:=CP ho;simp only[List.length_cons] at this;exact⟨fun t ht=>(by cases ht),by simp only;omega,by simp only;omega⟩
   |tok kd sz=>
    have hs:=dN ho;rw[eF hb ho];simp only[List.length_cons] at hs;obtain⟨h1,h2,h3⟩:=xY k ((c::r).drop sz) (p+sz) (by rw[List.length_drop,List.length_cons];omega);rw[List.length_drop,List.length_cons] at h1 h3;refine⟨fun t ht=>?_,h2,by simp only at h3 ⊢;omega⟩;rcases List.mem_cons.1 ht with rfl|ht
    ·simp only;omega
    ·have:=h1 t ht;omega
end Go.Proofs.YtbcdaaobbebooaaGreatDoor
namespace Go.Proofs.YtbcdaaobbebooaaGreatDoor
open Go.RowKit Go.Tab
def q9(B:Nat)(w:World)(v:Value)(L:List kD):Prop:=
 ∃D:List (eB×kD),D.map (·.2)=L/\w.ownsRow B 110 4 v D.length (D.flatMap nM)/\∀d∈D,aI B w (bQ d.1) d.2.toks
theorem pK{B B2 n sz:Nat}{E:TypeId}{w:World}{v:Value}{xs:List Value}(h:w.ownsRow B E sz v n xs)(hb:B2<=B):w.ownsRow B2 E sz v n xs:=by
 obtain⟨h1,h2⟩:=h;refine⟨h1,?_⟩;rcases h2 with h2|⟨g,cap,cur,hv,hg,r⟩
 ·exact .inl h2
 ·exact .inr ⟨g,cap,cur,hv,by omega,r⟩
theorem q9.nil(B:Nat)(w:World):q9 B w (.slice none 0 0) []:=⟨[],rfl,World.ownsRow_nil _ _ _ _,fun d hd=>by cases hd⟩
theorem q9.base{B B2:Nat}{w:World}{v:Value}{L:List kD}(h:q9 B w v L)(hb:B2<=B):q9 B2 w v L:=by
 obtain⟨D,h1,h2,h3⟩:=h;exact⟨D,h1,pK h2 hb,fun d hd=>(h3 d hd).base_le hb⟩
theorem qN.rows{B gr go gl:Nat}{w:World}{lv:Value}{D:List (eB×kD)}{cur:eB}{toks:List ag}{fr hi dp o:Int}(h:qN B gr go gl w lv D cur toks fr hi dp o):q9 B w lv (D.map (·.2)):=⟨D,rfl,h.own,fun d hd=>(h.fin d hd).1⟩
theorem qN.start(w1:World):qN w1.heap.size (w1.heap.size+1) (w1.heap.size+2) w1.heap.size
  (((w1.alloc (.cells #[.slice none 0 0] 95)).alloc (.cells #[.slice none 0 0,.int .i64 0,.int .i64 0,.int .i64 0] 110)).alloc (.cells #[.int .i64 0] 3)) (.slice none 0 0) [] (none,0,0) [] 0 0 0 0:=by
 have c1:=((aa.new w1 #[.slice none 0 0] 95).alloc (.cells #[.slice none 0 0,.int .i64 0,.int .i64 0,.int .i64 0] 110)).alloc (.cells #[.int .i64 0] 3);have c2:=(aa.new (w1.alloc (.cells #[.slice none 0 0] 95)) #[.slice none 0 0,.int .i64 0,.int .i64 0,.int .i64 0] 110).alloc (.cells #[.int .i64 0] 3);have c3:=aa.new ((w1.alloc (.cells #[.slice none 0 0] 95)).alloc (.cells #[.slice none 0 0,.int .i64 0,.int .i64 0,.int .i64 0] 110)) #[.int .i64 0] 3;simp only[World.size_alloc] at c2 c3;exact⟨c2,c3,c1,World.ownsRow_nil _ _ _ _,(by simp[Value.ownBlock]),aI.nil,(fun d hd=>by cases hd),by omega⟩
theorem KI(l:Bs):∀t∈(kz l).1,0<=t.pos/\t.pos<=(l.length:Nat):=by
 have:=(xY l.length l 0 lz).1;rw[Nat.zero_add] at this;unfold kz;split
 ·exact this
 ·intro t ht;cases ht
theorem Lh(o:Int)(l:List ag)(m:Nat)(h : -(m:Int)<=o/\o<=m) : -((m+1:Nat):Int)<=dD o l/\dD o l<=((m+1:Nat):Int):=by
 unfold dD dR;split<;>split<;>omega
theorem Es{size:Int}{l:List ag}{k:Nat}(hk:k<l.length)(h:l[k].kind≠5)(cur:List ag)(fr o:Int):eD size (l.drop k) cur fr o=eD size (l.drop (k+1)) (cur++[l[k]]) fr o:=by
 rw[List.drop_eq_getElem_cons hk,eD,if_neg h]
theorem Hy{size:Int}{l:List ag}{k:Nat}(hk:k<l.length)(h:l[k].kind=5)(cur:List ag)(fr o:Int):eD size (l.drop k) cur fr o=ui o cur fr l[k].pos::eD size (l.drop (k+1)) [] (l[k].pos+1) (dD o cur):=by
 rw[List.drop_eq_getElem_cons hk,eD,if_pos h]
structure Pp(w1:World)(size:Int)(R:List kD)(toks:List ag)(k:Nat)(w:World)(lv:Value)(D:List (eB×kD))(cur:eB)(ct:List ag)(fr hi dp o:Int):Prop where
 s:qN w1.heap.size (w1.heap.size+1) (w1.heap.size+2) w1.heap.size w lv D cur ct fr hi dp o
 b:Below w1.heap.size w1 w
 r:R=D.map (·.2)++eD size (toks.drop k) ct fr o
 n:D.length+ct.length<=k
 o : -(D.length:Int)<=o/\o<=D.length
 f:0<=fr/\fr<=size+1
theorem EQ(s:ByteArray)(w:World)(hT:jf w)(hs:s.size<=800000):Calls Tryz.prog 61 #[.string s] w fun e w'=>∃v,e=.returned v/\q9 w.heap.size w' v (bR s.data.toList)/\Below w.heap.size w w':=by
 have hL:=tV s w hT (by omega);have A0:s.data.toList.length=s.size:=eX s;have An:=KI s.data.toList;have As:=(C9 s.data.toList).1;obtain⟨R,hR⟩:=exq (bR s.data.toList);rw[<-hR];unfold bR at hR;rw[A0] at An As hR;generalize kz s.data.toList=X at *;obtain⟨Aa,A8,er⟩:=X;simp only at hL As An hR;have HR:=Hh hR;have HP:=Hh An;clear hR An A0;go_enter Tryz.func61,Tryz.ntmps61;go_wp2_with fail;refine hL.mono ?_;clear hL;rintro _ w1 ⟨tv,rfl,hown,hb1⟩
 by_cases he:er=0
 ·subst he
  have A4:Hid (R=eD s.size Aa [] 0 0):=Hh (by rw[HR.out,if_pos rfl]);have A1:=hown.toks;obtain⟨ta,tc,rfl⟩:=hown.len;have Ap:=Hh hb1;have A2:=Hh A1;have Az:=qN.start w1;have Ax:=Hh Az;clear hown A1 hb1 hT HR Az;obtain⟨G,hG⟩:=exq w1.heap.size;go_wp2_with fail;go_loopw [24] (fun i wr=>∃(k:Nat) (lv:Value) (D:List (eB×kD)) (cur:eB) (ct:List ag) (fr hi dp o:Int),k<=Aa.length/\i=.int .i64 (k:Int)/\Pp w1 s.size R Aa k wr lv D cur ct fr hi dp o) (fun i _=>Aa.length-(intOf i).toNat)
  case atStart=>exact⟨0,_,_,_,[],0,0,0,0,Nat.zero_le _,rfl,Ax.out,by (with_reducible repeat' first|refine Below.setCell ?_ ?_ _|refine Below.alloc ?_ ?_ _|refine Below.drew ?_|refine ah ?_ _|assumption|exact Below.refl _ _|(simp only[World.size_alloc,World.size_setCell,World.size_drew];first|done|omega)|omega),by rw[A4.out,List.drop_zero];rfl,Nat.le_refl _,by simp,by omega⟩
  case round=>
   clear Ax;obtain⟨k,lv,D,cur,ct,fr,hi,dp,o,hk,rfl,hI⟩:=hrel;have A7:=hI.b.size
   by_cases hkl:k<Aa.length
   ·obtain⟨b,AB,rfl,Av,hq⟩:=kE (A2.out.below hI.b lz) hkl
    obtain⟨q0,q1,q2⟩:=hq wr (Below.refl _ _);have A6:=HP.out Aa[k] (List.getElem_mem hkl);have HE:=Hh (fun h=>Hy (size:=s.size) hkl h ct fr o);have HS:=Hh (fun h=>Es (size:=s.size) hkl h ct fr o);have Au:=dM wr Aa[k];generalize Aa[k]=t at *;have h1:=hI.s.below Au;have Ay:=hI.b.trans (Au.mono A7);obtain⟨kd,tx,ps⟩:=t;simp only at q0 q1 q2 A6 HE HS;have HI:=Jh hI (And.intro h1 Ay);have hr:=hI.s.r;have ho:=hI.s.o;have hl:=hI.s.l;have lr:=hr.lt;have lo:=ho.lt;have ll:=hl.lt;obtain⟨Ab,Ah,Ae,Ai,Af,Aj,Ag,Ak⟩:=hr.n4 rfl;obtain⟨Al,Am⟩:=ho.n1 rfl;obtain⟨Ac,Ad⟩:=hl.n1 rfl;clear hr ho hl;clear hq Au hI h1 Ay
    by_cases h5:kd=5
    ·subst h5
     have Aq:=vF HI.out.2.1 ps (by omega) (by have:=HI.out.1.o;have:=HI.out.1.n;omega) (by have:=HI.out.1.n;omega) (by have:=HI.out.1.n;omega);go_wp2_with fail;refine Aq.mono ?_;rintro _ w3 ⟨rfl,⟨lv3,h3⟩,hb3⟩
     have HN:Hid (Pp w1 s.size R Aa (k+1) w3 lv3 (D++[(cur,ui o ct fr ps)]) (none,0,0) [] (ps+1) 0 0 (dD o ct)):=Hh (by
      refine⟨h3,HI.out.2.2.trans hb3,?_,?_,?_,by omega⟩
      ·rw[HI.out.1.r,HE.out (by trivial)];simp
      ·have:=HI.out.1.n;simp;omega
      ·have:=Lh o ct D.length HI.out.1.o
       simpa using this)
     clear Aq h3 hb3 Ab Ae Af Ag Ah Ai Aj Ak Al Am Ac Ad lr lo ll q0 q1 q2;go_wp2_with fail;go_roundw
     case rel=>exact⟨k+1,_,_,_,_,_,_,_,_,hkl,by go_num,HN.out⟩
     case measure=>simp[intOf];omega
    ·have e5:(kd==5)=false:=by simpa using h5
     obtain⟨ca,cn,cc⟩:=cur;obtain⟨a',c',e'⟩:=HI.out.1.s.tk.len;simp only[bQ,Value.slice.injEq] at e';obtain⟨rfl,rfl,rfl⟩:=e';have H2:=Hh (HI.out.2.1.below (dM _ ⟨kd,tx,ps⟩));have Ao:=H2.out.tk;have Aq:=HI.out.1.n;simp only[bQ] at Ab Ao;have A5:=Hh (HS.out h5);clear h5 HS HE;go_wp2_with (with_reducible first|refine aA ?_)
     refine Stop.out ?_
     refine gB rfl _ _ rfl w1.heap.size ct ⟨kd,tx,ps⟩ (by exact Ao) (wr.heap.size+1) (by first|rfl|simp) (by
      have:=aa.new (wr.alloc (.cells #[.int .i64 kd,.string tx,.int .i64 ps] 63)) #[.int .i64 kd,.string tx,.int .i64 ps] 63;rw[World.size_alloc] at this
      exact this) (by omega) (by simp;omega) (wr.heap.size+2) (by simp) ?_
     intro g3 cap3 w3 hown3 hg3 hat3 hlt3;have hN:=H2.out.tok hg3 hown3 (hat3.imp id (fun q=>by simp;omega))
     have HN:Hid (Pp w1 s.size R Aa (k+1) (w3.setCell ⟨w1.heap.size+1,0,none⟩ (.slice (some ⟨g3,0,none⟩) (ct.length+1) cap3)) lv D (some ⟨g3,0,none⟩,ct.length+1,cap3) (ct++[⟨kd,tx,ps⟩]) fr hi dp o):=Hh (by
      refine⟨hN,?_,?_,?_,HI.out.1.o,HI.out.1.f⟩
      ·have hA:=(HI.out.2.2.alloc (by simp;omega) (kg ⟨kd,tx,ps⟩)).grown hg3 (by simp;omega) (fun j e=>(World.ownsRow.lt Ao j e).1)
       exact hA.setCell (by show w1.heap.size<=w1.heap.size+1;omega) _
      ·rw[HI.out.1.r,A5.out]
      ·simp;omega)
     have hr:=H2.out.r.kept hg3 (fun e=>(H2.out.cur_fresh _ e.symm).2.1 rfl);clear Ao hg3 hown3 hat3 hN Ab Ae Af Ag Ah Ai Aj Ak Al Am Ac Ad lr lo ll q0 q1 q2;have lr:=hr.lt;obtain⟨Ab,Ah,Ae,Ai,Af,Aj,Ag,Ak⟩:=hr.n4 rfl;clear hr;go_wp2_with fail;go_roundw
     case rel=>exact⟨k+1,_,_,_,_,_,_,_,_,hkl,by go_num,HN.out⟩
     case measure=>simp[intOf];omega
   ·obtain rfl:k=Aa.length:=by omega
    have At:=hI.r;rw[List.drop_length,eD] at At;have HI:=Hh hI;have A9:=hI.f;have Aw:=Hh At;have hr:=hI.s.r;have ho:=hI.s.o;have hl:=hI.s.l;have lr:=hr.lt;have lo:=ho.lt;have ll:=hl.lt;obtain⟨Ab,Ah,Ae,Ai,Af,Aj,Ag,Ak⟩:=hr.n4 rfl;obtain⟨Al,Am⟩:=ho.n1 rfl;obtain⟨Ac,Ad⟩:=hl.n1 rfl;clear hr ho hl;clear hI At
    by_cases Av:fr<(s.size:Int)
    ·have Aq:=vF HI.out.s s.size (by omega) (by have:=HI.out.o;have:=HI.out.n;omega) (by have:=HI.out.n;omega) (by have:=HI.out.n;omega)
     have Ar:=Aw;rw[if_pos Av] at Ar;go_wp2_with fail;refine Aq.mono ?_;rintro _ w3 ⟨rfl,⟨lv3,h3⟩,hb3⟩;have HN:=Jh h3 (HI.out.b.trans hb3);clear Aq hb3 Ab Ae Af Ag Ah Ai Aj Ak Al Am Ac Ad lr lo ll;have hl:=h3.l;have ll:=hl.lt;obtain⟨Ac,Ad⟩:=hl.n1 rfl;clear h3 hl;go_wp2_with fail;go_ret;refine⟨_,rfl,?_,Ap.out.trans (HN.out.2.mono Ap.out.size)⟩;have:=HN.out.1.rows.base (B2:=w.heap.size) (by have:=Ap.out.size;omega);rw[Ar.out]
     simpa using this
    ·have Ar:=Aw
     rw[if_neg Av] at Ar;go_wp2_with fail;go_ret;refine⟨_,rfl,?_,Ap.out.trans (HI.out.b.mono Ap.out.size)⟩;have:=HI.out.s.rows.base (B2:=w.heap.size) (by have:=Ap.out.size;omega);rw[Ar.out]
     simpa using this
 ·have AA:(er != 0)=true:=by simpa using he
  have Ap:=Hh hb1;have A3:Hid (R=[]):=Hh (by rw[HR.out,if_neg he]);clear hown hb1 he HR;go_wp2_with fail;go_ret;rw[A3.out];exact⟨_,rfl,q9.nil _ _,Ap.out⟩
end Go.Proofs.YtbcdaaobbebooaaGreatDoor
