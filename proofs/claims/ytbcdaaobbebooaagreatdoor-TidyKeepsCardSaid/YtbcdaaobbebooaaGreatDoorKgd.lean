import Derived.Test.YtbcdaaobbebooaaGreatDoorKgb
import Derived.Test.YtbcdaaobbebooaaGreatDoorKgc
import Derived.RangeFuncNested
import Derived.RangeFuncBound
import Derived.RangeFuncBox
import Derived.RangeFuncCalls
import Derived.RangeFuncLeaves
import Derived.Shelf.Abstract
import Derived.Shelf.RegionOpen
import Derived.OwnWalkIn
import Derived.TacticsInMore
import Derived.LoopNIn
import Derived.LoopIn
import Derived.Maps.AppendAt
import Derived.Sort.QuietIn
import Derived.RegionIn
import Derived.Defers
import Derived.Recover
import Derived.Lib.IndexAny
import Derived.Lib.Bytealg
import Derived.Lib.LaidTab
import Derived.IntWalk
set_option linter.unusedSimpArgs false
set_option linter.unusedVariables false
set_option maxRecDepth 100000
set_option maxHeartbeats 20000000
namespace Go.Proofs.YtbcdaaobbebooaaGreatDoor
open Go.RowKit Go.Tab Go.Shelf
attribute [local go_sem] Oper.semAt_some
theorem wo(s:ByteArray)(w:World) :
  Calls Tryz.prog 189 #[.string s] w fun e w'=>e=.returned (.func (.func 212) #[] #[.pointer (some ⟨w.heap.size,0,none⟩)])/\w'=w.alloc (.cells #[.string s] 9):=by
 go_enter Tryz.func189,Tryz.ntmps189;go_wp2;go_ret;exact⟨rfl,rfl⟩
def dD(g:Nat)(A B:World):Prop:=A.heap.size<=B.heap.size/\B.heap[1]?=A.heap[1]?/\B.heap[g]?=A.heap[g]?
theorem dD.refl(g:Nat)(A:World):dD g A A:=⟨Nat.le_refl _,rfl,rfl⟩
theorem dD.trans{g:Nat}{A B C:World}(h:dD g A B)(h2:dD g B C):dD g A C:=⟨Nat.le_trans h.1 h2.1,h2.2.1.trans h.2.1,h2.2.2.trans h.2.2⟩
theorem dD.tab{g:Nat}{A B:World}(h:dD g A B)(hT:Tab A):Tab B:=fun j hj=>(World.cell?_of_block h.2.1).trans (hT j hj)
theorem dD.box{g:Nat}{A B:World}(h:dD g A B){v:Value}(hc:A.cell? ⟨g,0,none⟩=some v):B.cell? ⟨g,0,none⟩=some v:=(World.cell?_of_block h.2.2).trans hc
theorem JW(n:Nat)(hn:2<=n)(l0 Bn:Nat)(s:ByteArray)(hs:s.size<=1048576)(J Jx:List (Nat×Nat)->World->Prop)
  (hY:∀pre x W,J pre W->pre.length<(scan (bs s) 0).1.length->YieldAt Fence.wide (n-1) Tryz.prog l0 #[.int .i64 (x.1:Nat),.int .i64 (x.2:Nat)] W fun e W'=>
   (e=.returned (.bool true)/\J (pre++[x]) W'/\dD Bn W W')\/(e=.returned (.bool false)/\Jx (pre++[x]) W'))
  (W:World) (hBn:W.cell? ⟨Bn,0,none⟩=some (.string s)) (hT:Tab W) (h0:J [] W) :
  CallsIn Fence.wide n Tryz.prog 212 #[.func (.yield l0) #[] #[],.pointer (some ⟨Bn,0,none⟩)] W fun e W'=>(∃v,e=.returned v)/\
   ((∃ys,ys=(scan (bs s) 0).1/\J ys W')\/(∃pre,pre <+: (scan (bs s) 0).1/\Jx pre W')):=by
 refine callsIn_of_wp Tryz.func212 rfl trivial ?_ rfl;simp only[Tryz.ntmps212,List.size_toArray,List.length_cons,List.length_nil,Nat.reduceAdd,Nat.reduceSub,Array.replicate_succ,Array.replicate_zero,List.push_toArray,List.append_toArray,List.nil_append,List.cons_append]
 gi_wp2
 gi_loopw [3] (fun i wr=>∃(k:Nat) (pre:List (Nat×Nat)),i=.int .i64 k/\k<=s.size/\nQ (bs s) k pre/\J pre wr/\dD Bn W wr)
  (fun i wr=>s.size-(intOf i).toNat)
 case atStart=>exact⟨0,[],rfl,Nat.zero_le _,nQ.zero _,h0,dD.refl _ _⟩
 case round=>
  obtain⟨k,pre,rfl,hk,hr,hJ,hb⟩:=hrel;have HR:=Hh hr;have Ai:=hb.box hBn;have Ae:=hb.tab hT;clear hr
  by_cases h:k<s.size
  ·obtain⟨c,m,h1⟩:∃c m,aF ((bs s).drop k)=(c,m):=⟨_,_,rfl⟩
   have Ac:=(ko ((bs s).drop k) (fun x hx=>fI x (List.mem_of_mem_drop hx))).1;have hF:=uK s k wr Ae (by omega);unfold gJ at hF;rw[h1] at hF Ac;simp only[List.length_drop,ax] at Ac;have H1:=Hh h1;have HF:=Hh hF;clear h1 hF
   by_cases hm:m=0
   ·subst hm
    have h2:=Hh (HR.out.bad (by rw[ax];exact h) (by rw[H1.out]));clear hY
    gi_wp2
    refine⟨trivial,fun _=>by omega,?_⟩;refine (callsIn_wide.2 HF.out).mono ?_;rintro e w9 ⟨rfl,rfl⟩;clear HF
    gi_wp2
    refine⟨fun _ h=>(by cases h),?_⟩
    gi_wp2
    refine bodyPost_ret (results_none rfl _ _ _) rfl ?_;exact⟨⟨_,rfl⟩,.inl ⟨pre,by rw[h2.out],hJ⟩⟩
   ·have h2:=Hh (HR.out.good (by rw[ax];exact h) H1.out hm)
    have Ah:((m:Int)==0)=false:=by rw[beq_eq_false_iff_ne];omega
    have Aj:1<=m:=by omega
    have Af:pre.length<(scan (bs s) 0).1.length:=by rw[h2.out];simp
    obtain⟨fn,Ag,Aa,Ad,hy,hR⟩:=hY pre (k,c) wr hJ Af;have Ab:Hid (pre++[(k,c)] <+: (scan (bs s) 0).1):=Hh ⟨(scan ((bs s).drop (k+m)) (k+m)).1,by rw[h2.out]⟩;clear hm hY
    gi_wp2
    refine⟨trivial,fun _=>by omega,?_⟩;refine (callsIn_wide.2 HF.out).mono ?_;rintro e w9 ⟨rfl,rfl⟩;clear HF
    gi_wp2
    refine⟨fun _=>by omega,hR.mono ?_⟩;rintro e W3 (⟨rfl,hJ3,hk3⟩|⟨rfl,hJx3⟩)
    ·gi_wp2
     refine⟨⟨k+m,pre++[(k,c)],by go_num,by omega,h2.out,hJ3,hb.trans hk3⟩,?_⟩;simp[intOf];omega
    ·gi_wp2
     refine bodyPost_ret (results_none rfl _ _ _) rfl ?_;exact⟨⟨_,rfl⟩,.inr ⟨_,Ab.out,hJx3⟩⟩
  ·have h2:=Hh (HR.out.done (by rw[ax];omega))
   clear hY
   gi_wp2
   refine bodyPost_end (results_none rfl _ _ _) rfl ?_;exact⟨⟨_,rfl⟩,.inl ⟨pre,by rw[h2.out],hJ⟩⟩
attribute [local go_sem] Oper.semAt_some
theorem nZ(l:List Nat):aF (l.take 4)=aF l:=by
 match l with
 |[]=>rfl
 |[_]=>rfl
 |[_,_]=>rfl
 |[_,_,_]=>rfl
 |[_,_,_,_]=>rfl
 |a::b::c::d::e::r=>rfl
def PO(g:Nat)(s:ByteArray)(w:World)(v:Value)(k':Nat)(l':List UInt8)(e:Ending)(w':World):Prop:=
 e=.returned v/\cz w' g s k' l'/\Below g w w'
def Pe(g:Nat)(s:ByteArray)(w:World)(k:Nat)(l:List UInt8)(L:List Nat)(e:Ending)(w':World):Prop:=
 ((aF L).2≠0/\PO g s w (.tuple #[]) (k+(aF L).2) (l++un (L.take (aF L).2)) e w')\/((aF L).2=0/\El g w 7 e w')
theorem xZ(s:ByteArray)(a b:Nat):bs (s.extract a b)=((bs s).drop a).take (b-a):=by
 simp[bs,List.map_drop,List.map_take,List.drop_take]
def nA(c:Nat):List UInt8:=if j4 c then gm c else []
theorem CQ(c:Nat):(nA c).length<=4:=by
 unfold nA;split
 ·rw[jm];exact (pX c).2
 ·simp
theorem Ei(c:Nat)(w:World):Calls Tryz.prog 209 #[.int .i64 c] w fun e w'=>e=.returned (.tuple #[.string (bf (nA c)),.bool (j4 c)])/\Below w.heap.size w w':=by
 unfold nA
 cases h:j4 c with
 |true=>
  refine (BO c w h).mono ?_;rintro e w' ⟨rfl,hb⟩;exact⟨by simp,hb⟩
 |false=>
  refine (LZ (c:Int) w (by rw[fo];exact h)).mono ?_;rintro e w' ⟨rfl,rfl⟩;exact⟨rfl,Below.refl _ _⟩
theorem cz.kept{w w':World}{g:Nat}{s:ByteArray}{k:Nat}{l:List UInt8}{row:Option Nat}(h:cz w g s k l)(hg:w.grownBy w' row)(hr:∀r,row=some r->∃o:Obj,w.heap[r]?=some o/\o.isCells=false):cz w' g s k l:=by
 obtain⟨cs,⟨h1,h2,v,h3,h4⟩,h5⟩:=h
 have Aa:v.ownBlock=none\/v.ownBlock≠row:=by
  cases hv:v.ownBlock with
  |none=>exact .inl rfl
  |some b=>
   refine .inr fun e=>?_;obtain⟨o,ho,hc⟩:=hr _ e.symm;obtain⟨Ab,fr,hb⟩:=rG h4 b hv;rw[hb] at ho;cases ho;cases hc
 refine⟨cs,⟨h1.kept hg ?_,h2,v,h3,h4.kept hg Aa⟩,h5⟩;intro e;obtain⟨o,ho,hc⟩:=hr _ e.symm;rw[show w.heap[g]?=_ from h1] at ho;cases ho;cases hc
theorem tu{E:TypeId}{B g:Nat}{w w':World}{cs:Array Value}{t:TypeId}(h:bD E g w w')(hg:ae w g cs t):KeepsFrom B w w':=
 ⟨h.1,fun k o _ hk ho=>h.2 k o (by rintro rfl;rw[show w.heap[k]?=_ from hg] at hk;cases hk;cases ho) hk (fun cs' fr e=>by subst e;cases ho)⟩
def PI(w:World)(g:Nat)(s:ByteArray)(k:Nat)(l:List UInt8)(pre:List (Nat×Nat))(W:World):Prop:=
 (pre=[]/\cz W g s k l/\ae W w.heap.size #[.pointer (some ⟨g,0,none⟩)] 178)/\Below g w W
def PH(w:World)(g:Nat)(s:ByteArray)(k:Nat)(l:List UInt8)(c:Code)(pre:List (Nat×Nat))(W:World):Prop:=
 (c=.ret/\∃x:Nat×Nat,pre=[x]/\cz W g s (k+(nA x.2).length) (l++nA x.2))/\Below g w W
theorem G6(w:World)(g:Nat)(s:ByteArray)(k:Nat)(l:List UInt8)(L:Nat)(hg:g<=w.heap.size)(hL:g<=L):OwnFrom L (PI w g s k l):=
 OwnFrom.and (Own.from (fun pre A B row hs hg' hr=>⟨hs.1,hs.2.1.kept hg' hr,hs.2.2.kept hg' (fun e'=>by
  obtain⟨o,ho,hc⟩:=hr _ e'.symm
  rw[show A.heap[w.heap.size]?=_ from hs.2.2] at ho;cases ho;cases hc)⟩) _) (ownFrom_below hg hL)
theorem G5(w:World)(g:Nat)(s:ByteArray)(k:Nat)(l:List UInt8)(L:Nat)(hg:g<=w.heap.size)(hL:g<=L)(c:Code):OwnFrom L (PH w g s k l c):=
 OwnFrom.and (Own.from (fun pre A B row hs hg' hr=>by
  obtain⟨h1,x,h2,h3⟩:=hs
  exact⟨h1,x,h2,h3.kept hg' hr⟩) _) (ownFrom_below hg hL)
theorem dD.put(g:Nat)(w:World)(h0:1<w.heap.size)(hg:g<w.heap.size)(W:World)(l:Nat)(o o':Obj)(hl:w.heap.size<=l)(_:W.heap[l]?=some o)(_:o.isCells=false)(_:o.isWalk=false):dD g W (W.putObj l o'):=
 ⟨(grownBy_putObj' W l o').size,World.putObj_heap_other (by omega),World.putObj_heap_other (by omega)⟩
theorem rf(n:Nat)(hn:2<=n)(Bn:Nat)(s:ByteArray)(hs:s.size<=1048576)(w:World)(hBn:Bn<w.heap.size)
  (hc:w.cell? ⟨Bn,0,none⟩=some (.string s)) (hT:Tab w) :
  SeqStopsK Fence.wide n Tryz.prog 212 #[.pointer (some ⟨Bn,0,none⟩)] (fun x:Nat×Nat=>#[.int .i64 (x.1:Nat),.int .i64 (x.2:Nat)]) (dD Bn) (fun ys=>ys=(scan (bs s) 0).1) (fun pre=>pre <+: (scan (bs s) 0).1) (scan (bs s) 0).1.length w:=fun l0 J Jx W hW _ _ hY h0=>
 JW n hn l0 Bn s hs J Jx hY W ((hW.cell (p:=⟨Bn,0,none⟩) hBn).trans hc) (hT.below hW hT.pos) h0
theorem EF(w:World)(g:Nat)(s:ByteArray)(k:Nat)(l:List UInt8)(h:cz w g s k l)(hk:k<s.size)(hs:s.size<=1048576)(hl:l.length<=9000000)(hT:Tab w) :
  Calls Tryz.prog 184 #[.pointer (some ⟨g,0,none⟩)] w (Pe g s w k l ((bs s).drop k)):=by
 refine (callsIn_wide (n:=9)).1 ?_;have A0:=h.below ((Below.refl _ w).alloc lz (.cells #[.pointer (some ⟨g,0,none⟩)] 178));have AL:=h.lt;obtain⟨cs,hb,h5,h6,h7⟩:=id A0;have c0:=hb.cells.cell 0 _ h6;have c1:=hb.cells.cell 1 _ h7;have c9:=(ae.new w #[.pointer (some ⟨g,0,none⟩)] 178).cell 0 _ rfl;clear hb h5 h6 h7
 by_cases hk4:k+4<=s.size
 ·have Al:min ((k:Int)+4) (s.size:Int)=(k:Int)+4:=by omega
  obtain⟨R,hR⟩:∃R,R=s.extract k ((k:Int)+4).toNat:=⟨_,rfl⟩;refine callsIn_of_wp_marks Tryz.func184 rfl trivial ?_ rfl;simp only[Tryz.ntmps184,List.size_toArray,List.length_cons,List.length_nil,Nat.reduceAdd,Nat.reduceSub,Array.replicate_succ,Array.replicate_zero,List.push_toArray,List.append_toArray,List.nil_append,List.cons_append];have AF:=Hh hR;have AI:s.extract k ((k:Int)+4).toNat=R:=hR.symm
  gi_wp2
  have Af:bs R=((bs s).drop k).take 4:=by rw[hR,xZ];congr 1;omega
  have Ac:bs R≠[]:=by rw[Af];intro h0;have:=congrArg List.length h0;simp[ax] at this;omega
  clear hR
  gi_quiet (fail)
  have Ab:∃w0,w0=(w.alloc (.cells #[.pointer (some ⟨g,0,none⟩)] 178)).drewN nq:=⟨_,rfl⟩;obtain⟨w0,Ab⟩:=Ab;rw[<-Ab];have Ap:cz w0 g s k l:=by rw[Ab];exact A0.drewN _
  have Ai:ae w0 w.heap.size #[.pointer (some ⟨g,0,none⟩)] 178:=by rw[Ab];exact (ae.new w _ _).drewN _
  have Aq:Below w.heap.size w w0:=by rw[Ab];exact Below.drewN' ((Below.refl _ w).alloc lz _) _
  have Ae:w0.heap.size=w.heap.size+1:=by rw[Ab];simp
  have HA:=Hh (wo R w0);have HZ:=Hh Ae;clear c0 c1 c9 Ab Al Ae
  gi_wp2
  refine⟨trivial,(callsIn_wide.2 HA.out).mono ?_⟩;rintro e w1 ⟨rfl,hw1⟩;clear HA;have Ae:=HZ.out;have AJ:w1.heap.size=w.heap.size+2:=by rw[hw1];simp[Ae]
  have Aa:Below w0.heap.size w0 w1:=by rw[hw1];exact (Below.refl _ _).alloc lz _
  have A6:w1.cell? ⟨w.heap.size+1,0,none⟩=some (.string R):=by
   have h:=World.cell?_alloc_new (w:=w0) #[.string R] 9 0;rw[Ae] at h;rw[hw1];exact h
  have A1:=Ap.below Aa;have Ax:=Ai.below Aa Ai.lt;have Ar:Below w.heap.size w w1:=Aq.trans (Aa.mono (by omega));have A4:=hT.below Ar hT.pos;have AE:=hT.pos;rw[Ae];clear hw1 Aa Ap Ai Aq Ae;have AA:Sem.run Tryz.prog (binOp .neq 216 (Value.func (Fn.func 212) #[] #[Value.pointer (some { block:=w.heap.size+1,off:=0 })]) Value.nilFunc) w1=.ok (.bool true) w1:=by rfl
  gi_wp2
  have At:g<=w1.heap.size:=by omega
  refine wpIn_rangeFunc_ownG rfl (by omega) (gf:=212) (lb:=#[.pointer (some ⟨w.heap.size+1,0,none⟩)]) rfl trivial (enters_of Tryz.func212 (by kernel_rfl) rfl)
   (rf 8 (by omega) (w.heap.size+1) R (by rw[<-ax,Af];simp;omega) w1 (by omega) A6 A4) dD.trans (dD.put (w.heap.size+1) w1 (by omega) (by omega)) (Below.refl _ _) (fun _=>rfl)
   (PI w g s k l) (PH w g s k l) (G6 w g s k l _ (by omega) At) (G5 w g s k l _ (by omega) At)
   ⟨⟨rfl,A1,Ax⟩,Ar.mono (by omega)⟩
   (fun x=>{ tmps:=#[.pointer (some ⟨g,0,none⟩),.pointer (some ⟨w.heap.size,0,none⟩),.string R,undef,.int .i64 (x.2:Nat),undef,undef,.pointer (some ⟨g,0,none⟩),.pointer (some ⟨g,0,none⟩),.pointer (some ⟨g,0,none⟩),.string s,.pointer (some ⟨g,0,none⟩),.pointer (some ⟨g,0,none⟩),.pointer (some ⟨g,1,none⟩),.int .i64 (k:Int),.pointer (some ⟨g,0,none⟩),.pointer (some ⟨g,0,none⟩),.pointer (some ⟨g,1,none⟩),.int .i64 (k:Int),.int .i64 ((k:Int)+4),.pointer (some ⟨g,0,none⟩),.pointer (some ⟨g,0,none⟩),.pointer (some ⟨g,0,none⟩),.string s,.int .i64 (s.size:Int),.int .i64 ((k:Int)+4),.string R,.string R,.func (.func 212) #[] #[.pointer (some ⟨w.heap.size+1,0,none⟩)],.int .i64 (x.1:Nat),.int .i64 (x.2:Nat),undef,undef,undef,undef,undef,undef,undef,undef,undef,undef,undef,undef,undef,undef,undef,undef,undef,undef,undef,undef],defers:=[] }) ?assign ?body ?done ?stop
  case assign=>
   intro l x W K hK
   gi_wp2
   exact hK
  case body=>
   rintro l0 pre x W ⟨⟨rfl,hRW,hCW⟩,hbW⟩ -;have A9:=hRW.lt;have Az:=Ei x.2 W;have As:=CQ x.2;have Ah:(bf (nA x.2)).size=(nA x.2).length:=lH _;generalize hpx:nA x.2=px at *;have Au:=Hh hpx;have Am:=Hh Ah;clear hpx Ah;have AG:=hCW.cell 0 _ rfl
   gi_wp2
   refine⟨trivial,(CallsIn.inRound l0 (callsIn_wide.2 Az)).mono ?_⟩;rintro e w3 ⟨rfl,hb3⟩;have AK:=hb3.size;have A2:=hRW.below hb3;have Ao:=hCW.below hb3 hCW.lt;have A7:=Ao.cell 0 _ rfl;have A5:=Pn w3 g s k l (bf px) A2 (by rw[Am.out];omega)
   gi_wp2
   refine⟨trivial,(CallsIn.inRound l0 (callsIn_wide.2 A5)).mono ?_⟩;rintro e w4 ⟨rfl,hR4,hb4,hB4⟩;obtain⟨AC,Ad,Av,Aw,An⟩:=id hR4;have AB:=Ad.cells.cell 1 _ An;have AD:=Ad.cells.frozen 1;have Ay:=hB4.cells Ao (by omega) (by decide);have A8:=Ay.cell 0 _ rfl;clear Ad Av Aw An;have A3:=hR4.moved (k+px.length);obtain⟨cw,Ak,-⟩:=id hRW;have Ag:=tu (B:=w1.heap.size) (((bD.of_below (E:=5) (g:=g) hb3).trans hB4).setCell 1 (.int .i64 ((k+px.length:Nat):Int))) Ak.cells;have Aj:=((hbW.trans (hb3.mono (by omega))).trans hb4).setCell (p:=⟨g,1,none⟩) lz (.int .i64 ((k+px.length:Nat):Int));have AH:=Am.out
   gi_wp2
   exact⟨Ag,⟨rfl,x,rfl,by rw[Au.out];exact A3⟩,Aj⟩
  case done=>
   rintro D ys W hD hys ⟨⟨rfl,hRW,hCW⟩,hbW⟩ hK
   have h0:(aF ((bs s).drop k)).2=0:=by
    rw[<-nZ,<-Af];exact Decidable.byContradiction fun hn=>by rw[iy Ac,if_neg hn] at hys;cases hys
   gi_wp2
   refine⟨trivial,(callsIn_wide.2 (ig 7 W)).mono ?_⟩;rintro e w3 ⟨rfl,rfl⟩
   gi_wp2
   refine⟨by simp,.inl ⟨_,_,rfl,run_takeDeferred hK,?_⟩⟩;exact .inr ⟨h0,rfl,hbW.trans ((belowK_b (w:=w) lz W D _ _ (by omega) hK rfl rfl).mono (by omega))⟩
  case stop=>
   rintro D c pre W hD hpre ⟨⟨rfl,x,rfl,hRW⟩,hbW⟩ hK
   have hx:(aF ((bs s).drop k)).2≠0/\nA x.2=un (((bs s).drop k).take (aF ((bs s).drop k)).2)/\(nA x.2).length=(aF ((bs s).drop k)).2:=by
    rw[<-nZ,<-Af];have hn:(aF (bs R)).2≠0:=fun hn=>by rw[nk Ac hn] at hpre;simp at hpre
    rw[iy Ac,if_neg hn] at hpre;obtain⟨t,ht⟩:=hpre;simp only[List.cons_append,List.nil_append,List.cons.injEq] at ht;obtain⟨rfl,-⟩:=ht;obtain⟨q1,q2,q3,q4⟩:=kw (l:=bs R) (c:=(aF (bs R)).1) (n:=(aF (bs R)).2) fI (by rfl) hn;have e1:nA (aF (bs R)).1=gm (aF (bs R)).1:=by unfold nA;rw[if_pos q1]
    refine⟨hn,?_,?_⟩
    ·rw[e1]
     show un (fM _)=_;rw[q3,Af,List.take_take,Nat.min_eq_left (by rw[<-Af];exact (ko _ fI).2)]
    ·rw[e1,jm,q2]
   gi_wp2
   refine⟨by simp,.inl ⟨_,_,rfl,run_takeDeferred hK,?_⟩⟩;refine⟨_,results_none rfl _ _ _,.inl ⟨hx.1,rfl,?_,?_⟩⟩
   ·have:=hRW.kept (grownBy_putObj' W D (.deferred none)) (fun r e=>by cases e;exact⟨_,hK,rfl⟩)
    rw[hx.2.2,hx.2.1] at this;exact this
   ·exact hbW.trans ((belowK_b (w:=w) lz W D _ _ (by omega) hK rfl rfl).mono (by omega))
 ·have Al:min ((k:Int)+4) (s.size:Int)=(s.size:Int):=by omega
  obtain⟨R,hR⟩:=exq (s.extract k s.size);refine callsIn_of_wp_marks Tryz.func184 rfl trivial ?_ rfl;simp only[Tryz.ntmps184,List.size_toArray,List.length_cons,List.length_nil,Nat.reduceAdd,Nat.reduceSub,Array.replicate_succ,Array.replicate_zero,List.push_toArray,List.append_toArray,List.nil_append,List.cons_append];have AF:=Hh hR;have AI:s.extract k s.size=R:=hR.symm
  gi_wp2
  have Af:bs R=((bs s).drop k).take 4:=by rw[hR,xZ];rw[List.take_of_length_le (by simp[ax]),List.take_of_length_le (by simp[ax];omega)]
  have Ac:bs R≠[]:=by rw[Af];intro h0;have:=congrArg List.length h0;simp[ax] at this;omega
  clear hR
  gi_quiet (fail)
  have Ab:∃w0,w0=(w.alloc (.cells #[.pointer (some ⟨g,0,none⟩)] 178)).drewN nq:=⟨_,rfl⟩;obtain⟨w0,Ab⟩:=Ab;rw[<-Ab];have Ap:cz w0 g s k l:=by rw[Ab];exact A0.drewN _
  have Ai:ae w0 w.heap.size #[.pointer (some ⟨g,0,none⟩)] 178:=by rw[Ab];exact (ae.new w _ _).drewN _
  have Aq:Below w.heap.size w w0:=by rw[Ab];exact Below.drewN' ((Below.refl _ w).alloc lz _) _
  have Ae:w0.heap.size=w.heap.size+1:=by rw[Ab];simp
  have HA:=Hh (wo R w0);have HZ:=Hh Ae;clear c0 c1 c9 Ab Al Ae
  gi_wp2
  refine⟨trivial,(callsIn_wide.2 HA.out).mono ?_⟩;rintro e w1 ⟨rfl,hw1⟩;clear HA;have Ae:=HZ.out;have AJ:w1.heap.size=w.heap.size+2:=by rw[hw1];simp[Ae]
  have Aa:Below w0.heap.size w0 w1:=by rw[hw1];exact (Below.refl _ _).alloc lz _
  have A6:w1.cell? ⟨w.heap.size+1,0,none⟩=some (.string R):=by
   have h:=World.cell?_alloc_new (w:=w0) #[.string R] 9 0;rw[Ae] at h;rw[hw1];exact h
  have A1:=Ap.below Aa;have Ax:=Ai.below Aa Ai.lt;have Ar:Below w.heap.size w w1:=Aq.trans (Aa.mono (by omega));have A4:=hT.below Ar hT.pos;have AE:=hT.pos;rw[Ae];clear hw1 Aa Ap Ai Aq Ae;have AA:Sem.run Tryz.prog (binOp .neq 216 (Value.func (Fn.func 212) #[] #[Value.pointer (some { block:=w.heap.size+1,off:=0 })]) Value.nilFunc) w1=.ok (.bool true) w1:=by rfl
  gi_wp2
  have At:g<=w1.heap.size:=by omega
  refine wpIn_rangeFunc_ownG rfl (by omega) (gf:=212) (lb:=#[.pointer (some ⟨w.heap.size+1,0,none⟩)]) rfl trivial (enters_of Tryz.func212 (by kernel_rfl) rfl)
   (rf 8 (by omega) (w.heap.size+1) R (by rw[<-ax,Af];simp;omega) w1 (by omega) A6 A4) dD.trans (dD.put (w.heap.size+1) w1 (by omega) (by omega)) (Below.refl _ _) (fun _=>rfl)
   (PI w g s k l) (PH w g s k l) (G6 w g s k l _ (by omega) At) (G5 w g s k l _ (by omega) At)
   ⟨⟨rfl,A1,Ax⟩,Ar.mono (by omega)⟩
   (fun x=>{ tmps:=#[.pointer (some ⟨g,0,none⟩),.pointer (some ⟨w.heap.size,0,none⟩),.string R,undef,.int .i64 (x.2:Nat),undef,undef,.pointer (some ⟨g,0,none⟩),.pointer (some ⟨g,0,none⟩),.pointer (some ⟨g,0,none⟩),.string s,.pointer (some ⟨g,0,none⟩),.pointer (some ⟨g,0,none⟩),.pointer (some ⟨g,1,none⟩),.int .i64 (k:Int),.pointer (some ⟨g,0,none⟩),.pointer (some ⟨g,0,none⟩),.pointer (some ⟨g,1,none⟩),.int .i64 (k:Int),.int .i64 ((k:Int)+4),.pointer (some ⟨g,0,none⟩),.pointer (some ⟨g,0,none⟩),.pointer (some ⟨g,0,none⟩),.string s,.int .i64 (s.size:Int),.int .i64 ((s.size:Int)),.string R,.string R,.func (.func 212) #[] #[.pointer (some ⟨w.heap.size+1,0,none⟩)],.int .i64 (x.1:Nat),.int .i64 (x.2:Nat),undef,undef,undef,undef,undef,undef,undef,undef,undef,undef,undef,undef,undef,undef,undef,undef,undef,undef,undef,undef],defers:=[] }) ?assign ?body ?done ?stop
  case assign=>
   intro l x W K hK
   gi_wp2
   exact hK
  case body=>
   rintro l0 pre x W ⟨⟨rfl,hRW,hCW⟩,hbW⟩ -;have A9:=hRW.lt;have Az:=Ei x.2 W;have As:=CQ x.2;have Ah:(bf (nA x.2)).size=(nA x.2).length:=lH _;generalize hpx:nA x.2=px at *;have Au:=Hh hpx;have Am:=Hh Ah;clear hpx Ah;have AG:=hCW.cell 0 _ rfl
   gi_wp2
   refine⟨trivial,(CallsIn.inRound l0 (callsIn_wide.2 Az)).mono ?_⟩;rintro e w3 ⟨rfl,hb3⟩;have AK:=hb3.size;have A2:=hRW.below hb3;have Ao:=hCW.below hb3 hCW.lt;have A7:=Ao.cell 0 _ rfl;have A5:=Pn w3 g s k l (bf px) A2 (by rw[Am.out];omega)
   gi_wp2
   refine⟨trivial,(CallsIn.inRound l0 (callsIn_wide.2 A5)).mono ?_⟩;rintro e w4 ⟨rfl,hR4,hb4,hB4⟩;obtain⟨AC,Ad,Av,Aw,An⟩:=id hR4;have AB:=Ad.cells.cell 1 _ An;have AD:=Ad.cells.frozen 1;have Ay:=hB4.cells Ao (by omega) (by decide);have A8:=Ay.cell 0 _ rfl;clear Ad Av Aw An;have A3:=hR4.moved (k+px.length);obtain⟨cw,Ak,-⟩:=id hRW;have Ag:=tu (B:=w1.heap.size) (((bD.of_below (E:=5) (g:=g) hb3).trans hB4).setCell 1 (.int .i64 ((k+px.length:Nat):Int))) Ak.cells;have Aj:=((hbW.trans (hb3.mono (by omega))).trans hb4).setCell (p:=⟨g,1,none⟩) lz (.int .i64 ((k+px.length:Nat):Int));have AH:=Am.out
   gi_wp2
   exact⟨Ag,⟨rfl,x,rfl,by rw[Au.out];exact A3⟩,Aj⟩
  case done=>
   rintro D ys W hD hys ⟨⟨rfl,hRW,hCW⟩,hbW⟩ hK
   have h0:(aF ((bs s).drop k)).2=0:=by
    rw[<-nZ,<-Af];exact Decidable.byContradiction fun hn=>by rw[iy Ac,if_neg hn] at hys;cases hys
   gi_wp2
   refine⟨trivial,(callsIn_wide.2 (ig 7 W)).mono ?_⟩;rintro e w3 ⟨rfl,rfl⟩
   gi_wp2
   refine⟨by simp,.inl ⟨_,_,rfl,run_takeDeferred hK,?_⟩⟩;exact .inr ⟨h0,rfl,hbW.trans ((belowK_b (w:=w) lz W D _ _ (by omega) hK rfl rfl).mono (by omega))⟩
  case stop=>
   rintro D c pre W hD hpre ⟨⟨rfl,x,rfl,hRW⟩,hbW⟩ hK
   have hx:(aF ((bs s).drop k)).2≠0/\nA x.2=un (((bs s).drop k).take (aF ((bs s).drop k)).2)/\(nA x.2).length=(aF ((bs s).drop k)).2:=by
    rw[<-nZ,<-Af];have hn:(aF (bs R)).2≠0:=fun hn=>by rw[nk Ac hn] at hpre;simp at hpre
    rw[iy Ac,if_neg hn] at hpre;obtain⟨t,ht⟩:=hpre;simp only[List.cons_append,List.nil_append,List.cons.injEq] at ht;obtain⟨rfl,-⟩:=ht;obtain⟨q1,q2,q3,q4⟩:=kw (l:=bs R) (c:=(aF (bs R)).1) (n:=(aF (bs R)).2) fI (by rfl) hn;have e1:nA (aF (bs R)).1=gm (aF (bs R)).1:=by unfold nA;rw[if_pos q1]
    refine⟨hn,?_,?_⟩
    ·rw[e1]
     show un (fM _)=_;rw[q3,Af,List.take_take,Nat.min_eq_left (by rw[<-Af];exact (ko _ fI).2)]
    ·rw[e1,jm,q2]
   gi_wp2
   refine⟨by simp,.inl ⟨_,_,rfl,run_takeDeferred hK,?_⟩⟩;refine⟨_,results_none rfl _ _ _,.inl ⟨hx.1,rfl,?_,?_⟩⟩
   ·have:=hRW.kept (grownBy_putObj' W D (.deferred none)) (fun r e=>by cases e;exact⟨_,hK,rfl⟩)
    rw[hx.2.2,hx.2.1] at this;exact this
   ·exact hbW.trans ((belowK_b (w:=w) lz W D _ _ (by omega) hK rfl rfl).mono (by omega))
attribute [local go_sem] Oper.semAt_some
def mJ(x:Nat×Nat):Bool:=decide (x.2<32)&&x.2 != 9
def ug:Option (Nat×Int)->Value
 |none=>.tuple #[.int .i64 0,.int .i64 0]
 |some x=>.tuple #[.int .i64 (x.1:Nat),.int .i64 x.2]
def PX(w:World)(pre:List (Nat×Nat))(W:World):Prop:=
 ((∀x∈pre,mJ x=false)/\ae W w.heap.size #[.int .i64 0] 3/\ae W (w.heap.size+1) #[.int .i64 0] 26)/\Below w.heap.size w W
def PW(w:World)(c:Code)(pre:List (Nat×Nat))(W:World):Prop:=
 (c=.ret/\∃d x,pre=d++[x]/\(∀x∈d,mJ x=false)/\mJ x=true/\ae W w.heap.size #[.int .i64 (x.1:Nat)] 3/\ae W (w.heap.size+1) #[.int .i64 3] 26)/\Below w.heap.size w W
theorem qA{A B:World}{row:Option Nat}{g:Nat}{cs:Array Value}{t:TypeId}(h:ae A g cs t)(hg:A.grownBy B row)(hr:∀r,row=some r->∃o:Obj,A.heap[r]?=some o/\o.isCells=false):ae B g cs t:=
 h.kept hg (fun e'=>by
  obtain⟨o,ho,hc⟩:=hr _ e'.symm
  rw[show A.heap[g]?=_ from h] at ho;cases ho;cases hc)
theorem Nw(w:World)(L:Nat)(hL:w.heap.size<=L):OwnFrom L (PX w):=
 OwnFrom.and (Own.from (fun pre A B row hs hg' hr=>⟨hs.1,qA hs.2.1 hg' hr,qA hs.2.2 hg' hr⟩) _) (ownFrom_below lz hL)
theorem Nu(w:World)(L:Nat)(hL:w.heap.size<=L)(c:Code):OwnFrom L (PW w c):=
 OwnFrom.and (Own.from (fun pre A B row hs hg' hr=>by
  obtain⟨h1,d,x,h2,h3,h4,h5,h6⟩:=hs
  exact⟨h1,d,x,h2,h3,h4,qA h5 hg' hr,qA h6 hg' hr⟩) _) (ownFrom_below lz hL)
theorem wh{l:Bs}(h:∀x∈(scan (nb l) 0).1,mJ x=false):yN l=match (scan (nb l) 0).2 with
  |some a=>some (a,7)
  |none=>none:=by
 unfold yN
 have:(scan (nb l) 0).1.find? (fun x=>decide (x.2<32)&&x.2 != 9)=none:=by
  rw[List.find?_eq_none];intro x hx;have:=h x hx;unfold mJ at this;rw[this];simp
 rw[this];rfl
theorem BU{l:Bs}{d:List (Nat×Nat)}{x:Nat×Nat}(h:d++[x] <+: (scan (nb l) 0).1)(h1:∀x∈d,mJ x=false)(h2:mJ x=true):yN l=some (x.1,3):=by
 unfold yN
 have:(scan (nb l) 0).1.find? (fun x=>decide (x.2<32)&&x.2 != 9)=some x:=by
  obtain⟨t,ht⟩:=h;rw[<-ht,List.append_assoc,List.find?_append,List.find?_append]
  have hd:d.find? (fun x=>decide (x.2<32)&&x.2 != 9)=none:=by
   rw[List.find?_eq_none];intro y hy;have:=h1 y hy;unfold mJ at this;rw[this];simp
  rw[hd];unfold mJ at h2;simp only[List.find?_cons,h2];rfl
 rw[this]
theorem uJ{pre:List (Nat×Nat)}{x:Nat×Nat}(h:∀x∈pre,mJ x=false)(hx:mJ x=false):∀y∈pre++[x],mJ y=false:=by
 intro y hy;rcases List.mem_append.1 hy with hy|hy
 ·exact h y hy
 ·simp at hy;subst hy;exact hx
theorem ae.putObj{W:World}{g D:Nat}{cs:Array Value}{t:TypeId}{o o':Obj}(h:ae W g cs t)(hK:W.heap[D]?=some o)(ho:o.isCells=false):ae (W.putObj D o') g cs t:=by
 have Aa:g≠D:=by
  rintro rfl;rw[show W.heap[g]?=_ from h] at hK;cases hK;cases ho
 exact (World.putObj_heap_other Aa).trans h
theorem Jb{W:World}{B a b:Nat}{u v:Value}(ha:a<B)(hb:b<B):KeepsFrom B W ((W.setCell ⟨a,0,none⟩ u).setCell ⟨b,0,none⟩ v):=
 ⟨by simp[World.setCell],fun k o hk ho _=>(Below.heap_setCell _ _ _ _ (by show k≠b;omega)).trans ((Below.heap_setCell _ _ _ _ (by show k≠a;omega)).trans ho)⟩
theorem qY(s:ByteArray)(w:World)(hs:s.size<=1048576)(hT:Tab w) :
  Calls Tryz.prog 160 #[.string s] w fun e w'=>e=.returned (ug (yN s.data.toList))/\Below w.heap.size w w':=by
 refine (callsIn_wide (n:=9)).1 ?_;refine callsIn_of_wp_marks Tryz.func160 rfl trivial ?_ rfl;simp only[Tryz.ntmps160,List.size_toArray,List.length_cons,List.length_nil,Nat.reduceAdd,Nat.reduceSub,Array.replicate_succ,Array.replicate_zero,List.push_toArray,List.append_toArray,List.nil_append,List.cons_append];have HA:=Hh (wo s ((w.alloc (.cells #[.int .i64 0] 3)).alloc (.cells #[.int .i64 0] 26)))
 gi_wp2
 refine⟨trivial,(callsIn_wide.2 HA.out).mono ?_⟩;rintro e w1 ⟨rfl,hw1⟩
 have Ah:Below (w.heap.size+2) ((w.alloc (.cells #[.int .i64 0] 3)).alloc (.cells #[.int .i64 0] 26)) w1:=by
  rw[hw1];exact (Below.refl _ _).alloc (by simp) _
 have hz:w1.heap.size=w.heap.size+3:=by rw[hw1];simp
 have Ao:w1.cell? ⟨w.heap.size+2,0,none⟩=some (.string s):=by
  have h:=World.cell?_alloc_new (w:=(w.alloc (.cells #[.int .i64 0] 3)).alloc (.cells #[.int .i64 0] 26)) #[.string s] 9 0;simp only[World.size_alloc] at h;rw[hw1];exact h
 have c2:ae w1 w.heap.size #[.int .i64 0] 3:=((ae.new w _ _).alloc _).below Ah (by omega)
 have c3:ae w1 (w.heap.size+1) #[.int .i64 0] 26:=by
  have h:=(ae.new (w.alloc (.cells #[.int .i64 0] 3)) #[.int .i64 0] 26).below Ah (by simp)
  simpa using h
 have Ai:Below w.heap.size w w1:=(((Below.refl _ w).alloc lz _).alloc (by simp) _).trans (Ah.mono (by omega));have Am:=hT.below Ai hT.pos;have Ap:=hT.pos;clear HA hw1;simp only[World.size_alloc]
 gi_wp2
 have Al:w.heap.size<=w1.heap.size:=by omega
 refine wpIn_rangeFunc_ownG rfl (by omega) (gf:=212) (lb:=#[.pointer (some ⟨w.heap.size+2,0,none⟩)]) rfl trivial (enters_of Tryz.func212 (by kernel_rfl) rfl)
  (rf 8 (by omega) (w.heap.size+2) s (by omega) w1 (by omega) Ao Am) dD.trans (dD.put (w.heap.size+2) w1 (by omega) (by omega)) (Below.refl _ _) (fun _=>rfl)
  (PX w) (PW w) (Nw _ _ Al) (Nu _ _ Al)
  ⟨⟨by simp,c2,c3⟩,Ai⟩
  (fun x=>{ tmps:=#[.string s,undef,.pointer (some ⟨w.heap.size,0,none⟩),.pointer (some ⟨w.heap.size+1,0,none⟩),.int .i64 (x.1:Nat),.int .i64 (x.2:Nat),undef,.string s,.func (.func 212) #[] #[.pointer (some ⟨w.heap.size+2,0,none⟩)],.int .i64 (x.1:Nat),.int .i64 (x.2:Nat),undef,undef,undef,undef,undef,undef,undef,undef,undef,undef,undef,undef],defers:=[] }) ?assign ?body ?done ?stop
 case assign=>
  intro l x W K hK
  gi_wp2
  exact hK
 case body=>
  rintro l0 pre x W ⟨⟨hgood,hc2,hc3⟩,hB⟩ hlt;have Aj:=hc2.lt;have Ak:=hc3.lt
  by_cases hx:x.2<32/\x.2≠9
  ·have d1:decide ((x.2:Int)<32)=true:=by rw[decide_eq_true_eq];omega
   have d2:((x.2:Int) != 9)=true:=by rw[bne_iff_ne];omega
   have Ag:mJ x=true:=by simp[mJ,hx.1,hx.2]
   have HX:=Hh Ag;have HG:=Hh hgood;clear hx hgood Ag;obtain⟨Aa,Ab⟩:=hc2.n1 rfl;obtain⟨Ac,Ad⟩:=hc3.n1 rfl
   gi_wp2
   exact⟨Jb (by omega) (by omega),⟨rfl,pre,x,rfl,HG.out,HX.out,(hc2.setI 0 _).setOther _ _ (by show w.heap.size+1≠w.heap.size;omega),(hc3.setOther _ _ (by show w.heap.size≠w.heap.size+1;omega)).setI 0 _⟩,(hB.setCell lz _).setCell (by show w.heap.size<=w.heap.size+1;omega) _⟩
  ·have Ag:mJ x=false:=by
    simp only[mJ,Bool.and_eq_false_iff,decide_eq_false_iff_not,bne_eq_false_iff_eq];omega
   have HX:=Hh Ag;have HG:=Hh hgood;have hr:32<=x.2\/x.2=9:=by omega
   clear hx hgood Ag;rcases hr with hr|hr
   ·have d1:decide ((x.2:Int)<32)=false:=by rw[decide_eq_false_iff_not];omega
    gi_wp2
    exact⟨KeepsFrom.refl _ _,dD.refl _ _,⟨uJ HG.out HX.out,hc2,hc3⟩,hB⟩
   ·have d1:decide ((x.2:Int)<32)=true:=by rw[decide_eq_true_eq];omega
    have d2:((x.2:Int) != 9)=false:=by rw[bne_eq_false_iff_eq];omega
    gi_wp2
    exact⟨KeepsFrom.refl _ _,dD.refl _ _,⟨uJ HG.out HX.out,hc2,hc3⟩,hB⟩
 case done=>
  rintro D ys W hD rfl ⟨⟨hgood,hc2,hc3⟩,hB⟩ hK;have An:=hT.below hB hT.pos;have Af:=NA s W An (by omega);have hW:=wh (l:=s.data.toList) hgood;have Aj:=hc2.lt;have Ak:=hc3.lt;rw[show nb s.data.toList=bs s from rfl] at hW
  cases ho:(scan (bs s) 0).2 with
  |none=>
   rw[ho] at Af hW;have HW:=Hh hW;clear hW hgood ho;simp only[Ow] at Af;obtain⟨Aa,Ab⟩:=hc2.n1 rfl;obtain⟨Ac,Ad⟩:=hc3.n1 rfl
   gi_wp2
   refine⟨trivial,(callsIn_wide.2 Af).mono ?_⟩;rintro e w3 ⟨rfl,rfl⟩
   gi_wp2
   have Ae:((W.setCell ⟨w.heap.size,0,none⟩ (.int .i64 0)).setCell ⟨w.heap.size+1,0,none⟩ (.int .i64 0)).heap[D]?=some (Obj.deferred (some [])):=(Below.heap_setCell _ _ _ _ (by show D≠w.heap.size+1;omega)).trans ((Below.heap_setCell _ _ _ _ (by show D≠w.heap.size;omega)).trans hK);refine⟨by simp,.inl ⟨_,_,rfl,run_takeDeferred Ae,?_⟩⟩;have e2:=(((hc2.setI 0 (.int .i64 0)).setOther ⟨w.heap.size+1,0,none⟩ (.int .i64 0) (by show w.heap.size+1≠w.heap.size;omega)).putObj (o':=.deferred none) Ae rfl).cell 0 _ rfl;have e3:=(((hc3.setOther ⟨w.heap.size,0,none⟩ (.int .i64 0) (by show w.heap.size≠w.heap.size+1;omega)).setI 0 (.int .i64 0)).putObj (o':=.deferred none) Ae rfl).cell 0 _ rfl;refine⟨ug none,by simp[results,Tryz.results160,go_sem,ug,e2,e3],by rw[HW.out],?_⟩;exact ((hB.setCell (p:=⟨w.heap.size,0,none⟩) lz _).setCell (p:=⟨w.heap.size+1,0,none⟩) (by show w.heap.size<=w.heap.size+1;omega) _).trans (belowK_b (w:=w) lz _ D _ _ (by omega) Ae rfl rfl)
  |some a=>
   rw[ho] at Af hW;have HW:=Hh hW;clear hW hgood ho;simp only[Ow] at Af;obtain⟨Aa,Ab⟩:=hc2.n1 rfl;obtain⟨Ac,Ad⟩:=hc3.n1 rfl
   gi_wp2
   refine⟨trivial,(callsIn_wide.2 Af).mono ?_⟩;rintro e w3 ⟨rfl,rfl⟩
   gi_wp2
   have Ae:((W.setCell ⟨w.heap.size,0,none⟩ (.int .i64 (a:Int))).setCell ⟨w.heap.size+1,0,none⟩ (.int .i64 7)).heap[D]?=some (Obj.deferred (some [])):=(Below.heap_setCell _ _ _ _ (by show D≠w.heap.size+1;omega)).trans ((Below.heap_setCell _ _ _ _ (by show D≠w.heap.size;omega)).trans hK);refine⟨by simp,.inl ⟨_,_,rfl,run_takeDeferred Ae,?_⟩⟩;have e2:=(((hc2.setI 0 (.int .i64 (a:Int))).setOther ⟨w.heap.size+1,0,none⟩ (.int .i64 7) (by show w.heap.size+1≠w.heap.size;omega)).putObj (o':=.deferred none) Ae rfl).cell 0 _ rfl;have e3:=(((hc3.setOther ⟨w.heap.size,0,none⟩ (.int .i64 (a:Int)) (by show w.heap.size≠w.heap.size+1;omega)).setI 0 (.int .i64 7)).putObj (o':=.deferred none) Ae rfl).cell 0 _ rfl;refine⟨ug (some (a,7)),by simp[results,Tryz.results160,go_sem,ug,e2,e3],by rw[HW.out],?_⟩;exact ((hB.setCell (p:=⟨w.heap.size,0,none⟩) lz _).setCell (p:=⟨w.heap.size+1,0,none⟩) (by show w.heap.size<=w.heap.size+1;omega) _).trans (belowK_b (w:=w) lz _ D _ _ (by omega) Ae rfl rfl)
 case stop=>
  rintro D c pre W hD hpre ⟨⟨rfl,d,x,rfl,h1,h2,hc2,hc3⟩,hB⟩ hK;have hW:=BU (l:=s.data.toList) hpre h1 h2;have Aj:=hc2.lt;have Ak:=hc3.lt;obtain⟨Aa,Ab⟩:=hc2.n1 rfl;obtain⟨Ac,Ad⟩:=hc3.n1 rfl
  gi_wp2
  refine⟨by simp,.inl ⟨_,_,rfl,run_takeDeferred hK,?_⟩⟩;have e2:=(hc2.putObj (o':=.deferred none) hK rfl).cell 0 _ rfl;have e3:=(hc3.putObj (o':=.deferred none) hK rfl).cell 0 _ rfl;refine⟨ug (some (x.1,3)),by simp[results,Tryz.results160,go_sem,ug,e2,e3],by rw[hW],?_⟩;exact hB.trans (belowK_b (w:=w) lz W D _ _ (by omega) hK rfl rfl)
def Pg(g:Nat)(s:ByteArray)(w:World)(k:Nat)(l:List UInt8)(L:List Nat)(e:Ending)(w':World):Prop:=
 (L.head?=some 34/\PO g s w (.bool false) (k+1) l e w')\/
 (L.head?≠some 34/\(av L).2.2=0/\PO g s w (.bool true) (k+(av L).2.1) (l++un (av L).1) e w')\/
 (L.head?≠some 34/\(av L).2.2≠0/\El g w ((av L).2.2:Nat) e w')
theorem Ko(w:World)(g:Nat)(s:ByteArray)(k:Nat)(l:List UInt8)(h:cz w g s k l)(hk:k<=s.size)(hs:s.size<=1048576)(hl:l.length<=9000000)(hT:Tab w)(hg:1<g) :
  Calls Tryz.prog 157 #[.pointer (some ⟨g,0,none⟩)] w (Pg g s w k l ((bs s).drop k)):=by
 cases hq:(bs s).drop k with
 |nil=>
  have hN:=fun W h=>lw W g s k l h hk hq (by omega);clear hq;go_enter Tryz.func157,Tryz.ntmps157;go_wp2_with fail;refine (hN _ h).mono ?_;rintro e w1 ⟨rfl,hb1⟩;go_wp2;exact⟨rfl,.inr (.inr ⟨by simp,by simp[av,aD],rfl,hb1⟩)⟩
 |cons c r=>
  have hN:=fun W h=>jX W g s k l h hq (by omega);have hc:c<256:=fI c (List.mem_of_mem_drop (by rw[hq];simp));obtain⟨Ab,Af⟩:=gK hq;rw[ax] at Af
  by_cases h34:c=34
  ·subst h34
   clear hq Ab;go_enter Tryz.func157,Tryz.ntmps157;go_wp2_with fail;refine (hN _ h).mono ?_;rintro e w1 ⟨rfl,hR1,hb1,hB1⟩;go_wp2;go_ret;exact .inl ⟨rfl,rfl,hR1,hb1⟩
  have Aa:(c::r).head?≠some 34:=by simpa using h34
  have Ag:((c:Int)==34)=false:=by rw[beq_eq_false_iff_ne];omega
  by_cases h92:c=92
  ·subst h92
   have hE:=fun W h=>FM W g s k l h (by omega) (by omega) hl;rw[Ab] at hE;have HC:Hid (av (92::r)=lW r):=Hh (by simp[av]);clear hq Ab Aa h34;go_enter Tryz.func157,Tryz.ntmps157;go_wp2_with fail;refine (hN _ h).mono ?_;rintro e w1 ⟨rfl,hR1,hb1,hB1⟩;go_wp2_with fail;refine (hE _ hR1).mono ?_;rintro e w2 (⟨h0,rfl,hR2,hb2,hB2⟩|⟨h0,rfl,hb2⟩)
   ·have H0:=Hh h0
    clear h0;go_wp2;go_ret;exact .inr (.inl ⟨by simp,by rw[HC.out];exact H0.out,by rw[HC.out];exact⟨rfl,hR2,hb1.trans hb2⟩⟩)
   ·have H0:=Hh h0
    clear h0;go_wp2;exact⟨rfl,.inr (.inr ⟨by simp,by rw[HC.out];exact H0.out,by rw[HC.out];exact⟨rfl,hb1.trans hb2⟩⟩)⟩
  have Ah:((c:Int)==92)=false:=by rw[beq_eq_false_iff_ne];omega
  by_cases h32:c<32
  ·have HC:Hid (av (c::r)=aD 3):=Hh (by simp[av,h32])
   have HH:=Hh Aa;clear hq Ab Aa h34 h92;go_enter Tryz.func157,Tryz.ntmps157;go_wp2_with fail;refine (hN _ h).mono ?_;rintro e w1 ⟨rfl,hR1,hb1,hB1⟩;go_wp2_with fail;refine (ig 3 _).mono ?_;rintro e w2 ⟨rfl,rfl⟩;go_wp2;exact⟨rfl,.inr (.inr ⟨HH.out,by rw[HC.out];simp[aD],by rw[HC.out];exact⟨rfl,hb1⟩⟩)⟩
  by_cases h128:c<128
  ·have HC:Hid (av (c::r)=([c],1,0)):=Hh (by
    simp only[av];rw[if_neg h32,if_neg h92]
    simp[aF,h128])
   have HH:=Hh Aa;clear hq Ab Aa h34 h92;have Ac:32<=c:=by omega
   clear h32;go_enter Tryz.func157,Tryz.ntmps157;go_wp2_with fail;refine (hN _ h).mono ?_;rintro e w1 ⟨rfl,hR1,hb1,hB1⟩;go_wp2_with fail;refine (Mv w1 g s _ l c _ rfl (by omega) hR1 (by omega)).mono ?_;rintro e w2 ⟨rfl,hR2,hb2,hB2⟩;go_wp2;go_ret;exact .inr (.inl ⟨HH.out,by rw[HC.out],by rw[HC.out];exact⟨rfl,hR2,hb1.trans hb2⟩⟩)
  ·have HC:Hid (av (c::r)=if (aF (c::r)).2=0 then aD 7 else ((c::r).take (aF (c::r)).2,(aF (c::r)).2,0)):=Hh (by
    simp only[av]
    rw[if_neg h32,if_neg h92])
   have hS:=fun W h hT=>EF W g s k l h (by omega) hs hl hT;rw[hq] at hS;generalize hcr:c::r=cr at *;have HH:=Hh Aa;clear hq Ab Aa h34 h92 hcr;have Ac:128<=c:=by omega
   clear h32 h128;go_enter Tryz.func157,Tryz.ntmps157;go_wp2_with fail;refine (hN _ h).mono ?_;rintro e w1 ⟨rfl,hR1,hb1,hB1⟩;have hR2:=hR1.moved k;have Ae:=hT.below (hb1.trans (pQ g (.int .i64 (k:Int)))) hg;obtain⟨cs,Ad,h5,h6,h7⟩:=id hR1;have c1:=Ad.cells.cell 1 _ h7;have f1:=Ad.cells.frozen 1;clear Ad h5 h6 h7;go_wp2_with fail;refine (hS _ hR2 Ae).mono ?_;rintro e w2 (⟨h0,rfl,hR3,hb3⟩|⟨h0,rfl,hb3⟩)
   ·have H0:=Hh h0
    clear h0;go_wp2;go_ret;exact .inr (.inl ⟨HH.out,by rw[HC.out,if_neg H0.out],by rw[HC.out,if_neg H0.out];exact⟨rfl,hR3,(hb1.trans (pQ g _)).trans hb3⟩⟩)
   ·have H0:=Hh h0
    clear h0;go_wp2;exact⟨rfl,.inr (.inr ⟨HH.out,by rw[HC.out,if_pos H0.out];simp[aD],by rw[HC.out,if_pos H0.out];exact⟨rfl,(hb1.trans (pQ g _)).trans hb3⟩⟩)⟩
theorem Tryz.asFail(v:Value)(w:World):(Instr.typeAssert (.iface 176 v) 20 176 true).run Tryz.prog w=.ok (.tuple #[v,.bool true]) w:=by kernel_rfl
theorem kT(b0 b1 b2:Nat)(v0 v1 v2:Value)(n:Int)(older:List PanicEntry)(w:World)(h0:ae w b0 #[v0] 9)(h1:ae w b1 #[v1] 3)(h2:ae w b2 #[v2] 26)(h01:b0<b1)(h12:b1<b2) :
  CallsD Tryz.prog 154 #[.pointer (some ⟨b0,0,none⟩),.pointer (some ⟨b1,0,none⟩),.pointer (some ⟨b2,0,none⟩)] (.panicking ({ v:=xY n,recovered:=false }::older)) w fun e u' w'=>
   e=.returned (.tuple #[])/\u'=.panicking ({ v:=xY n,recovered:=true }::older)/\ae w' b0 #[.string ⟨#[]⟩] 9/\ae w' b1 #[.int .i64 0] 3/\ae w' b2 #[.int .i64 n] 26/\Below b0 w w':=by
 refine callsD_of_wpS Tryz.func154 rfl fun c₀ cs hu=>?_;apply wpS_seq
 apply wpS_region
 simp[wpOpsS,go_sem,recoverD,hu,Tryz.ntmps154,Exit.thenS]
 refine wpS_of_wp ?_;rw[show (#[Value.pointer (some ⟨b0,0,none⟩),.pointer (some ⟨b1,0,none⟩),.pointer (some ⟨b2,0,none⟩)]++((Array.replicate 16 undef).setIfInBounds 3 (xY n)).setIfInBounds 0 (xY n))=#[Value.pointer (some ⟨b0,0,none⟩),.pointer (some ⟨b1,0,none⟩),.pointer (some ⟨b2,0,none⟩),xY n,undef,undef,xY n,undef,undef,undef,undef,undef,undef,undef,undef,undef,undef,undef,undef] from rfl];have Ab:=Tryz.asFail;have hx:=ae.new w #[.int .i64 n] 176;have Ao:=hx.cell 0 _ rfl;have k0:=(h0.alloc (.cells #[.int .i64 n] 176));have k1:=(h1.alloc (.cells #[.int .i64 n] 176));have k2:=(h2.alloc (.cells #[.int .i64 n] 176));obtain⟨Ac,Ad⟩:=k0.n1 rfl;obtain⟨Ae,Af⟩:=k1.n1 rfl;obtain⟨Ag,Ah⟩:=k2.n1 rfl;have Ai:¬b0=b1:=by omega
 have Ak:¬b1=b0:=by omega
 have Aj:¬b0=b2:=by omega
 have Am:¬b2=b0:=by omega
 have Al:¬b1=b2:=by omega
 have An:¬b2=b1:=by omega
 have l0:=h0.lt;have l1:=h1.lt;have l2:=h2.lt;clear h0 h1 h2;go_wp2;have x0:¬w.heap.size=b0:=by omega
 have x1:¬w.heap.size=b1:=by omega
 have x2:¬w.heap.size=b2:=by omega
 have y0:¬b0=w.heap.size:=by omega
 have y1:¬b1=w.heap.size:=by omega
 have y2:¬b2=w.heap.size:=by omega
 have hb:Below b0 w (w.alloc (.cells #[.int .i64 n] 176)):=(Below.refl b0 w).alloc (Nat.le_of_lt l0) _;have Aa:=Hh (show b0<=b1/\b0<=b2 by omega);clear l0 l1 l2 h01 h12;generalize w.alloc (.cells #[.int .i64 n] 176)=W0 at *;generalize w.heap.size=X at *;go_region
 have r0:=((k0.set 0 (by simp) (.string ⟨#[]⟩)).setOther ⟨b1,0,none⟩ (.int .i64 0) (by simpa using Ak)).setOther ⟨b2,0,none⟩ (.int .i64 n) (by simpa using Am);have r1:=((k1.setOther ⟨b0,0,none⟩ (.string ⟨#[]⟩) (by simpa using Ai)).set 0 (by simp) (.int .i64 0)).setOther ⟨b2,0,none⟩ (.int .i64 n) (by simpa using An);have r2:=((k2.setOther ⟨b0,0,none⟩ (.string ⟨#[]⟩) (by simpa using Aj)).setOther ⟨b1,0,none⟩ (.int .i64 0) (by simpa using Al)).set 0 (by simp) (.int .i64 n);clear k0 k1 k2 Ac Ad Ae Af Ag Ah Ab;cases c₀
 exact⟨rfl,_,rfl,_,results_none rfl _ _ _,rfl,rfl,r0,r1,r2,(((hb.setCell (p:=⟨b0,0,none⟩) lz _).setCell (p:=⟨b1,0,none⟩) Aa.out.1 _).setCell (p:=⟨b2,0,none⟩) Aa.out.2 _).drew⟩
theorem FQ(p q r:Value)(w:World) :
  CallsD Tryz.prog 154 #[p,q,r] .returning w fun e u' w'=>e=.returned (.tuple #[])/\u'=.returning/\w'=w:=by
 refine callsD_of_wpS Tryz.func154 rfl fun c₀ cs hu=>?_;apply wpS_seq
 apply wpS_region
 simp[wpOpsS,go_sem,recoverD,hu,Tryz.ntmps154,Exit.thenS]
 refine wpS_of_wp ?_;rw[show (#[p,q,r]++((Array.replicate 16 undef).setIfInBounds 3 Value.nilIface).setIfInBounds 0 Value.nilIface)=#[p,q,r,Value.nilIface,undef,undef,Value.nilIface,undef,undef,undef,undef,undef,undef,undef,undef,undef,undef,undef,undef] from rfl];go_wp2;cases c₀
 simp_all [bodyPostS,results,Tryz.results154]
def J9(q:nR):Value:=.tuple #[.string (bf (un q.1)),.int .i64 (q.2.1:Int),.int .i64 (q.2.2:Int)]
def MS(w:World):World:=((w.alloc (.cells #[.string ⟨#[]⟩] 9)).alloc (.cells #[.int .i64 0] 3)).alloc (.cells #[.int .i64 0] 26)
def JM(w:World)(s:ByteArray):World:=(MS w).alloc (.cells #[.string s,.int .i64 0,.pointer none,.slice none 0 0] 180)
theorem KM(w:World):(MS w).heap.size=w.heap.size+3:=by simp[MS]
theorem IP(w:World)(s:ByteArray):Below w.heap.size w (JM w s):=by
 unfold JM MS;exact ((((Below.refl _ w).alloc lz _).alloc (by simp) _).alloc (by simp;omega) _).alloc (by simp;omega) _
theorem MR(w:World)(s:ByteArray):ae (JM w s) w.heap.size #[.string ⟨#[]⟩] 9/\ae (JM w s) (w.heap.size+1) #[.int .i64 0] 3/\ae (JM w s) (w.heap.size+2) #[.int .i64 0] 26:=by
 unfold JM MS;have h0:=ae.new w #[.string ⟨#[]⟩] 9;have h1:=ae.new (w.alloc (.cells #[.string ⟨#[]⟩] 9)) #[.int .i64 0] 3;have h2:=ae.new ((w.alloc (.cells #[.string ⟨#[]⟩] 9)).alloc (.cells #[.int .i64 0] 3)) #[.int .i64 0] 26;simp only[World.size_alloc] at h1 h2;exact⟨((h0.alloc _).alloc _).alloc _,(h1.alloc _).alloc _,h2.alloc _⟩
theorem MQ(w:World)(s:ByteArray):cz (JM w s) (w.heap.size+3) s 0 []:=by
 have h:=ae.new (MS w) #[.string s,.int .i64 0,.pointer none,.slice none 0 0] 180;rw[KM] at h;exact⟨_,⟨h,.inl rfl,_,rfl,aT.nil⟩,rfl,rfl,rfl⟩
def atOf(w:World)(g:Nat):Nat:=match w.cell? ⟨g,1,none⟩ with
 |some (.int _ n)=>n.toNat
 |_=>0
theorem cz.atOf{w:World}{g:Nat}{s:ByteArray}{k:Nat}{l:List UInt8}(h:cz w g s k l):YtbcdaaobbebooaaGreatDoor.atOf w g=k:=by
 obtain⟨cs,h1,_,_,h7⟩:=h;unfold YtbcdaaobbebooaaGreatDoor.atOf;rw[h1.cells.cell 1 _ h7];simp
theorem zm(l:List Nat):(un l).length=l.length:=by simp[un]
theorem zG(s:ByteArray)(w:World)(hs:s.size<=1048576)(hT:Tab w) :
    Calls Tryz.prog 126 #[.string s] w fun e w'=>e=.returned (J9 (aV (bs s)))/\Below w.heap.size w w':=by
  have A8:∀(fn:Fn) (first cap:Array Value) (w:World),(Instr.makeFunc fn first cap).run Tryz.prog w=.ok (.func fn first cap) w:=fun _ _ _ _=>rfl;have Ag:=hT.pos;have hR:=MQ w s;obtain⟨x0,x1,x2⟩:=MR w s;have hB:=IP w s;have At:=hT.below hB Ag
  cases hq:bs s with
  |nil=>
    have hN:=lw (JM w s) _ s 0 [] hR (Nat.zero_le _) (by simpa using hq) (by omega);have HC:Hid (aV (bs s)=aD 2):=Hh (by rw[hq];rfl);rw[<-hq];unfold JM MS at hN;clear hq;go_enter_defers Tryz.func126,Tryz.ntmps126
    go_wp2_with fail;refine hN.mono ?_;rintro e w1 ⟨rfl,hb1⟩;have y0:=x0.below hb1 (by omega);have y1:=x1.below hb1 (by omega);have y2:=x2.below hb1 (by omega);go_wp2;refine leaves_cons (f:=154) (args:=#[.pointer (some ⟨w.heap.size,0,none⟩),.pointer (some ⟨w.heap.size+1,0,none⟩),.pointer (some ⟨w.heap.size+2,0,none⟩)]) (by simp) (by simp[go_sem]) ?_;refine (kT w.heap.size (w.heap.size+1) (w.heap.size+2) _ _ _ _ [] _ y0 y1 y2 (by omega) (by omega)).mono ?_;rintro e u' w'' ⟨rfl,rfl,r0,r1,r2,hbl⟩;have q0:=r0.cell 0 _ rfl;have q1:=r1.cell 0 _ rfl;have q2:=r2.cell 0 _ rfl;clear r0 r1 r2;simp[Leaves,settle,results,Tryz.results126,go_sem,q0,q1,q2]
    exact⟨by rw[HC.out];rfl,(hB.trans (hb1.mono (by omega))).trans hbl⟩
  |cons c r=>
    have hN:=jX (JM w s) _ s 0 [] hR (by simpa using hq) (by omega);have hc:c<256:=fI c (by rw[hq];simp);have Ay:r.length+1=s.size:=by rw[<-ax,hq];rfl
    by_cases hc34:c=34
    . subst hc34
      have HQ:Hid (aV (bs s)=gQ [] 1 (bY ((bs s).drop 1))):=Hh (by rw[hq];rfl);rw[<-hq];unfold JM MS at hN;clear hq;go_enter_defers Tryz.func126,Tryz.ntmps126
      go_wp2_with fail;refine hN.mono ?_;clear hN;rintro e w1 ⟨rfl,hR1,hb1,hB1⟩;have y0:=x0.below hb1 (by omega);have y1:=x1.below hb1 (by omega);have y2:=x2.below hb1 (by omega);have Ac:=hB.trans (hb1.mono (by omega));clear x0 x1 x2 hB1 hb1 hB hR At;go_wp2_with fail;go_loopw [] (fun wr=>∃(k:Nat) (pre:List Nat),cz wr (w.heap.size+3) s k (un pre)/\k<=s.size/\pre.length<=4*k/\gQ pre k (bY ((bs s).drop k))=aV (bs s)/\ae wr w.heap.size #[.string ⟨#[]⟩] 9/\ae wr (w.heap.size+1) #[.int .i64 0] 3/\ae wr (w.heap.size+2) #[.int .i64 0] 26/\Below w.heap.size w wr) (fun wr=>s.size-atOf wr (w.heap.size+3))
      case atStart=>exact⟨1,[],hR1,by omega,by simp,HQ.out.symm,y0,y1,y2,Ac⟩
      case round=>
        clear hR1 y0 y1 y2 Ac HQ;obtain⟨k,pre,hR,hk,A9,hj,x0,x1,x2,hb⟩:=hrel;have HJ:=Hh hj;have Ah:atOf wr (w.heap.size+3)=k:=hR.atOf;have As:=hT.below hb Ag;have hP:=Ko wr _ s k (un pre) hR hk hs (by rw[zm];omega) As (by omega);clear hj;have Aa:vI ((bs s).drop k):=fun x hx=>fI x (List.mem_of_mem_drop hx);go_wp2_with fail;refine hP.mono ?_;clear hP;rintro e w2 (⟨hh,rfl,hR2,hb2⟩|⟨hh,he,rfl,hR2,hb2⟩|⟨hh,he,rfl,hb2⟩)
        . have HC:Hid (aV (bs s)=(pre,k+1,0)):=Hh (by rw[<-HJ.out,zU Aa hh])
          have y0:=x0.below hb2 (by omega);have y1:=x1.below hb2 (by omega);have y2:=x2.below hb2 (by omega);have Ad:=hb.trans (hb2.mono (by omega));clear hh Aa x0 x1 x2 hb hb2 HJ hR Ah;obtain⟨cs,hbl,h5,h6,h7⟩:=hR2;have Af:=hbl.cells.lt;have Aw:=hbl.cells;have Ae:w2.drew.cell? ⟨w.heap.size+1+1+1,1,none⟩=some (.int .i64 ((k+1:Nat):Int)):=hbl.cells.cell 1 _ h7;have Ap:(un pre).length<=1000000000:=by rw[zm];omega
          have Aj:=si w2.drew (h:=(show F5 180 (w.heap.size+3) w2.drew (w.heap.size+3) 2 cs (un pre) from ⟨hbl.cells.drew,hbl.addr,by obtain⟨v,e1,e2⟩:=hbl.buf;exact⟨v,e1,e2.drew⟩⟩)) (Nat.le_of_lt Af) Ap;obtain⟨S,hS⟩:∃S:ByteArray,S=⟨(un pre).toArray⟩:=⟨_,rfl⟩;rw[<-hS] at Aj;have HS:=Hh hS;clear hS hbl Ap h5 h6;go_wp2_with fail
          go_region_held3 (fun w'=>w'.cell? ⟨w.heap.size+1+1+1,1,none⟩=some (.int .i64 ((k+1:Nat):Int))) (first|exact Ae|exact hc6|exact hc7|exact hc8|exact hc9) (first
            | (go_at_call 43;refine Aj.mono ?_;rintro e6 w6 ⟨rfl,hb6,hk6⟩
               have AA:=y2.lt;have z0:ae w6 w.heap.size _ _:=hk6 _ _ y0.lt y0 (fun _ _ h=>by cases h);have z1:ae w6 (w.heap.size+1) _ _:=hk6 _ _ y1.lt y1 (fun _ _ h=>by cases h);have z2:ae w6 (w.heap.size+1+1) _ _:=hk6 _ _ y2.lt y2 (fun _ _ h=>by cases h);have zg:ae w6 (w.heap.size+1+1+1) cs 180:=hk6 _ _ Af Aw (fun _ _ h=>by cases h);have hc6:=zg.cell 1 _ h7;have Al:=zg.setOther ⟨w.heap.size,0,none⟩ (.string S) (by simp;omega);have Am:=Al.setOther ⟨w.heap.size+1,0,none⟩ (.int .i64 ((k+1:Nat):Int)) (by simp);have Aq:=Am.setOther ⟨w.heap.size+1+1,0,none⟩ (.int .i64 0) (by simp);have hc7:=Al.cell 1 _ h7;have hc8:=Am.cell 1 _ h7;have hc9:=Aq.cell 1 _ h7;obtain⟨Az,A0⟩:=z0.n1 rfl;obtain⟨A1,A2⟩:=z1.n1 rfl;have A3:=z2.cell 0 _ rfl
               have A4:=z2.frozen 0))
          have r0:=((z0.set 0 (by simp) (.string S)).setOther ⟨w.heap.size+1,0,none⟩ (.int .i64 ((k+1:Nat):Int)) (by simp)).setOther ⟨w.heap.size+1+1,0,none⟩ (.int .i64 0) (by simp;omega);have r1:=((z1.setOther ⟨w.heap.size,0,none⟩ (.string S) (by simp)).set 0 (by simp) (.int .i64 ((k+1:Nat):Int))).setOther ⟨w.heap.size+1+1,0,none⟩ (.int .i64 0) (by simp);have r2:=((z2.setOther ⟨w.heap.size,0,none⟩ (.string S) (by simp;omega)).setOther ⟨w.heap.size+1,0,none⟩ (.int .i64 ((k+1:Nat):Int)) (by simp)).set 0 (by simp) (.int .i64 0);have Au:Below w.heap.size w w6:=Ad.drew.trans (hb6.mono (by omega));have Ao:=((Au.setCell (p:=⟨w.heap.size,0,none⟩) lz (.string S)).setCell (p:=⟨w.heap.size+1,0,none⟩) (by simp) (.int .i64 ((k+1:Nat):Int))).setCell (p:=⟨w.heap.size+1+1,0,none⟩) (by simp;omega) (.int .i64 0);have q0:=r0.cell 0 _ rfl;have q1:=r1.cell 0 _ rfl;have q2:=r2.cell 0 _ rfl;clear r0 r1 r2 z0 z1 z2 zg Al Am Aq Az A0 A1 A2 A3 A4 Ae hc6 hc7 hc8 hc9 hk6 Aj;go_wp2;refine leaves_cons (f:=154) (args:=#[.pointer (some ⟨w.heap.size,0,none⟩),.pointer (some ⟨w.heap.size+1,0,none⟩),.pointer (some ⟨w.heap.size+1+1,0,none⟩)]) (by simp) (by simp[go_sem]) ?_;refine (FQ _ _ _ _).mono ?_;rintro e u' w'' ⟨rfl,rfl,rfl⟩;simp only[Int.natCast_add,Int.natCast_one] at q0 q1 q2 Ao;simp[Leaves,settle,results,Tryz.results126,go_sem,q0,q1,q2]
          exact⟨by rw[HC.out,HS.out];rfl,Ao⟩
        . obtain⟨c,A6,Ae,A7,Av⟩:=ky Aa he
          have HN:Hid (gQ (pre++(av ((bs s).drop k)).1) (k+(av ((bs s).drop k)).2.1) (bY ((bs s).drop (k+(av ((bs s).drop k)).2.1)))=aV (bs s)):=Hh (by rw[<-HJ.out,xR Aa hh he,List.drop_drop])
          have Ak:(pre++(av ((bs s).drop k)).1).length<=4*(k+(av ((bs s).drop k)).2.1):=by
            rw[List.length_append,Ae,wX];have:=(pX c).2;omega
          have Ax:k+(av ((bs s).drop k)).2.1<=s.size:=by rw[List.length_drop,ax] at Av;omega
          have An:cz w2 (w.heap.size+3) s (k+(av ((bs s).drop k)).2.1) (un (pre++(av ((bs s).drop k)).1)):=by rw[Hl];exact hR2
          have Ab:atOf w2 (w.heap.size+3)=k+(av ((bs s).drop k)).2.1:=An.atOf;have y0:=x0.below hb2 (by omega);have y1:=x1.below hb2 (by omega);have y2:=x2.below hb2 (by omega);have Ad:=hb.trans (hb2.mono (by omega));generalize (av ((bs s).drop k)).2.1=z at *;generalize (av ((bs s).drop k)).1=zo at *;have Ar:=Hh Ah;have Ai:=Hh Ab;clear Ah Ab hh he Ae;go_wp2;go_roundw
          case rel=>exact⟨k+z,pre++zo,An,Ax,Ak,HN.out,y0,y1,y2,Ad⟩
          case measure=>rw[Ar.out,Ai.out];omega
        . have HC:Hid (aV (bs s)=aD (av ((bs s).drop k)).2.2):=Hh (by rw[<-HJ.out,zV Aa hh he])
          have y0:=x0.below hb2 (by omega);have y1:=x1.below hb2 (by omega);have y2:=x2.below hb2 (by omega);have Ad:=hb.trans (hb2.mono (by omega));clear hh Aa x0 x1 x2 hb hb2 HJ hR he Ah;generalize (av ((bs s).drop k)).2.2=z at *;go_wp2;refine leaves_cons (f:=154) (args:=#[.pointer (some ⟨w.heap.size,0,none⟩),.pointer (some ⟨w.heap.size+1,0,none⟩),.pointer (some ⟨w.heap.size+2,0,none⟩)]) (by simp) (by simp[go_sem]) ?_;refine (kT w.heap.size (w.heap.size+1) (w.heap.size+2) _ _ _ _ [] _ y0 y1 y2 (by omega) (by omega)).mono ?_;rintro e u' w'' ⟨rfl,rfl,r0,r1,r2,hbl⟩;have q0:=r0.cell 0 _ rfl;have q1:=r1.cell 0 _ rfl;have q2:=r2.cell 0 _ rfl;clear r0 r1 r2;simp[Leaves,settle,results,Tryz.results126,go_sem,q0,q1,q2]
          exact⟨by rw[HC.out];rfl,Ad.trans hbl⟩
    . have HC:Hid (aV (bs s)=aD 3):=Hh (by rw[hq];simp only[aV];rw[if_pos hc34])
      have A5:((c:Int) != 34)=true:=by rw[bne_iff_ne];omega
      rw[<-hq];unfold JM MS at hN;clear hq hc34;go_enter_defers Tryz.func126,Tryz.ntmps126
      go_wp2_with fail;refine hN.mono ?_;rintro e w1 ⟨rfl,hR1,hb1,hB1⟩;have y0:=x0.below hb1 (by omega);have y1:=x1.below hb1 (by omega);have y2:=x2.below hb1 (by omega);go_wp2_with fail;refine (ig 3 _).mono ?_;rintro e w2 ⟨rfl,rfl⟩;go_wp2;refine leaves_cons (f:=154) (args:=#[.pointer (some ⟨w.heap.size,0,none⟩),.pointer (some ⟨w.heap.size+1,0,none⟩),.pointer (some ⟨w.heap.size+2,0,none⟩)]) (by simp) (by simp[go_sem]) ?_;refine (kT w.heap.size (w.heap.size+1) (w.heap.size+2) _ _ _ _ [] _ y0 y1 y2 (by omega) (by omega)).mono ?_;rintro e u' w'' ⟨rfl,rfl,r0,r1,r2,hbl⟩;have q0:=r0.cell 0 _ rfl;have q1:=r1.cell 0 _ rfl;have q2:=r2.cell 0 _ rfl;clear r0 r1 r2;simp[Leaves,settle,results,Tryz.results126,go_sem,q0,q1,q2]
      exact⟨by rw[HC.out];rfl,(hB.trans (hb1.mono (by omega))).trans hbl⟩
def xq(l:List Nat):List Nat×Nat:=if (aV l).2.2≠0 then ([],(aV l).2.2) else if (aV l).2.1<l.length then ([],14) else ((aV l).1,0)
def xm(q:List Nat×Nat):Value:=.tuple #[.string (bf (un q.1)),.int .i64 (q.2:Int)]
theorem Av(s:ByteArray)(w:World)(hs:s.size<=1048576)(hT:Tab w) :
  Calls Tryz.prog 163 #[.string s] w fun e w'=>e=.returned (xm (xq (bs s)))/\Below w.heap.size w w':=by
 have hS:=zG s w hs hT;unfold J9 at hS;unfold xm xq;rw[ax];generalize aV (bs s)=q at *;obtain⟨o,z,e⟩:=q;simp only at hS ⊢
 by_cases he:e=0
 ·subst he
  simp only[ne_eq,not_true_eq_false,if_false]
  by_cases hz:z<s.size
  ·rw[if_pos hz]
   go_enter Tryz.func163,Tryz.ntmps163;go_wp2_with fail;refine hS.mono ?_;rintro e w1 ⟨rfl,hb1⟩;go_wp2;go_ret2
   exact⟨rfl,hb1⟩
  ·rw[if_neg hz]
   have Ab:s.size<=z:=by omega
   clear hz;go_enter Tryz.func163,Tryz.ntmps163;go_wp2_with fail;refine hS.mono ?_;rintro e w1 ⟨rfl,hb1⟩;go_wp2;go_ret2
   exact⟨rfl,hb1⟩
 ·rw[if_pos he]
  have Aa:((e:Int) != 0)=true:=by rw[bne_iff_ne];omega
  clear he;go_enter Tryz.func163,Tryz.ntmps163;go_wp2_with fail;refine hS.mono ?_;rintro e w1 ⟨rfl,hb1⟩;go_wp2;go_ret2
  exact⟨rfl,hb1⟩
end Go.Proofs.YtbcdaaobbebooaaGreatDoor
namespace Go.Proofs.YtbcdaaobbebooaaGreatDoor
theorem uX{ch:Bs}:∀{l:Bs},(∀x∈l,ch.contains x=false)->Lib.indexAny l ch = -1
 |[],_=>rfl
 | b::l,h=>by
  rw[Lib.indexAny,h b (List.mem_cons_self ..),uX (fun x hx=>h x (List.mem_cons_of_mem _ hx))];rfl
theorem uI{ch:Bs}{m:UInt8}{t:Bs}(hm:ch.contains m=true):∀{l:Bs},(∀x∈l,ch.contains x=false)->Lib.indexAny (l++m::t) ch=l.length
 |[],_=>by rw[List.nil_append,Lib.indexAny,if_pos hm];rfl
 | b::l,h=>by
  rw[List.cons_append,Lib.indexAny,h b (List.mem_cons_self ..),uI hm (fun x hx=>h x (List.mem_cons_of_mem _ hx))];have:(((l.length:Nat):Int)==-1)=false:=by rw[beq_eq_false_iff_ne];omega
  rw[this];simp
theorem zX{c:UInt8}:∀{l:Bs},(∀x∈l,x≠c)->Lib.indexByte l c = -1
 |[],_=>rfl
 | b::l,h=>by
  have h1:(b==c)=false:=by rw[beq_eq_false_iff_ne];exact h b (List.mem_cons_self ..)
  rw[Lib.indexByte,h1,zX (fun x hx=>h x (List.mem_cons_of_mem _ hx))];rfl
theorem GJ{c:UInt8}{t:Bs}:∀{l:Bs},(∀x∈l,x≠c)->Lib.indexByte (l++c::t) c=l.length
 |[],_=>by rw[List.nil_append,Lib.indexByte,if_pos (by simp)];rfl
 | b::l,h=>by
  have h1:(b==c)=false:=by rw[beq_eq_false_iff_ne];exact h b (List.mem_cons_self ..)
  rw[List.cons_append,Lib.indexByte,h1,GJ (fun x hx=>h x (List.mem_cons_of_mem _ hx))];have:(((l.length:Nat):Int)==-1)=false:=by rw[beq_eq_false_iff_ne];omega
  rw[this];simp
def aC(ip fr:Bs):Bs:=ip++(if fr=[] then [] else 46::fr)
section
variable {l:Bs} {neg:Bool} {ip fr mk sg pw:Bs}
theorem bg.eq'(h:bg l neg ip fr mk sg pw):l=(if neg then [45] else [])++(aC ip fr++(mk++(sg++pw))):=by
 rw[aC,List.append_assoc];exact h.eq
theorem bg.front_mem(h:bg l neg ip fr mk sg pw){x:UInt8}(hx:x∈aC ip fr):dg x=true\/x=46:=by
 rw[aC,List.mem_append] at hx;rcases hx with hx|hx
 ·exact .inl (List.all_eq_true.1 h.dip x hx)
 ·by_cases hf:fr=[]
  ·rw[if_pos hf] at hx;simp at hx
  ·rw[if_neg hf] at hx
   rcases List.mem_cons.1 hx with rfl|hx
   ·exact .inr rfl
   ·exact .inl (List.all_eq_true.1 h.dfr x hx)
theorem bg.front_any(h:bg l neg ip fr mk sg pw):∀x∈aC ip fr,([101,69]:Bs).contains x=false:=by
 intro x hx
 have h3:x≠101/\x≠69:=by
  rcases h.front_mem hx with h1|rfl
  ·exact⟨qP h1 (by decide),qP h1 (by decide)⟩
  ·decide
 simp[h3.1,h3.2]
theorem bg.cut(h:bg l neg ip fr mk sg pw):Lib.hasPrefix l [45]=neg/\Lib.trimPrefix l [45]=aC ip fr++(mk++(sg++pw)):=by
 have he:=h.eq'
 have hm:neg=false->Lib.hasPrefix l [45]=false:=by
  intro hn;subst hn;rw[he];have hi:=h.ip0;have hd:=h.dip;rw[aC]
  cases ip with
  |nil=>exact absurd rfl hi
  |cons c p=>
   have hc:=pR hd (c:=c) rfl;show ([45]:Bs).isPrefixOf (c::_)=false;have:((45:UInt8)==c)=false:=by rw[beq_eq_false_iff_ne];exact (qP hc (by decide)).symm
   simp[List.isPrefixOf,this]
 cases neg with
 |true=>
  have:Lib.hasPrefix l [45]=true:=by rw[he];rfl
  exact⟨this,by rw[Lib.trimPrefix,if_pos this,he];rfl⟩
 |false=>
  have:=hm rfl;exact⟨this,by rw[Lib.trimPrefix,this,he];rfl⟩
theorem bg.mark_none(h:bg l neg ip fr mk sg pw)(hm:mk=[]):Lib.indexAny (aC ip fr++(mk++(sg++pw))) [101,69] = -1/\aC ip fr++(mk++(sg++pw))=aC ip fr/\nX sg pw=0:=by
 rcases h.exp with ⟨rfl,rfl,rfl⟩|⟨hm2,_,_⟩
 ·simp only[List.append_nil]
  exact⟨uX h.front_any,trivial,rfl⟩
 ·subst hm;simp at hm2
theorem bg.mark_some(h:bg l neg ip fr mk sg pw)(hm:mk≠[]):Lib.indexAny (aC ip fr++(mk++(sg++pw))) [101,69]=(aC ip fr).length/\(∃m,mk=[m])/\(sg=[]\/sg=[43]\/sg=[45])/\pw≠[]:=by
 rcases h.exp with ⟨rfl,_,_⟩|⟨hm2,hs,hp⟩
 ·exact absurd rfl hm
 ·rcases hm2 with rfl|rfl
  ·exact⟨uI rfl h.front_any,⟨_,rfl⟩,hs,hp⟩
  ·exact⟨uI rfl h.front_any,⟨_,rfl⟩,hs,hp⟩
theorem bg.point_none(h:bg l neg ip fr mk sg pw)(hf:fr=[]):Lib.indexByte (aC ip fr) 46 = -1/\aC ip fr=ip++fr:=by
 subst hf;have:aC ip []=ip:=by simp[aC]
 rw[this];exact⟨zX (fun x hx=>qP (List.all_eq_true.1 h.dip x hx) (by decide)),by simp⟩
theorem bg.point_some(h:bg l neg ip fr mk sg pw)(hf:fr≠[]):Lib.indexByte (aC ip fr) 46=ip.length/\aC ip fr=ip++46::fr:=by
 have:aC ip fr=ip++46::fr:=by rw[aC,if_neg hf]
 rw[this];exact⟨GJ (fun x hx=>qP (List.all_eq_true.1 h.dip x hx) (by decide)),rfl⟩
theorem bg.len(h:bg l neg ip fr mk sg pw):ip.length+fr.length<=l.length/\(aC ip fr++(mk++(sg++pw))).length<=l.length/\(aC ip fr).length<=l.length/\(fr≠[]->(aC ip fr).length=ip.length+fr.length+1):=by
 have he:=congrArg List.length h.eq'
 have hf:(aC ip fr).length=ip.length+(if fr=[] then 0 else fr.length+1):=by
  rw[aC,List.length_append];split<;>simp
 rw[List.length_append] at he;have h2:(aC ip fr++(mk++(sg++pw))).length=(aC ip fr).length+(mk++(sg++pw)).length:=by rw[List.length_append]
 refine⟨?_,by omega,by omega,fun h3=>?_⟩
 ·by_cases hfr:fr=[]
  ·subst hfr;simp at hf ⊢;omega
  ·rw[if_neg hfr] at hf;omega
 ·rw[hf,if_neg h3];omega
theorem bg.ascii(h:bg l neg ip fr mk sg pw):∀x∈aC ip fr++(mk++(sg++pw)),x.toNat<128:=by
 have Aa:∀{a:Bs},a.all dg=true->∀x∈a,x.toNat<128:=fun ha x hx=>by have:=qQ (List.all_eq_true.1 ha x hx);omega
 intro x hx;rcases List.mem_append.1 hx with hx|hx
 ·rcases h.front_mem hx with h1|rfl
  ·have:=qQ h1;omega
  ·decide
 ·rcases List.mem_append.1 hx with hx|hx
  ·rcases h.exp with ⟨rfl,rfl,rfl⟩|⟨hm,hs,hp⟩
   ·simp at hx
   ·rcases hm with rfl|rfl<;>(simp at hx;subst hx;decide)
  ·rcases List.mem_append.1 hx with hx|hx
   ·rcases h.exp with ⟨rfl,rfl,rfl⟩|⟨hm,hs,hp⟩
    ·simp at hx
    ·rcases hs with rfl|rfl|rfl
     ·simp at hx
     ·simp at hx;subst hx;decide
     ·simp at hx;subst hx;decide
   ·exact Aa h.dpw x hx
end
end Go.Proofs.YtbcdaaobbebooaaGreatDoor
namespace Go.Proofs.YtbcdaaobbebooaaGreatDoor
open Go.RowKit Go.Tab
def vG(w:World):Prop:=∀j:Nat,j<63->w.cell? ⟨3,j,none⟩=some (.int .i64 (aR.getD j 9:Nat))
theorem vG.below{w w':World}{B:Nat}(h:vG w)(hb:Below B w w')(hB:3<B):vG w':=fun j hj=>(hb.cell hB).trans (h j hj)
theorem vG.pos{w:World}(h:vG w):3<w.heap.size:=World.block_lt_of_cell? w _ (h 0 (by decide))
theorem eY{c:UInt8}{n:UInt8}(h:c≠n){m:Int}(hm:(n.toNat:Int)=m):((c.toNat:Int)==m)=false:=by
 rw[beq_eq_false_iff_ne,<-hm];exact fun e=>h (UInt8.toNat_inj.1 (by omega))
theorem EE(c:UInt8)(w:World):Calls Tryz.prog 175 #[.int .u8 c.toNat] w fun e w'=>e=.returned (.int .i64 (ib c:Nat))/\w=w':=by
 unfold ib
 by_cases h1:c=45
 ·subst h1
  go_enter Tryz.func175,Tryz.ntmps175;go_wp2;go_ret;exact⟨rfl,rfl⟩
 have d1:=eY h1 (m:=45) rfl
 by_cases h2:c=43
 ·subst h2
  go_enter Tryz.func175,Tryz.ntmps175;go_wp2;go_ret;exact⟨rfl,rfl⟩
 have d2:=eY h2 (m:=43) rfl
 by_cases h3:c=48
 ·subst h3
  go_enter Tryz.func175,Tryz.ntmps175;go_wp2;go_ret;exact⟨rfl,rfl⟩
 have d3:=eY h3 (m:=48) rfl;rw[if_neg h1,if_neg h2,if_neg h3]
 by_cases h4:49<=c.toNat/\c.toNat<=57
 ·rw[if_pos h4]
  go_enter Tryz.func175,Tryz.ntmps175;go_wp2;go_ret;exact⟨rfl,rfl⟩
 rw[if_neg h4];have H4:c.toNat<49\/(49<=c.toNat/\57<c.toNat):=by omega
 clear h4
 by_cases h5:c=46
 ·subst h5
  clear H4;go_enter Tryz.func175,Tryz.ntmps175;go_wp2;go_ret;exact⟨rfl,rfl⟩
 have d5:=eY h5 (m:=46) rfl;rw[if_neg h5]
 by_cases h6:c=101
 ·subst h6
  clear H4;go_enter Tryz.func175,Tryz.ntmps175;go_wp2;go_ret;exact⟨rfl,rfl⟩
 by_cases h7:c=69
 ·subst h7
  clear H4;go_enter Tryz.func175,Tryz.ntmps175;go_wp2;go_ret;exact⟨rfl,rfl⟩
 have d6:=eY h6 (m:=101) rfl;have d7:=eY h7 (m:=69) rfl;rw[if_neg (by simp[h6,h7])];clear h1 h2 h3 h5 h6 h7;rcases H4 with h4|⟨h4,h8⟩
 all_goals
  go_enter Tryz.func175,Tryz.ntmps175;go_wp2;go_ret;exact⟨rfl,rfl⟩
theorem Hf(st:Nat)(w:World)(h:dn st=true):Calls Tryz.prog 176 #[.int .i64 st] w fun e w'=>e=.returned (.bool true)/\w=w':=by
 have h1:st=2\/st=3\/st=5\/st=8:=by simpa [dn] using h
 clear h;rcases h1 with rfl|rfl|rfl|rfl
 all_goals
  go_enter Tryz.func176,Tryz.ntmps176;go_wp2;go_ret;exact⟨rfl,rfl⟩
theorem JS(st:Nat)(w:World)(h:dn st=false)(hs:st<9):Calls Tryz.prog 176 #[.int .i64 st] w fun e w'=>e=.returned (.bool false)/\w=w':=by
 have h1:st=0\/st=1\/st=4\/st=6\/st=7:=by
  have h2:¬(st=2\/st=3\/st=5\/st=8):=by
   intro h3;have:dn st=true:=by simpa [dn] using h3
   rw[h] at this;cases this
  omega
 clear h hs;rcases h1 with rfl|rfl|rfl|rfl|rfl
 all_goals
  go_enter Tryz.func176,Tryz.ntmps176;go_wp2;go_ret;exact⟨rfl,rfl⟩
theorem J5:∀st:Fin 9,∀sg:Fin 7,bn st.val sg.val<=9:=by decide
theorem J7(c:UInt8):ib c<7:=by cases qL c<;>omega
theorem eG{s:ByteArray}{k:Nat}(h:k<s.size):s.data.toList.drop k=s[k]'h::s.data.toList.drop (k+1):=by
 rw[List.drop_eq_getElem_cons (by simpa using h)];rfl
theorem yH(s:ByteArray)(w:World)(hT:vG w)(hs:s.size<=maxLen) :
  Calls Tryz.prog 152 #[.string s] w fun e w'=>e=.returned (.int .i64 (cB s.data.toList:Nat))/\∃n,w'=w.drewN n:=by
 unfold maxLen at hs;go_enter Tryz.func152,Tryz.ntmps152;go_wp2_with fail;go_loopw [3,4,8] (fun g t i wr=>∃k st L:Nat,k<=s.size/\i=.int .i64 k/\t=.int .i64 st/\g=.int .i64 L/\st<9/\nO st k L (s.data.toList.drop k)=cB s.data.toList/\∃n,wr=w.drewN n) (fun _ _ i _=>s.size-(intOf i).toNat)
 case atStart=>exact⟨0,0,0,Nat.zero_le _,rfl,rfl,rfl,by decide,Jy _,0,rfl⟩
 case round=>
  obtain⟨k,st,L,hk,rfl,rfl,rfl,Ae,ha,n,rfl⟩:=hrel;have HA:=Hh ha;clear ha
  by_cases hlt:k<s.size
  ·have Ac:=J7 (s[k]'hlt)
   have hF:=EE (s[k]'hlt);have hi:(st:Int)<9:=by omega
   have hj:((ib (s[k]'hlt):Nat):Int)<7:=by omega
   have hc:w.cell? ⟨3,st*7+ib (s[k]'hlt),none⟩=some (.int .i64 (bn st (ib (s[k]'hlt)):Nat)):=by rw[Nat.mul_comm];exact hT _ (by omega)
   have hA:=HA.out;rw[eG hlt,gL] at hA;have Ab:=J5 ⟨st,Ae⟩ ⟨_,Ac⟩;simp only at Ab;generalize ib (s[k]'hlt)=sg at hF hc hA Ab Ac hj;generalize bn st sg=st' at hc hA Ab;go_wp2_with fail
   by_cases h9:st'=9
   ·rw[if_pos h9] at hA
    have HL:=Hh hA;have d9:((st':Int)==9)=true:=by rw[beq_iff_eq];omega
    clear hA h9 Ab;go_quiet (exact (hF _).mono fun _ _ h=>⟨h.1,_,h.2.symm⟩)
    go_wp2;go_ret;exact⟨by rw[<-HL.out];rfl,_,rfl⟩
   ·rw[if_neg h9] at hA
    have d9:((st':Int)==9)=false:=by rw[beq_eq_false_iff_ne];omega
    have Aa:st'<9:=by omega
    clear h9 Ab
    by_cases hw:dn st'=true
    ·rw[if_pos hw] at hA
     have HL:=Hh hA;have hW:=fun W=>Hf st' W hw;clear hA hw;go_quiet (exact (hF _).mono fun _ _ h=>⟨h.1,_,h.2.symm⟩)
     go_wp2_with ((with_reducible refine (hW _).mono ?_);rintro _ _ ⟨rfl,rfl⟩)
     go_roundw
     case rel=>exact⟨k+1,st',k+1,by omega,by go_num,rfl,by go_num,Aa,HL.out,_,rfl⟩
     case measure=>simp[intOf];omega
    ·have Ad:dn st'=false:=by simpa using hw
     rw[if_neg hw] at hA;have HL:=Hh hA;have hW:=fun W=>JS st' W Ad Aa;clear hA hw Ad;go_quiet (exact (hF _).mono fun _ _ h=>⟨h.1,_,h.2.symm⟩)
     go_wp2_with ((with_reducible refine (hW _).mono ?_);rintro _ _ ⟨rfl,rfl⟩)
     go_roundw
     case rel=>exact⟨k+1,st',L,by omega,by go_num,rfl,rfl,Aa,HL.out,_,rfl⟩
     case measure=>simp[intOf];omega
  ·obtain rfl:k=s.size:=by omega
   have hl:s.data.toList.drop s.size=[]:=by
    rw[List.drop_eq_nil_iff];exact Nat.le_refl _
   have hA:=HA.out;rw[hl] at hA;have HL:=Hh (show L=cB s.data.toList from hA);clear hA HA hl;go_wp2;go_ret;exact⟨by rw[<-HL.out];rfl,_,rfl⟩
theorem nK:∀(l:Bs) (n:Nat),n<=1099511627776->l.foldl jJ n<=1099511627776
 |[],_,h=>h
 | c::l,n,_=>by
  rw[List.foldl_cons];exact nK l _ (Nat.min_le_right _ _)
theorem lV{α β:Type}(f:α->β->α)(a:α)(l:List β){k:Nat}(h:k<l.length):(l.take (k+1)).foldl f a=f ((l.take k).foldl f a) l[k]:=by
 rw[List.take_add_one,List.getElem?_eq_getElem h,List.foldl_append];rfl
theorem MN(pw:Bs)(n:Nat)(h:pw.foldl jJ 0<=n)(hn:n<=1099511627776:=by omega):Ending.returned (Value.int .i64 (wrap64 (-((pw.foldl jJ 0:Nat):Int))))=Ending.returned (Value.int .i64 (nX [45] pw)):=by
 rw[nX,NS,if_pos rfl]
 congr 2
 unfold wrap64;omega
theorem CS(S:ByteArray)(sg pw:Bs)(w:World)(hS:S.data.toList=sg++pw)(hsg:sg=[]\/sg=[43]\/sg=[45])(hd:pw.all dg=true)(h0:pw≠[])(hl:S.size<=1048576) :
  Calls Tryz.prog 178 #[.string S] w fun e w'=>e=.returned (.int .i64 (nX sg pw))/\w=w':=by
 have Ah:=Hh hd;have hz:0<pw.length:=List.length_pos_iff.2 h0;have Ae:=au S;rw[hS,List.length_append] at Ae;rcases hsg with rfl|rfl|rfl
 ·have Ac:Hid (S.size=pw.length):=Hh (by simpa using Ae)
  have Aa:0<S.size:=by rw[Ac.out];exact hz
  have Aj:∀k (h1:k<S.size) (h2:k<pw.length),S[k]'h1=pw[k]:=fun k h1 h2=>by
   rw[iU];have:=congrArg (fun l=>l[k]?) hS;simp only[List.nil_append] at this;rw[List.getElem?_eq_getElem h2,List.getElem?_eq_getElem (by rw[<-au];exact h1)] at this;exact Option.some.inj this
  have HR:=Hh Aj;clear Aj;have h1:=HR.out 0 Aa hz;have h2:=qQ (List.all_eq_true.1 hd pw[0] (List.getElem_mem _));have d1:(((S[0]'Aa).toNat:Int)==45)=false:=by rw[h1,beq_eq_false_iff_ne];omega
  have d2:(((S[0]'Aa).toNat:Int)==43)=false:=by rw[h1,beq_eq_false_iff_ne];omega
  clear h1 h2 hd h0 Ae hS;go_enter Tryz.func178,Tryz.ntmps178;go_wp2_with fail;go_loop [4,19] (fun n i=>∃k:Nat,k<=S.size/\i=.int .i64 k/\n=.int .i64 ((pw.take k).foldl jJ 0:Nat)) (fun _ i=>S.size-(intOf i).toNat)
  case atStart=>exact⟨0,Nat.zero_le _,rfl,rfl⟩
  case round=>
   obtain⟨k,hk,rfl,rfl⟩:=hrel
   by_cases hlt:k<S.size
   ·have Ad:k<pw.length:=by rw[<-Ac.out];exact hlt
    have hb:=nK (pw.take k) 0 (by omega);have hf:=Hh (lV jJ 0 pw Ad);have hg:S[k]'hlt=pw[k]:=HR.out k hlt Ad;have hd:=qQ (List.all_eq_true.1 Ah.out pw[k] (List.getElem_mem _));have hF:Hid (jJ ((pw.take k).foldl jJ 0) pw[k]=(pw.take (k+1)).foldl jJ 0):=Hh hf.out.symm;clear hf;generalize (pw.take k).foldl jJ 0=m at hb hF ⊢;generalize pw[k]=c at hg hd hF;clear Ad;go_wp2;go_round
    case rel=>exact⟨k+1,by omega,by go_num,by rw[<-hF.out];congr 1;unfold jJ;omega⟩
    case measure=>simp[intOf];omega
   ·obtain rfl:k=S.size:=by omega
    have hf:Hid (pw.take S.size=pw):=Hh (by rw[Ac.out];exact List.take_length);go_wp2;go_ret;refine⟨?_,rfl⟩;rw[hf.out];rfl
 ·have Aa:0<S.size:=by rw[Ae];simp;omega
  have Ab:S[0]'Aa=43:=by
   rw[iU];have:=congrArg (fun l=>l[0]?) hS;rw[List.singleton_append] at this;simp only[List.getElem?_cons_zero] at this;rw[List.getElem?_eq_getElem (by rw[<-au];exact Aa)] at this;exact Option.some.inj this
  obtain⟨R,hR⟩:∃R,S.extract 1 S.size=R:=⟨_,rfl⟩
  have Af:R.data.toList=pw:=by
   rw[<-hR,eQ,au,List.take_length,hS];rfl
  have Ac:Hid (R.size=pw.length):=Hh (by rw[au,Af]);have Al:R.size<=1048576:=by rw[Ac.out];simp at Ae;omega
  have Ag:S.size=R.size+1:=by rw[Ac.out,Ae];simp;omega
  have HR:Hid (∀k (h1:k<R.size) (h2:k<pw.length),R[k]'h1=pw[k]):=Hh (fun k h1 h2=>by
   subst Af;rfl)
  have HS:=Hh Ag;have Ak:1<=S.size:=by omega
  have d1:(((S[0]'Aa).toNat:Int)==45)=decide (43=45):=by rw[Ab];rfl
  have d2:(((S[0]'Aa).toNat:Int)==43)=decide (43=43):=by rw[Ab];rfl
  have Ai:S.size-1=R.size:=by omega
  clear hd h0 Ae hS Ab Af Ag;go_enter Tryz.func178,Tryz.ntmps178;go_wp2_with fail;go_loop [4,19] (fun n i=>∃k:Nat,k<=R.size/\i=.int .i64 k/\n=.int .i64 ((pw.take k).foldl jJ 0:Nat)) (fun _ i=>R.size-(intOf i).toNat)
  case atStart=>exact⟨0,Nat.zero_le _,rfl,rfl⟩
  case round=>
   obtain⟨k,hk,rfl,rfl⟩:=hrel
   by_cases hlt:k<R.size
   ·have Ad:k<pw.length:=by rw[<-Ac.out];exact hlt
    have hb:=nK (pw.take k) 0 (by omega);have hf:=Hh (lV jJ 0 pw Ad);have hg:R[k]'hlt=pw[k]:=HR.out k hlt Ad;have hd:=qQ (List.all_eq_true.1 Ah.out pw[k] (List.getElem_mem _));have hF:Hid (jJ ((pw.take k).foldl jJ 0) pw[k]=(pw.take (k+1)).foldl jJ 0):=Hh hf.out.symm;clear hf;generalize (pw.take k).foldl jJ 0=m at hb hF ⊢;generalize pw[k]=c at hg hd hF;clear Ad;go_wp2;go_round
    case rel=>exact⟨k+1,by omega,by go_num,by rw[<-hF.out];congr 1;unfold jJ;omega⟩
    case measure=>simp[intOf];omega
   ·obtain rfl:k=R.size:=by omega
    have hf:Hid (pw.take R.size=pw):=Hh (by rw[Ac.out];exact List.take_length);go_wp2;go_ret;refine⟨?_,rfl⟩;rw[hf.out];rfl
 ·have Aa:0<S.size:=by rw[Ae];simp;omega
  have Ab:S[0]'Aa=45:=by
   rw[iU];have:=congrArg (fun l=>l[0]?) hS;rw[List.singleton_append] at this;simp only[List.getElem?_cons_zero] at this;rw[List.getElem?_eq_getElem (by rw[<-au];exact Aa)] at this;exact Option.some.inj this
  obtain⟨R,hR⟩:∃R,S.extract 1 S.size=R:=⟨_,rfl⟩
  have Af:R.data.toList=pw:=by
   rw[<-hR,eQ,au,List.take_length,hS];rfl
  have Ac:Hid (R.size=pw.length):=Hh (by rw[au,Af]);have Al:R.size<=1048576:=by rw[Ac.out];simp at Ae;omega
  have Ag:S.size=R.size+1:=by rw[Ac.out,Ae];simp;omega
  have HR:Hid (∀k (h1:k<R.size) (h2:k<pw.length),R[k]'h1=pw[k]):=Hh (fun k h1 h2=>by
   subst Af;rfl)
  have HS:=Hh Ag;have Ak:1<=S.size:=by omega
  have d1:(((S[0]'Aa).toNat:Int)==45)=decide (45=45):=by rw[Ab];rfl
  have d2:(((S[0]'Aa).toNat:Int)==43)=decide (45=43):=by rw[Ab];rfl
  have Ai:S.size-1=R.size:=by omega
  clear hd h0 Ae hS Ab Af Ag;go_enter Tryz.func178,Tryz.ntmps178;go_wp2_with fail;go_loop [4,19] (fun n i=>∃k:Nat,k<=R.size/\i=.int .i64 k/\n=.int .i64 ((pw.take k).foldl jJ 0:Nat)) (fun _ i=>R.size-(intOf i).toNat)
  case atStart=>exact⟨0,Nat.zero_le _,rfl,rfl⟩
  case round=>
   obtain⟨k,hk,rfl,rfl⟩:=hrel
   by_cases hlt:k<R.size
   ·have Ad:k<pw.length:=by rw[<-Ac.out];exact hlt
    have hb:=nK (pw.take k) 0 (by omega);have hf:=Hh (lV jJ 0 pw Ad);have hg:R[k]'hlt=pw[k]:=HR.out k hlt Ad;have hd:=qQ (List.all_eq_true.1 Ah.out pw[k] (List.getElem_mem _));have hF:Hid (jJ ((pw.take k).foldl jJ 0) pw[k]=(pw.take (k+1)).foldl jJ 0):=Hh hf.out.symm;clear hf;generalize (pw.take k).foldl jJ 0=m at hb hF ⊢;generalize pw[k]=c at hg hd hF;clear Ad;go_wp2;go_round
    case rel=>exact⟨k+1,by omega,by go_num,by rw[<-hF.out];congr 1;unfold jJ;omega⟩
    case measure=>simp[intOf];omega
   ·obtain rfl:k=R.size:=by omega
    have hf:Hid (pw.take R.size=pw):=Hh (by rw[Ac.out];exact List.take_length);go_wp2;go_ret;refine⟨?_,rfl⟩;rw[hf.out];exact MN _ _ (nK pw 0 (by omega))
end Go.Proofs.YtbcdaaobbebooaaGreatDoor
