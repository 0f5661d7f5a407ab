import Derived.Test.YtbcdaaobbebooaaGreatDoorMgc
import Derived.Sort.QuietIn
import Derived.RegionIn
import Derived.Defers
import Derived.Recover
set_option linter.unusedSimpArgs false
set_option linter.unusedVariables false
set_option maxRecDepth 100000
set_option maxHeartbeats 20000000
namespace Go.Proofs.YtbcdaaobbebooaaGreatDoor
open Go.RowKit Go.Tab Go.Shelf
attribute [local go_sem] Oper.semAt_some
theorem ow(l:List Nat):aD (l.take 4)=aD l:=by
 match l with
 |[]=>rfl
 |[_]=>rfl
 |[_,_]=>rfl
 |[_,_,_]=>rfl
 |[_,_,_,_]=>rfl
 |a::b::c::d::e::r=>rfl
def Pt(g:Nat)(s:ByteArray)(w:World)(v:Value)(k':Nat)(l':List UInt8)(e:Ending)(w':World):Prop:=
 e=.returned v/\cu w' g s k' l'/\Below g w w'
def OX(g:Nat)(s:ByteArray)(w:World)(k:Nat)(l:List UInt8)(L:List Nat)(e:Ending)(w':World):Prop:=
 ((aD L).2≠0/\Pt g s w (.tuple #[]) (k+(aD L).2) (l++un (L.take (aD L).2)) e w')\/((aD L).2=0/\D5 g w 7 e w')
theorem yw(s:ByteArray)(a b:Nat):bs (s.extract a b)=((bs s).drop a).take (b-a):=by
 simp[bs,List.map_drop,List.map_take,List.drop_take]
def nN(c:Nat):List UInt8:=if jW c then gG c else []
theorem Cy(c:Nat):(nN c).length<=4:=by
 unfold nN;split
 ·rw[jB];exact (oh c).2
 ·simp
theorem DX(c:Nat)(w:World):Calls Tryz.prog 209 #[.int .i64 c] w fun e w'=>e=.returned (.tuple #[.string (bg (nN c)),.bool (jW c)])/\Below w.heap.size w w':=by
 unfold nN
 cases h:jW c with
 |true=>
  refine (BC c w h).mono ?_;rintro e w' ⟨rfl,hb⟩;exact⟨by simp,hb⟩
 |false=>
  refine (LG (c:Int) w (by rw[fD];exact h)).mono ?_;rintro e w' ⟨rfl,rfl⟩;exact⟨rfl,Below.refl _ _⟩
theorem cu.kept{w w':World}{g:Nat}{s:ByteArray}{k:Nat}{l:List UInt8}{row:Option Nat}(h:cu w g s k l)(hg:w.grownBy w' row)(hr:∀r,row=some r->∃o:Obj,w.heap[r]?=some o/\o.isCells=false):cu w' g s k l:=by
 obtain⟨cs,⟨h1,h2,v,h3,h4⟩,h5⟩:=h
 have Aa:v.ownBlock=none\/v.ownBlock≠row:=by
  cases hv:v.ownBlock with
  |none=>exact .inl rfl
  |some b=>
   refine .inr fun e=>?_;obtain⟨o,ho,hc⟩:=hr _ e.symm;obtain⟨Ab,fr,hb⟩:=rQ h4 b hv;rw[hb] at ho;cases ho;cases hc
 refine⟨cs,⟨h1.kept hg ?_,h2,v,h3,h4.kept hg Aa⟩,h5⟩;intro e;obtain⟨o,ho,hc⟩:=hr _ e.symm;rw[show w.heap[g]?=_ from h1] at ho;cases ho;cases hc
theorem tY{E:TypeId}{B g:Nat}{w w':World}{cs:Array Value}{t:TypeId}(h:bA E g w w')(hg:aa w g cs t):KeepsFrom B w w':=
 ⟨h.1,fun k o _ hk ho=>h.2 k o (by rintro rfl;rw[show w.heap[k]?=_ from hg] at hk;cases hk;cases ho) hk (fun cs' fr e=>by subst e;cases ho)⟩
def Pn(w:World)(g:Nat)(s:ByteArray)(k:Nat)(l:List UInt8)(pre:List (Nat×Nat))(W:World):Prop:=
 (pre=[]/\cu W g s k l/\aa W w.heap.size #[.pointer (some ⟨g,0,none⟩)] 178)/\Below g w W
def Pk(w:World)(g:Nat)(s:ByteArray)(k:Nat)(l:List UInt8)(c:Code)(pre:List (Nat×Nat))(W:World):Prop:=
 (c=.ret/\∃x:Nat×Nat,pre=[x]/\cu W g s (k+(nN x.2).length) (l++nN x.2))/\Below g w W
theorem GL(w:World)(g:Nat)(s:ByteArray)(k:Nat)(l:List UInt8)(L:Nat)(hg:g<=w.heap.size)(hL:g<=L):OwnFrom L (Pn w g s k l):=
 OwnFrom.and (Own.from (fun pre A B row hs hg' hr=>⟨hs.1,hs.2.1.kept hg' hr,hs.2.2.kept hg' (fun e'=>by
  obtain⟨o,ho,hc⟩:=hr _ e'.symm
  rw[show A.heap[w.heap.size]?=_ from hs.2.2] at ho;cases ho;cases hc)⟩) _) (ownFrom_below hg hL)
theorem GK(w:World)(g:Nat)(s:ByteArray)(k:Nat)(l:List UInt8)(L:Nat)(hg:g<=w.heap.size)(hL:g<=L)(c:Code):OwnFrom L (Pk w g s k l c):=
 OwnFrom.and (Own.from (fun pre A B row hs hg' hr=>by
  obtain⟨h1,x,h2,h3⟩:=hs
  exact⟨h1,x,h2,h3.kept hg' hr⟩) _) (ownFrom_below hg hL)
theorem dB.put(g:Nat)(w:World)(h0:1<w.heap.size)(hg:g<w.heap.size)(W:World)(l:Nat)(o o':Obj)(hl:w.heap.size<=l)(_:W.heap[l]?=some o)(_:o.isCells=false)(_:o.isWalk=false):dB g W (W.putObj l o'):=
 ⟨(grownBy_putObj' W l o').size,World.putObj_heap_other (by omega),World.putObj_heap_other (by omega)⟩
theorem rz(n:Nat)(hn:2<=n)(Bn:Nat)(s:ByteArray)(hs:s.size<=1048576)(w:World)(hBn:Bn<w.heap.size)
  (hc:w.cell? ⟨Bn,0,none⟩=some (.string s)) (hT:Tab w) :
  SeqStopsK Fence.wide n Tryz.prog 212 #[.pointer (some ⟨Bn,0,none⟩)] (fun x:Nat×Nat=>#[.int .i64 (x.1:Nat),.int .i64 (x.2:Nat)]) (dB Bn) (fun ys=>ys=(scan (bs s) 0).1) (fun pre=>pre <+: (scan (bs s) 0).1) (scan (bs s) 0).1.length w:=fun l0 J Jx W hW _ _ hY h0=>
 JH n hn l0 Bn s hs J Jx hY W ((hW.cell (p:=⟨Bn,0,none⟩) hBn).trans hc) (hT.below hW hT.pos) h0
theorem Ep(w:World)(g:Nat)(s:ByteArray)(k:Nat)(l:List UInt8)(h:cu w g s k l)(hk:k<s.size)(hs:s.size<=1048576)(hl:l.length<=9000000)(hT:Tab w) :
  Calls Tryz.prog 184 #[.pointer (some ⟨g,0,none⟩)] w (OX g s w k l ((bs s).drop k)):=by
 refine (callsIn_wide (n:=9)).1 ?_;have A0:=h.below ((Below.refl _ w).alloc lz (.cells #[.pointer (some ⟨g,0,none⟩)] 178));have AL:=h.lt;obtain⟨cs,hb,h5,h6,h7⟩:=id A0;have c0:=hb.cells.cell 0 _ h6;have c1:=hb.cells.cell 1 _ h7;have c9:=(aa.new w #[.pointer (some ⟨g,0,none⟩)] 178).cell 0 _ rfl;clear hb h5 h6 h7
 by_cases hk4:k+4<=s.size
 ·have Al:min ((k:Int)+4) (s.size:Int)=(k:Int)+4:=by omega
  obtain⟨R,hR⟩:∃R,R=s.extract k ((k:Int)+4).toNat:=⟨_,rfl⟩;refine callsIn_of_wp_marks Tryz.func184 rfl trivial ?_ rfl;simp only[Tryz.ntmps184,List.size_toArray,List.length_cons,List.length_nil,Nat.reduceAdd,Nat.reduceSub,Array.replicate_succ,Array.replicate_zero,List.push_toArray,List.append_toArray,List.nil_append,List.cons_append];have AF:=Hh hR;have AI:s.extract k ((k:Int)+4).toNat=R:=hR.symm
  gi_wp2
  have Af:bs R=((bs s).drop k).take 4:=by rw[hR,yw];congr 1;omega
  have Ac:bs R≠[]:=by rw[Af];intro h0;have:=congrArg List.length h0;simp[ay] at this;omega
  clear hR
  gi_quiet (fail)
  have Ab:∃w0,w0=(w.alloc (.cells #[.pointer (some ⟨g,0,none⟩)] 178)).drewN nq:=⟨_,rfl⟩;obtain⟨w0,Ab⟩:=Ab;rw[<-Ab];have Ap:cu w0 g s k l:=by rw[Ab];exact A0.drewN _
  have Ai:aa w0 w.heap.size #[.pointer (some ⟨g,0,none⟩)] 178:=by rw[Ab];exact (aa.new w _ _).drewN _
  have Aq:Below w.heap.size w w0:=by rw[Ab];exact Below.drewN' ((Below.refl _ w).alloc lz _) _
  have Ae:w0.heap.size=w.heap.size+1:=by rw[Ab];simp
  have HA:=Hh (wO R w0);have HZ:=Hh Ae;clear c0 c1 c9 Ab Al Ae
  gi_wp2
  refine⟨trivial,(callsIn_wide.2 HA.out).mono ?_⟩;rintro e w1 ⟨rfl,hw1⟩;clear HA;have Ae:=HZ.out;have AJ:w1.heap.size=w.heap.size+2:=by rw[hw1];simp[Ae]
  have Aa:Below w0.heap.size w0 w1:=by rw[hw1];exact (Below.refl _ _).alloc lz _
  have A6:w1.cell? ⟨w.heap.size+1,0,none⟩=some (.string R):=by
   have h:=World.cell?_alloc_new (w:=w0) #[.string R] 9 0;rw[Ae] at h;rw[hw1];exact h
  have A1:=Ap.below Aa;have Ax:=Ai.below Aa Ai.lt;have Ar:Below w.heap.size w w1:=Aq.trans (Aa.mono (by omega));have A4:=hT.below Ar hT.pos;have AE:=hT.pos;rw[Ae];clear hw1 Aa Ap Ai Aq Ae;have AA:Sem.run Tryz.prog (binOp .neq 216 (Value.func (Fn.func 212) #[] #[Value.pointer (some { block:=w.heap.size+1,off:=0 })]) Value.nilFunc) w1=.ok (.bool true) w1:=by rfl
  gi_wp2
  have At:g<=w1.heap.size:=by omega
  refine wpIn_rangeFunc_ownG rfl (by omega) (gf:=212) (lb:=#[.pointer (some ⟨w.heap.size+1,0,none⟩)]) rfl trivial (enters_of Tryz.func212 (by kernel_rfl) rfl)
   (rz 8 (by omega) (w.heap.size+1) R (by rw[<-ay,Af];simp;omega) w1 (by omega) A6 A4) dB.trans (dB.put (w.heap.size+1) w1 (by omega) (by omega)) (Below.refl _ _) (fun _=>rfl)
   (Pn w g s k l) (Pk w g s k l) (GL w g s k l _ (by omega) At) (GK w g s k l _ (by omega) At)
   ⟨⟨rfl,A1,Ax⟩,Ar.mono (by omega)⟩
   (fun x=>{ tmps:=#[.pointer (some ⟨g,0,none⟩),.pointer (some ⟨w.heap.size,0,none⟩),.string R,undef,.int .i64 (x.2:Nat),undef,undef,.pointer (some ⟨g,0,none⟩),.pointer (some ⟨g,0,none⟩),.pointer (some ⟨g,0,none⟩),.string s,.pointer (some ⟨g,0,none⟩),.pointer (some ⟨g,0,none⟩),.pointer (some ⟨g,1,none⟩),.int .i64 (k:Int),.pointer (some ⟨g,0,none⟩),.pointer (some ⟨g,0,none⟩),.pointer (some ⟨g,1,none⟩),.int .i64 (k:Int),.int .i64 ((k:Int)+4),.pointer (some ⟨g,0,none⟩),.pointer (some ⟨g,0,none⟩),.pointer (some ⟨g,0,none⟩),.string s,.int .i64 (s.size:Int),.int .i64 ((k:Int)+4),.string R,.string R,.func (.func 212) #[] #[.pointer (some ⟨w.heap.size+1,0,none⟩)],.int .i64 (x.1:Nat),.int .i64 (x.2:Nat),undef,undef,undef,undef,undef,undef,undef,undef,undef,undef,undef,undef,undef,undef,undef,undef,undef,undef,undef,undef],defers:=[] }) ?assign ?body ?done ?stop
  case assign=>
   intro l x W K hK
   gi_wp2
   exact hK
  case body=>
   rintro l0 pre x W ⟨⟨rfl,hRW,hCW⟩,hbW⟩ -;have A9:=hRW.lt;have Az:=DX x.2 W;have As:=Cy x.2;have Ah:(bg (nN x.2)).size=(nN x.2).length:=lT _;generalize hpx:nN x.2=px at *;have Au:=Hh hpx;have Am:=Hh Ah;clear hpx Ah;have AG:=hCW.cell 0 _ rfl
   gi_wp2
   refine⟨trivial,(CallsIn.inRound l0 (callsIn_wide.2 Az)).mono ?_⟩;rintro e w3 ⟨rfl,hb3⟩;have AK:=hb3.size;have A2:=hRW.below hb3;have Ao:=hCW.below hb3 hCW.lt;have A7:=Ao.cell 0 _ rfl;have A5:=O4 w3 g s k l (bg px) A2 (by rw[Am.out];omega)
   gi_wp2
   refine⟨trivial,(CallsIn.inRound l0 (callsIn_wide.2 A5)).mono ?_⟩;rintro e w4 ⟨rfl,hR4,hb4,hB4⟩;obtain⟨AC,Ad,Av,Aw,An⟩:=id hR4;have AB:=Ad.cells.cell 1 _ An;have AD:=Ad.cells.frozen 1;have Ay:=hB4.cells Ao (by omega) (by decide);have A8:=Ay.cell 0 _ rfl;clear Ad Av Aw An;have A3:=hR4.moved (k+px.length);obtain⟨cw,Ak,-⟩:=id hRW;have Ag:=tY (B:=w1.heap.size) (((bA.of_below (E:=5) (g:=g) hb3).trans hB4).setCell 1 (.int .i64 ((k+px.length:Nat):Int))) Ak.cells;have Aj:=((hbW.trans (hb3.mono (by omega))).trans hb4).setCell (p:=⟨g,1,none⟩) lz (.int .i64 ((k+px.length:Nat):Int));have AH:=Am.out
   gi_wp2
   exact⟨Ag,⟨rfl,x,rfl,by rw[Au.out];exact A3⟩,Aj⟩
  case done=>
   rintro D ys W hD hys ⟨⟨rfl,hRW,hCW⟩,hbW⟩ hK
   have h0:(aD ((bs s).drop k)).2=0:=by
    rw[<-ow,<-Af];exact Decidable.byContradiction fun hn=>by rw[fV Ac,if_neg hn] at hys;cases hys
   gi_wp2
   refine⟨trivial,(callsIn_wide.2 (iD 7 W)).mono ?_⟩;rintro e w3 ⟨rfl,rfl⟩
   gi_wp2
   refine⟨by simp,.inl ⟨_,_,rfl,run_takeDeferred hK,?_⟩⟩;exact .inr ⟨h0,rfl,hbW.trans ((belowK_b (w:=w) lz W D _ _ (by omega) hK rfl rfl).mono (by omega))⟩
  case stop=>
   rintro D c pre W hD hpre ⟨⟨rfl,x,rfl,hRW⟩,hbW⟩ hK
   have hx:(aD ((bs s).drop k)).2≠0/\nN x.2=un (((bs s).drop k).take (aD ((bs s).drop k)).2)/\(nN x.2).length=(aD ((bs s).drop k)).2:=by
    rw[<-ow,<-Af];have hn:(aD (bs R)).2≠0:=fun hn=>by rw[jK Ac hn] at hpre;simp at hpre
    rw[fV Ac,if_neg hn] at hpre;obtain⟨t,ht⟩:=hpre;simp only[List.cons_append,List.nil_append,List.cons.injEq] at ht;obtain⟨rfl,-⟩:=ht;obtain⟨q1,q2,q3,q4⟩:=iY (l:=bs R) (c:=(aD (bs R)).1) (n:=(aD (bs R)).2) fK (by rfl) hn;have e1:nN (aD (bs R)).1=gG (aD (bs R)).1:=by unfold nN;rw[if_pos q1]
    refine⟨hn,?_,?_⟩
    ·rw[e1]
     show un (fu _)=_;rw[q3,Af,List.take_take,Nat.min_eq_left (by rw[<-Af];exact (jS _ fK).2)]
    ·rw[e1,jB,q2]
   gi_wp2
   refine⟨by simp,.inl ⟨_,_,rfl,run_takeDeferred hK,?_⟩⟩;refine⟨_,results_none rfl _ _ _,.inl ⟨hx.1,rfl,?_,?_⟩⟩
   ·have:=hRW.kept (grownBy_putObj' W D (.deferred none)) (fun r e=>by cases e;exact⟨_,hK,rfl⟩)
    rw[hx.2.2,hx.2.1] at this;exact this
   ·exact hbW.trans ((belowK_b (w:=w) lz W D _ _ (by omega) hK rfl rfl).mono (by omega))
 ·have Al:min ((k:Int)+4) (s.size:Int)=(s.size:Int):=by omega
  obtain⟨R,hR⟩:=exq (s.extract k s.size);refine callsIn_of_wp_marks Tryz.func184 rfl trivial ?_ rfl;simp only[Tryz.ntmps184,List.size_toArray,List.length_cons,List.length_nil,Nat.reduceAdd,Nat.reduceSub,Array.replicate_succ,Array.replicate_zero,List.push_toArray,List.append_toArray,List.nil_append,List.cons_append];have AF:=Hh hR;have AI:s.extract k s.size=R:=hR.symm
  gi_wp2
  have Af:bs R=((bs s).drop k).take 4:=by rw[hR,yw];rw[List.take_of_length_le (by simp[ay]),List.take_of_length_le (by simp[ay];omega)]
  have Ac:bs R≠[]:=by rw[Af];intro h0;have:=congrArg List.length h0;simp[ay] at this;omega
  clear hR
  gi_quiet (fail)
  have Ab:∃w0,w0=(w.alloc (.cells #[.pointer (some ⟨g,0,none⟩)] 178)).drewN nq:=⟨_,rfl⟩;obtain⟨w0,Ab⟩:=Ab;rw[<-Ab];have Ap:cu w0 g s k l:=by rw[Ab];exact A0.drewN _
  have Ai:aa w0 w.heap.size #[.pointer (some ⟨g,0,none⟩)] 178:=by rw[Ab];exact (aa.new w _ _).drewN _
  have Aq:Below w.heap.size w w0:=by rw[Ab];exact Below.drewN' ((Below.refl _ w).alloc lz _) _
  have Ae:w0.heap.size=w.heap.size+1:=by rw[Ab];simp
  have HA:=Hh (wO R w0);have HZ:=Hh Ae;clear c0 c1 c9 Ab Al Ae
  gi_wp2
  refine⟨trivial,(callsIn_wide.2 HA.out).mono ?_⟩;rintro e w1 ⟨rfl,hw1⟩;clear HA;have Ae:=HZ.out;have AJ:w1.heap.size=w.heap.size+2:=by rw[hw1];simp[Ae]
  have Aa:Below w0.heap.size w0 w1:=by rw[hw1];exact (Below.refl _ _).alloc lz _
  have A6:w1.cell? ⟨w.heap.size+1,0,none⟩=some (.string R):=by
   have h:=World.cell?_alloc_new (w:=w0) #[.string R] 9 0;rw[Ae] at h;rw[hw1];exact h
  have A1:=Ap.below Aa;have Ax:=Ai.below Aa Ai.lt;have Ar:Below w.heap.size w w1:=Aq.trans (Aa.mono (by omega));have A4:=hT.below Ar hT.pos;have AE:=hT.pos;rw[Ae];clear hw1 Aa Ap Ai Aq Ae;have AA:Sem.run Tryz.prog (binOp .neq 216 (Value.func (Fn.func 212) #[] #[Value.pointer (some { block:=w.heap.size+1,off:=0 })]) Value.nilFunc) w1=.ok (.bool true) w1:=by rfl
  gi_wp2
  have At:g<=w1.heap.size:=by omega
  refine wpIn_rangeFunc_ownG rfl (by omega) (gf:=212) (lb:=#[.pointer (some ⟨w.heap.size+1,0,none⟩)]) rfl trivial (enters_of Tryz.func212 (by kernel_rfl) rfl)
   (rz 8 (by omega) (w.heap.size+1) R (by rw[<-ay,Af];simp;omega) w1 (by omega) A6 A4) dB.trans (dB.put (w.heap.size+1) w1 (by omega) (by omega)) (Below.refl _ _) (fun _=>rfl)
   (Pn w g s k l) (Pk w g s k l) (GL w g s k l _ (by omega) At) (GK w g s k l _ (by omega) At)
   ⟨⟨rfl,A1,Ax⟩,Ar.mono (by omega)⟩
   (fun x=>{ tmps:=#[.pointer (some ⟨g,0,none⟩),.pointer (some ⟨w.heap.size,0,none⟩),.string R,undef,.int .i64 (x.2:Nat),undef,undef,.pointer (some ⟨g,0,none⟩),.pointer (some ⟨g,0,none⟩),.pointer (some ⟨g,0,none⟩),.string s,.pointer (some ⟨g,0,none⟩),.pointer (some ⟨g,0,none⟩),.pointer (some ⟨g,1,none⟩),.int .i64 (k:Int),.pointer (some ⟨g,0,none⟩),.pointer (some ⟨g,0,none⟩),.pointer (some ⟨g,1,none⟩),.int .i64 (k:Int),.int .i64 ((k:Int)+4),.pointer (some ⟨g,0,none⟩),.pointer (some ⟨g,0,none⟩),.pointer (some ⟨g,0,none⟩),.string s,.int .i64 (s.size:Int),.int .i64 ((s.size:Int)),.string R,.string R,.func (.func 212) #[] #[.pointer (some ⟨w.heap.size+1,0,none⟩)],.int .i64 (x.1:Nat),.int .i64 (x.2:Nat),undef,undef,undef,undef,undef,undef,undef,undef,undef,undef,undef,undef,undef,undef,undef,undef,undef,undef,undef,undef],defers:=[] }) ?assign ?body ?done ?stop
  case assign=>
   intro l x W K hK
   gi_wp2
   exact hK
  case body=>
   rintro l0 pre x W ⟨⟨rfl,hRW,hCW⟩,hbW⟩ -;have A9:=hRW.lt;have Az:=DX x.2 W;have As:=Cy x.2;have Ah:(bg (nN x.2)).size=(nN x.2).length:=lT _;generalize hpx:nN x.2=px at *;have Au:=Hh hpx;have Am:=Hh Ah;clear hpx Ah;have AG:=hCW.cell 0 _ rfl
   gi_wp2
   refine⟨trivial,(CallsIn.inRound l0 (callsIn_wide.2 Az)).mono ?_⟩;rintro e w3 ⟨rfl,hb3⟩;have AK:=hb3.size;have A2:=hRW.below hb3;have Ao:=hCW.below hb3 hCW.lt;have A7:=Ao.cell 0 _ rfl;have A5:=O4 w3 g s k l (bg px) A2 (by rw[Am.out];omega)
   gi_wp2
   refine⟨trivial,(CallsIn.inRound l0 (callsIn_wide.2 A5)).mono ?_⟩;rintro e w4 ⟨rfl,hR4,hb4,hB4⟩;obtain⟨AC,Ad,Av,Aw,An⟩:=id hR4;have AB:=Ad.cells.cell 1 _ An;have AD:=Ad.cells.frozen 1;have Ay:=hB4.cells Ao (by omega) (by decide);have A8:=Ay.cell 0 _ rfl;clear Ad Av Aw An;have A3:=hR4.moved (k+px.length);obtain⟨cw,Ak,-⟩:=id hRW;have Ag:=tY (B:=w1.heap.size) (((bA.of_below (E:=5) (g:=g) hb3).trans hB4).setCell 1 (.int .i64 ((k+px.length:Nat):Int))) Ak.cells;have Aj:=((hbW.trans (hb3.mono (by omega))).trans hb4).setCell (p:=⟨g,1,none⟩) lz (.int .i64 ((k+px.length:Nat):Int));have AH:=Am.out
   gi_wp2
   exact⟨Ag,⟨rfl,x,rfl,by rw[Au.out];exact A3⟩,Aj⟩
  case done=>
   rintro D ys W hD hys ⟨⟨rfl,hRW,hCW⟩,hbW⟩ hK
   have h0:(aD ((bs s).drop k)).2=0:=by
    rw[<-ow,<-Af];exact Decidable.byContradiction fun hn=>by rw[fV Ac,if_neg hn] at hys;cases hys
   gi_wp2
   refine⟨trivial,(callsIn_wide.2 (iD 7 W)).mono ?_⟩;rintro e w3 ⟨rfl,rfl⟩
   gi_wp2
   refine⟨by simp,.inl ⟨_,_,rfl,run_takeDeferred hK,?_⟩⟩;exact .inr ⟨h0,rfl,hbW.trans ((belowK_b (w:=w) lz W D _ _ (by omega) hK rfl rfl).mono (by omega))⟩
  case stop=>
   rintro D c pre W hD hpre ⟨⟨rfl,x,rfl,hRW⟩,hbW⟩ hK
   have hx:(aD ((bs s).drop k)).2≠0/\nN x.2=un (((bs s).drop k).take (aD ((bs s).drop k)).2)/\(nN x.2).length=(aD ((bs s).drop k)).2:=by
    rw[<-ow,<-Af];have hn:(aD (bs R)).2≠0:=fun hn=>by rw[jK Ac hn] at hpre;simp at hpre
    rw[fV Ac,if_neg hn] at hpre;obtain⟨t,ht⟩:=hpre;simp only[List.cons_append,List.nil_append,List.cons.injEq] at ht;obtain⟨rfl,-⟩:=ht;obtain⟨q1,q2,q3,q4⟩:=iY (l:=bs R) (c:=(aD (bs R)).1) (n:=(aD (bs R)).2) fK (by rfl) hn;have e1:nN (aD (bs R)).1=gG (aD (bs R)).1:=by unfold nN;rw[if_pos q1]
    refine⟨hn,?_,?_⟩
    ·rw[e1]
     show un (fu _)=_;rw[q3,Af,List.take_take,Nat.min_eq_left (by rw[<-Af];exact (jS _ fK).2)]
    ·rw[e1,jB,q2]
   gi_wp2
   refine⟨by simp,.inl ⟨_,_,rfl,run_takeDeferred hK,?_⟩⟩;refine⟨_,results_none rfl _ _ _,.inl ⟨hx.1,rfl,?_,?_⟩⟩
   ·have:=hRW.kept (grownBy_putObj' W D (.deferred none)) (fun r e=>by cases e;exact⟨_,hK,rfl⟩)
    rw[hx.2.2,hx.2.1] at this;exact this
   ·exact hbW.trans ((belowK_b (w:=w) lz W D _ _ (by omega) hK rfl rfl).mono (by omega))
def OY(g:Nat)(s:ByteArray)(w:World)(k:Nat)(l:List UInt8)(L:List Nat)(e:Ending)(w':World):Prop:=
 (L.head?=some 34/\Pt g s w (.bool false) (k+1) l e w')\/
 (L.head?≠some 34/\(ax L).2.2=0/\Pt g s w (.bool true) (k+(ax L).2.1) (l++un (ax L).1) e w')\/
 (L.head?≠some 34/\(ax L).2.2≠0/\D5 g w ((ax L).2.2:Nat) e w')
theorem Ki(w:World)(g:Nat)(s:ByteArray)(k:Nat)(l:List UInt8)(h:cu w g s k l)(hk:k<=s.size)(hs:s.size<=1048576)(hl:l.length<=9000000)(hT:Tab w)(hg:1<g) :
  Calls Tryz.prog 157 #[.pointer (some ⟨g,0,none⟩)] w (OY g s w k l ((bs s).drop k)):=by
 cases hq:(bs s).drop k with
 |nil=>
  have hN:=fun W h=>lL W g s k l h hk hq (by omega);clear hq;go_enter Tryz.func157,Tryz.ntmps157;go_wp2_with fail;refine (hN _ h).mono ?_;rintro e w1 ⟨rfl,hb1⟩;go_wp2;exact⟨rfl,.inr (.inr ⟨by simp,by simp[ax,aG],rfl,hb1⟩)⟩
 |cons c r=>
  have hN:=fun W h=>kr W g s k l h hq (by omega);have hc:c<256:=fK c (List.mem_of_mem_drop (by rw[hq];simp));obtain⟨Ab,Af⟩:=gV hq;rw[ay] at Af
  by_cases h34:c=34
  ·subst h34
   clear hq Ab;go_enter Tryz.func157,Tryz.ntmps157;go_wp2_with fail;refine (hN _ h).mono ?_;rintro e w1 ⟨rfl,hR1,hb1,hB1⟩;go_wp2;go_ret;exact .inl ⟨rfl,rfl,hR1,hb1⟩
  have Aa:(c::r).head?≠some 34:=by simpa using h34
  have Ag:((c:Int)==34)=false:=by rw[beq_eq_false_iff_ne];omega
  by_cases h92:c=92
  ·subst h92
   have hE:=fun W h=>Fg W g s k l h (by omega) (by omega) hl;rw[Ab] at hE;have HC:Hid (ax (92::r)=mf r):=Hh (by simp[ax]);clear hq Ab Aa h34;go_enter Tryz.func157,Tryz.ntmps157;go_wp2_with fail;refine (hN _ h).mono ?_;rintro e w1 ⟨rfl,hR1,hb1,hB1⟩;go_wp2_with fail;refine (hE _ hR1).mono ?_;rintro e w2 (⟨h0,rfl,hR2,hb2,hB2⟩|⟨h0,rfl,hb2⟩)
   ·have H0:=Hh h0
    clear h0;go_wp2;go_ret;exact .inr (.inl ⟨by simp,by rw[HC.out];exact H0.out,by rw[HC.out];exact⟨rfl,hR2,hb1.trans hb2⟩⟩)
   ·have H0:=Hh h0
    clear h0;go_wp2;exact⟨rfl,.inr (.inr ⟨by simp,by rw[HC.out];exact H0.out,by rw[HC.out];exact⟨rfl,hb1.trans hb2⟩⟩)⟩
  have Ah:((c:Int)==92)=false:=by rw[beq_eq_false_iff_ne];omega
  by_cases h32:c<32
  ·have HC:Hid (ax (c::r)=aG 3):=Hh (by simp[ax,h32])
   have HH:=Hh Aa;clear hq Ab Aa h34 h92;go_enter Tryz.func157,Tryz.ntmps157;go_wp2_with fail;refine (hN _ h).mono ?_;rintro e w1 ⟨rfl,hR1,hb1,hB1⟩;go_wp2_with fail;refine (iD 3 _).mono ?_;rintro e w2 ⟨rfl,rfl⟩;go_wp2;exact⟨rfl,.inr (.inr ⟨HH.out,by rw[HC.out];simp[aG],by rw[HC.out];exact⟨rfl,hb1⟩⟩)⟩
  by_cases h128:c<128
  ·have HC:Hid (ax (c::r)=([c],1,0)):=Hh (by
    simp only[ax];rw[if_neg h32,if_neg h92]
    simp[aD,h128])
   have HH:=Hh Aa;clear hq Ab Aa h34 h92;have Ac:32<=c:=by omega
   clear h32;go_enter Tryz.func157,Tryz.ntmps157;go_wp2_with fail;refine (hN _ h).mono ?_;rintro e w1 ⟨rfl,hR1,hb1,hB1⟩;go_wp2_with fail;refine (Mc w1 g s _ l c _ rfl (by omega) hR1 (by omega)).mono ?_;rintro e w2 ⟨rfl,hR2,hb2,hB2⟩;go_wp2;go_ret;exact .inr (.inl ⟨HH.out,by rw[HC.out],by rw[HC.out];exact⟨rfl,hR2,hb1.trans hb2⟩⟩)
  ·have HC:Hid (ax (c::r)=if (aD (c::r)).2=0 then aG 7 else ((c::r).take (aD (c::r)).2,(aD (c::r)).2,0)):=Hh (by
    simp only[ax]
    rw[if_neg h32,if_neg h92])
   have hS:=fun W h hT=>Ep W g s k l h (by omega) hs hl hT;rw[hq] at hS;generalize hcr:c::r=cr at *;have HH:=Hh Aa;clear hq Ab Aa h34 h92 hcr;have Ac:128<=c:=by omega
   clear h32 h128;go_enter Tryz.func157,Tryz.ntmps157;go_wp2_with fail;refine (hN _ h).mono ?_;rintro e w1 ⟨rfl,hR1,hb1,hB1⟩;have hR2:=hR1.moved k;have Ae:=hT.below (hb1.trans (p8 g (.int .i64 (k:Int)))) hg;obtain⟨cs,Ad,h5,h6,h7⟩:=id hR1;have c1:=Ad.cells.cell 1 _ h7;have f1:=Ad.cells.frozen 1;clear Ad h5 h6 h7;go_wp2_with fail;refine (hS _ hR2 Ae).mono ?_;rintro e w2 (⟨h0,rfl,hR3,hb3⟩|⟨h0,rfl,hb3⟩)
   ·have H0:=Hh h0
    clear h0;go_wp2;go_ret;exact .inr (.inl ⟨HH.out,by rw[HC.out,if_neg H0.out],by rw[HC.out,if_neg H0.out];exact⟨rfl,hR3,(hb1.trans (p8 g _)).trans hb3⟩⟩)
   ·have H0:=Hh h0
    clear h0;go_wp2;exact⟨rfl,.inr (.inr ⟨HH.out,by rw[HC.out,if_pos H0.out];simp[aG],by rw[HC.out,if_pos H0.out];exact⟨rfl,(hb1.trans (p8 g _)).trans hb3⟩⟩)⟩
theorem Tryz.asFail(v:Value)(w:World):(Instr.typeAssert (.iface 176 v) 20 176 true).run Tryz.prog w=.ok (.tuple #[v,.bool true]) w:=by kernel_rfl
theorem lu(b0 b1 b2:Nat)(v0 v1 v2:Value)(n:Int)(older:List PanicEntry)(w:World)(h0:aa w b0 #[v0] 9)(h1:aa w b1 #[v1] 3)(h2:aa w b2 #[v2] 26)(h01:b0<b1)(h12:b1<b2) :
  CallsD Tryz.prog 154 #[.pointer (some ⟨b0,0,none⟩),.pointer (some ⟨b1,0,none⟩),.pointer (some ⟨b2,0,none⟩)] (.panicking ({ v:=yu n,recovered:=false }::older)) w fun e u' w'=>
   e=.returned (.tuple #[])/\u'=.panicking ({ v:=yu n,recovered:=true }::older)/\aa w' b0 #[.string ⟨#[]⟩] 9/\aa w' b1 #[.int .i64 0] 3/\aa w' b2 #[.int .i64 n] 26/\Below b0 w w':=by
 refine callsD_of_wpS Tryz.func154 rfl fun c₀ cs hu=>?_;apply wpS_seq
 apply wpS_region
 simp[wpOpsS,go_sem,recoverD,hu,Tryz.ntmps154,Exit.thenS]
 refine wpS_of_wp ?_;rw[show (#[Value.pointer (some ⟨b0,0,none⟩),.pointer (some ⟨b1,0,none⟩),.pointer (some ⟨b2,0,none⟩)]++((Array.replicate 16 undef).setIfInBounds 3 (yu n)).setIfInBounds 0 (yu n))=#[Value.pointer (some ⟨b0,0,none⟩),.pointer (some ⟨b1,0,none⟩),.pointer (some ⟨b2,0,none⟩),yu n,undef,undef,yu n,undef,undef,undef,undef,undef,undef,undef,undef,undef,undef,undef,undef] from rfl];have Ab:=Tryz.asFail;have hx:=aa.new w #[.int .i64 n] 176;have Ao:=hx.cell 0 _ rfl;have k0:=(h0.alloc (.cells #[.int .i64 n] 176));have k1:=(h1.alloc (.cells #[.int .i64 n] 176));have k2:=(h2.alloc (.cells #[.int .i64 n] 176));obtain⟨Ac,Ad⟩:=k0.n1 rfl;obtain⟨Ae,Af⟩:=k1.n1 rfl;obtain⟨Ag,Ah⟩:=k2.n1 rfl;have Ai:¬b0=b1:=by omega
 have Ak:¬b1=b0:=by omega
 have Aj:¬b0=b2:=by omega
 have Am:¬b2=b0:=by omega
 have Al:¬b1=b2:=by omega
 have An:¬b2=b1:=by omega
 have l0:=h0.lt;have l1:=h1.lt;have l2:=h2.lt;clear h0 h1 h2;go_wp2;have x0:¬w.heap.size=b0:=by omega
 have x1:¬w.heap.size=b1:=by omega
 have x2:¬w.heap.size=b2:=by omega
 have y0:¬b0=w.heap.size:=by omega
 have y1:¬b1=w.heap.size:=by omega
 have y2:¬b2=w.heap.size:=by omega
 have hb:Below b0 w (w.alloc (.cells #[.int .i64 n] 176)):=(Below.refl b0 w).alloc (Nat.le_of_lt l0) _;have Aa:=Hh (show b0<=b1/\b0<=b2 by omega);clear l0 l1 l2 h01 h12;generalize w.alloc (.cells #[.int .i64 n] 176)=W0 at *;generalize w.heap.size=X at *;go_region
 have r0:=((k0.set 0 (by simp) (.string ⟨#[]⟩)).setOther ⟨b1,0,none⟩ (.int .i64 0) (by simpa using Ak)).setOther ⟨b2,0,none⟩ (.int .i64 n) (by simpa using Am);have r1:=((k1.setOther ⟨b0,0,none⟩ (.string ⟨#[]⟩) (by simpa using Ai)).set 0 (by simp) (.int .i64 0)).setOther ⟨b2,0,none⟩ (.int .i64 n) (by simpa using An);have r2:=((k2.setOther ⟨b0,0,none⟩ (.string ⟨#[]⟩) (by simpa using Aj)).setOther ⟨b1,0,none⟩ (.int .i64 0) (by simpa using Al)).set 0 (by simp) (.int .i64 n);clear k0 k1 k2 Ac Ad Ae Af Ag Ah Ab;cases c₀
 exact⟨rfl,_,rfl,_,results_none rfl _ _ _,rfl,rfl,r0,r1,r2,(((hb.setCell (p:=⟨b0,0,none⟩) lz _).setCell (p:=⟨b1,0,none⟩) Aa.out.1 _).setCell (p:=⟨b2,0,none⟩) Aa.out.2 _).drew⟩
theorem Fq(p q r:Value)(w:World) :
  CallsD Tryz.prog 154 #[p,q,r] .returning w fun e u' w'=>e=.returned (.tuple #[])/\u'=.returning/\w'=w:=by
 refine callsD_of_wpS Tryz.func154 rfl fun c₀ cs hu=>?_;apply wpS_seq
 apply wpS_region
 simp[wpOpsS,go_sem,recoverD,hu,Tryz.ntmps154,Exit.thenS]
 refine wpS_of_wp ?_;rw[show (#[p,q,r]++((Array.replicate 16 undef).setIfInBounds 3 Value.nilIface).setIfInBounds 0 Value.nilIface)=#[p,q,r,Value.nilIface,undef,undef,Value.nilIface,undef,undef,undef,undef,undef,undef,undef,undef,undef,undef,undef,undef] from rfl];go_wp2;cases c₀
 simp_all [bodyPostS,results,Tryz.results154]
def JV(q:og):Value:=.tuple #[.string (bg (un q.1)),.int .i64 (q.2.1:Int),.int .i64 (q.2.2:Int)]
def Mv(w:World):World:=((w.alloc (.cells #[.string ⟨#[]⟩] 9)).alloc (.cells #[.int .i64 0] 3)).alloc (.cells #[.int .i64 0] 26)
def Js(w:World)(s:ByteArray):World:=(Mv w).alloc (.cells #[.string s,.int .i64 0,.pointer none,.slice none 0 0] 180)
theorem KE(w:World):(Mv w).heap.size=w.heap.size+3:=by simp[Mv]
theorem II(w:World)(s:ByteArray):Below w.heap.size w (Js w s):=by
 unfold Js Mv;exact ((((Below.refl _ w).alloc lz _).alloc (by simp) _).alloc (by simp;omega) _).alloc (by simp;omega) _
theorem Mt(w:World)(s:ByteArray):aa (Js w s) w.heap.size #[.string ⟨#[]⟩] 9/\aa (Js w s) (w.heap.size+1) #[.int .i64 0] 3/\aa (Js w s) (w.heap.size+2) #[.int .i64 0] 26:=by
 unfold Js Mv;have h0:=aa.new w #[.string ⟨#[]⟩] 9;have h1:=aa.new (w.alloc (.cells #[.string ⟨#[]⟩] 9)) #[.int .i64 0] 3;have h2:=aa.new ((w.alloc (.cells #[.string ⟨#[]⟩] 9)).alloc (.cells #[.int .i64 0] 3)) #[.int .i64 0] 26;simp only[World.size_alloc] at h1 h2;exact⟨((h0.alloc _).alloc _).alloc _,(h1.alloc _).alloc _,h2.alloc _⟩
theorem Ms(w:World)(s:ByteArray):cu (Js w s) (w.heap.size+3) s 0 []:=by
 have h:=aa.new (Mv w) #[.string s,.int .i64 0,.pointer none,.slice none 0 0] 180;rw[KE] at h;exact⟨_,⟨h,.inl rfl,_,rfl,aX.nil⟩,rfl,rfl,rfl⟩
def atOf(w:World)(g:Nat):Nat:=match w.cell? ⟨g,1,none⟩ with
 |some (.int _ n)=>n.toNat
 |_=>0
theorem cu.atOf{w:World}{g:Nat}{s:ByteArray}{k:Nat}{l:List UInt8}(h:cu w g s k l):YtbcdaaobbebooaaGreatDoor.atOf w g=k:=by
 obtain⟨cs,h1,_,_,h7⟩:=h;unfold YtbcdaaobbebooaaGreatDoor.atOf;rw[h1.cells.cell 1 _ h7];simp
theorem zy(l:List Nat):(un l).length=l.length:=by simp[un]
theorem zK(s:ByteArray)(w:World)(hs:s.size<=1048576)(hT:Tab w) :
    Calls Tryz.prog 126 #[.string s] w fun e w'=>e=.returned (JV (aV (bs s)))/\Below w.heap.size w w':=by
  have A8:∀(fn:Fn) (first cap:Array Value) (w:World),(Instr.makeFunc fn first cap).run Tryz.prog w=.ok (.func fn first cap) w:=fun _ _ _ _=>rfl;have Ag:=hT.pos;have hR:=Ms w s;obtain⟨x0,x1,x2⟩:=Mt w s;have hB:=II w s;have At:=hT.below hB Ag
  cases hq:bs s with
  |nil=>
    have hN:=lL (Js w s) _ s 0 [] hR (Nat.zero_le _) (by simpa using hq) (by omega);have HC:Hid (aV (bs s)=aG 2):=Hh (by rw[hq];rfl);rw[<-hq];unfold Js Mv at hN;clear hq;go_enter_defers Tryz.func126,Tryz.ntmps126
    go_wp2_with fail;refine hN.mono ?_;rintro e w1 ⟨rfl,hb1⟩;have y0:=x0.below hb1 (by omega);have y1:=x1.below hb1 (by omega);have y2:=x2.below hb1 (by omega);go_wp2;refine leaves_cons (f:=154) (args:=#[.pointer (some ⟨w.heap.size,0,none⟩),.pointer (some ⟨w.heap.size+1,0,none⟩),.pointer (some ⟨w.heap.size+2,0,none⟩)]) (by simp) (by simp[go_sem]) ?_;refine (lu w.heap.size (w.heap.size+1) (w.heap.size+2) _ _ _ _ [] _ y0 y1 y2 (by omega) (by omega)).mono ?_;rintro e u' w'' ⟨rfl,rfl,r0,r1,r2,hbl⟩;have q0:=r0.cell 0 _ rfl;have q1:=r1.cell 0 _ rfl;have q2:=r2.cell 0 _ rfl;clear r0 r1 r2;simp[Leaves,settle,results,Tryz.results126,go_sem,q0,q1,q2]
    exact⟨by rw[HC.out];rfl,(hB.trans (hb1.mono (by omega))).trans hbl⟩
  |cons c r=>
    have hN:=kr (Js w s) _ s 0 [] hR (by simpa using hq) (by omega);have hc:c<256:=fK c (by rw[hq];simp);have Ay:r.length+1=s.size:=by rw[<-ay,hq];rfl
    by_cases hc34:c=34
    . subst hc34
      have HQ:Hid (aV (bs s)=gZ [] 1 (bU ((bs s).drop 1))):=Hh (by rw[hq];rfl);rw[<-hq];unfold Js Mv at hN;clear hq;go_enter_defers Tryz.func126,Tryz.ntmps126
      go_wp2_with fail;refine hN.mono ?_;clear hN;rintro e w1 ⟨rfl,hR1,hb1,hB1⟩;have y0:=x0.below hb1 (by omega);have y1:=x1.below hb1 (by omega);have y2:=x2.below hb1 (by omega);have Ac:=hB.trans (hb1.mono (by omega));clear x0 x1 x2 hB1 hb1 hB hR At;go_wp2_with fail;go_loopw [] (fun wr=>∃(k:Nat) (pre:List Nat),cu wr (w.heap.size+3) s k (un pre)/\k<=s.size/\pre.length<=4*k/\gZ pre k (bU ((bs s).drop k))=aV (bs s)/\aa wr w.heap.size #[.string ⟨#[]⟩] 9/\aa wr (w.heap.size+1) #[.int .i64 0] 3/\aa wr (w.heap.size+2) #[.int .i64 0] 26/\Below w.heap.size w wr) (fun wr=>s.size-atOf wr (w.heap.size+3))
      case atStart=>exact⟨1,[],hR1,by omega,by simp,HQ.out.symm,y0,y1,y2,Ac⟩
      case round=>
        clear hR1 y0 y1 y2 Ac HQ;obtain⟨k,pre,hR,hk,A9,hj,x0,x1,x2,hb⟩:=hrel;have HJ:=Hh hj;have Ah:atOf wr (w.heap.size+3)=k:=hR.atOf;have As:=hT.below hb Ag;have hP:=Ki wr _ s k (un pre) hR hk hs (by rw[zy];omega) As (by omega);clear hj;have Aa:vZ ((bs s).drop k):=fun x hx=>fK x (List.mem_of_mem_drop hx);go_wp2_with fail;refine hP.mono ?_;clear hP;rintro e w2 (⟨hh,rfl,hR2,hb2⟩|⟨hh,he,rfl,hR2,hb2⟩|⟨hh,he,rfl,hb2⟩)
        . have HC:Hid (aV (bs s)=(pre,k+1,0)):=Hh (by rw[<-HJ.out,zW Aa hh])
          have y0:=x0.below hb2 (by omega);have y1:=x1.below hb2 (by omega);have y2:=x2.below hb2 (by omega);have Ad:=hb.trans (hb2.mono (by omega));clear hh Aa x0 x1 x2 hb hb2 HJ hR Ah;obtain⟨cs,hbl,h5,h6,h7⟩:=hR2;have Af:=hbl.cells.lt;have Aw:=hbl.cells;have Ae:w2.drew.cell? ⟨w.heap.size+1+1+1,1,none⟩=some (.int .i64 ((k+1:Nat):Int)):=hbl.cells.cell 1 _ h7;have Ap:(un pre).length<=1000000000:=by rw[zy];omega
          have Aj:=sj w2.drew (h:=(show FK 180 (w.heap.size+3) w2.drew (w.heap.size+3) 2 cs (un pre) from ⟨hbl.cells.drew,hbl.addr,by obtain⟨v,e1,e2⟩:=hbl.buf;exact⟨v,e1,e2.drew⟩⟩)) (Nat.le_of_lt Af) Ap;obtain⟨S,hS⟩:∃S:ByteArray,S=⟨(un pre).toArray⟩:=⟨_,rfl⟩;rw[<-hS] at Aj;have HS:=Hh hS;clear hS hbl Ap h5 h6;go_wp2_with fail
          go_region_held3 (fun w'=>w'.cell? ⟨w.heap.size+1+1+1,1,none⟩=some (.int .i64 ((k+1:Nat):Int))) (first|exact Ae|exact hc6|exact hc7|exact hc8|exact hc9) (first
            | (go_at_call 43;refine Aj.mono ?_;rintro e6 w6 ⟨rfl,hb6,hk6⟩
               have AA:=y2.lt;have z0:aa w6 w.heap.size _ _:=hk6 _ _ y0.lt y0 (fun _ _ h=>by cases h);have z1:aa w6 (w.heap.size+1) _ _:=hk6 _ _ y1.lt y1 (fun _ _ h=>by cases h);have z2:aa w6 (w.heap.size+1+1) _ _:=hk6 _ _ y2.lt y2 (fun _ _ h=>by cases h);have zg:aa w6 (w.heap.size+1+1+1) cs 180:=hk6 _ _ Af Aw (fun _ _ h=>by cases h);have hc6:=zg.cell 1 _ h7;have Al:=zg.setOther ⟨w.heap.size,0,none⟩ (.string S) (by simp;omega);have Am:=Al.setOther ⟨w.heap.size+1,0,none⟩ (.int .i64 ((k+1:Nat):Int)) (by simp);have Aq:=Am.setOther ⟨w.heap.size+1+1,0,none⟩ (.int .i64 0) (by simp);have hc7:=Al.cell 1 _ h7;have hc8:=Am.cell 1 _ h7;have hc9:=Aq.cell 1 _ h7;obtain⟨Az,A0⟩:=z0.n1 rfl;obtain⟨A1,A2⟩:=z1.n1 rfl;have A3:=z2.cell 0 _ rfl
               have A4:=z2.frozen 0))
          have r0:=((z0.set 0 (by simp) (.string S)).setOther ⟨w.heap.size+1,0,none⟩ (.int .i64 ((k+1:Nat):Int)) (by simp)).setOther ⟨w.heap.size+1+1,0,none⟩ (.int .i64 0) (by simp;omega);have r1:=((z1.setOther ⟨w.heap.size,0,none⟩ (.string S) (by simp)).set 0 (by simp) (.int .i64 ((k+1:Nat):Int))).setOther ⟨w.heap.size+1+1,0,none⟩ (.int .i64 0) (by simp);have r2:=((z2.setOther ⟨w.heap.size,0,none⟩ (.string S) (by simp;omega)).setOther ⟨w.heap.size+1,0,none⟩ (.int .i64 ((k+1:Nat):Int)) (by simp)).set 0 (by simp) (.int .i64 0);have Au:Below w.heap.size w w6:=Ad.drew.trans (hb6.mono (by omega));have Ao:=((Au.setCell (p:=⟨w.heap.size,0,none⟩) lz (.string S)).setCell (p:=⟨w.heap.size+1,0,none⟩) (by simp) (.int .i64 ((k+1:Nat):Int))).setCell (p:=⟨w.heap.size+1+1,0,none⟩) (by simp;omega) (.int .i64 0);have q0:=r0.cell 0 _ rfl;have q1:=r1.cell 0 _ rfl;have q2:=r2.cell 0 _ rfl;clear r0 r1 r2 z0 z1 z2 zg Al Am Aq Az A0 A1 A2 A3 A4 Ae hc6 hc7 hc8 hc9 hk6 Aj;go_wp2;refine leaves_cons (f:=154) (args:=#[.pointer (some ⟨w.heap.size,0,none⟩),.pointer (some ⟨w.heap.size+1,0,none⟩),.pointer (some ⟨w.heap.size+1+1,0,none⟩)]) (by simp) (by simp[go_sem]) ?_;refine (Fq _ _ _ _).mono ?_;rintro e u' w'' ⟨rfl,rfl,rfl⟩;simp only[Int.natCast_add,Int.natCast_one] at q0 q1 q2 Ao;simp[Leaves,settle,results,Tryz.results126,go_sem,q0,q1,q2]
          exact⟨by rw[HC.out,HS.out];rfl,Ao⟩
        . obtain⟨c,A6,Ae,A7,Av⟩:=kI Aa he
          have HN:Hid (gZ (pre++(ax ((bs s).drop k)).1) (k+(ax ((bs s).drop k)).2.1) (bU ((bs s).drop (k+(ax ((bs s).drop k)).2.1)))=aV (bs s)):=Hh (by rw[<-HJ.out,yh Aa hh he,List.drop_drop])
          have Ak:(pre++(ax ((bs s).drop k)).1).length<=4*(k+(ax ((bs s).drop k)).2.1):=by
            rw[List.length_append,Ae,pI];have:=(oh c).2;omega
          have Ax:k+(ax ((bs s).drop k)).2.1<=s.size:=by rw[List.length_drop,ay] at Av;omega
          have An:cu w2 (w.heap.size+3) s (k+(ax ((bs s).drop k)).2.1) (un (pre++(ax ((bs s).drop k)).1)):=by rw[G5];exact hR2
          have Ab:atOf w2 (w.heap.size+3)=k+(ax ((bs s).drop k)).2.1:=An.atOf;have y0:=x0.below hb2 (by omega);have y1:=x1.below hb2 (by omega);have y2:=x2.below hb2 (by omega);have Ad:=hb.trans (hb2.mono (by omega));generalize (ax ((bs s).drop k)).2.1=z at *;generalize (ax ((bs s).drop k)).1=zo at *;have Ar:=Hh Ah;have Ai:=Hh Ab;clear Ah Ab hh he Ae;go_wp2;go_roundw
          case rel=>exact⟨k+z,pre++zo,An,Ax,Ak,HN.out,y0,y1,y2,Ad⟩
          case measure=>rw[Ar.out,Ai.out];omega
        . have HC:Hid (aV (bs s)=aG (ax ((bs s).drop k)).2.2):=Hh (by rw[<-HJ.out,zX Aa hh he])
          have y0:=x0.below hb2 (by omega);have y1:=x1.below hb2 (by omega);have y2:=x2.below hb2 (by omega);have Ad:=hb.trans (hb2.mono (by omega));clear hh Aa x0 x1 x2 hb hb2 HJ hR he Ah;generalize (ax ((bs s).drop k)).2.2=z at *;go_wp2;refine leaves_cons (f:=154) (args:=#[.pointer (some ⟨w.heap.size,0,none⟩),.pointer (some ⟨w.heap.size+1,0,none⟩),.pointer (some ⟨w.heap.size+2,0,none⟩)]) (by simp) (by simp[go_sem]) ?_;refine (lu w.heap.size (w.heap.size+1) (w.heap.size+2) _ _ _ _ [] _ y0 y1 y2 (by omega) (by omega)).mono ?_;rintro e u' w'' ⟨rfl,rfl,r0,r1,r2,hbl⟩;have q0:=r0.cell 0 _ rfl;have q1:=r1.cell 0 _ rfl;have q2:=r2.cell 0 _ rfl;clear r0 r1 r2;simp[Leaves,settle,results,Tryz.results126,go_sem,q0,q1,q2]
          exact⟨by rw[HC.out];rfl,Ad.trans hbl⟩
    . have HC:Hid (aV (bs s)=aG 3):=Hh (by rw[hq];simp only[aV];rw[if_pos hc34])
      have A5:((c:Int) != 34)=true:=by rw[bne_iff_ne];omega
      rw[<-hq];unfold Js Mv at hN;clear hq hc34;go_enter_defers Tryz.func126,Tryz.ntmps126
      go_wp2_with fail;refine hN.mono ?_;rintro e w1 ⟨rfl,hR1,hb1,hB1⟩;have y0:=x0.below hb1 (by omega);have y1:=x1.below hb1 (by omega);have y2:=x2.below hb1 (by omega);go_wp2_with fail;refine (iD 3 _).mono ?_;rintro e w2 ⟨rfl,rfl⟩;go_wp2;refine leaves_cons (f:=154) (args:=#[.pointer (some ⟨w.heap.size,0,none⟩),.pointer (some ⟨w.heap.size+1,0,none⟩),.pointer (some ⟨w.heap.size+2,0,none⟩)]) (by simp) (by simp[go_sem]) ?_;refine (lu w.heap.size (w.heap.size+1) (w.heap.size+2) _ _ _ _ [] _ y0 y1 y2 (by omega) (by omega)).mono ?_;rintro e u' w'' ⟨rfl,rfl,r0,r1,r2,hbl⟩;have q0:=r0.cell 0 _ rfl;have q1:=r1.cell 0 _ rfl;have q2:=r2.cell 0 _ rfl;clear r0 r1 r2;simp[Leaves,settle,results,Tryz.results126,go_sem,q0,q1,q2]
      exact⟨by rw[HC.out];rfl,(hB.trans (hb1.mono (by omega))).trans hbl⟩
def xM(l:List Nat):List Nat×Nat:=if (aV l).2.2≠0 then ([],(aV l).2.2) else if (aV l).2.1<l.length then ([],14) else ((aV l).1,0)
def xL(q:List Nat×Nat):Value:=.tuple #[.string (bg (un q.1)),.int .i64 (q.2:Int)]
theorem Ar(s:ByteArray)(w:World)(hs:s.size<=1048576)(hT:Tab w) :
  Calls Tryz.prog 163 #[.string s] w fun e w'=>e=.returned (xL (xM (bs s)))/\Below w.heap.size w w':=by
 have hS:=zK s w hs hT;unfold JV at hS;unfold xL xM;rw[ay];generalize aV (bs s)=q at *;obtain⟨o,z,e⟩:=q;simp only at hS ⊢
 by_cases he:e=0
 ·subst he
  simp only[ne_eq,not_true_eq_false,if_false]
  by_cases hz:z<s.size
  ·rw[if_pos hz]
   go_enter Tryz.func163,Tryz.ntmps163;go_wp2_with fail;refine hS.mono ?_;rintro e w1 ⟨rfl,hb1⟩;go_wp2;go_ret2
   exact⟨rfl,hb1⟩
  ·rw[if_neg hz]
   have Ab:s.size<=z:=by omega
   clear hz;go_enter Tryz.func163,Tryz.ntmps163;go_wp2_with fail;refine hS.mono ?_;rintro e w1 ⟨rfl,hb1⟩;go_wp2;go_ret2
   exact⟨rfl,hb1⟩
 ·rw[if_pos he]
  have Aa:((e:Int) != 0)=true:=by rw[bne_iff_ne];omega
  clear he;go_enter Tryz.func163,Tryz.ntmps163;go_wp2_with fail;refine hS.mono ?_;rintro e w1 ⟨rfl,hb1⟩;go_wp2;go_ret2
  exact⟨rfl,hb1⟩
end Go.Proofs.YtbcdaaobbebooaaGreatDoor
namespace Go.Proofs.YtbcdaaobbebooaaGreatDoor
open Go.RowKit Go.Tab
abbrev jl(w:World)(g:Nat)(lv:Value)(k:Int)(e:Int):Prop:=aa w g #[lv,.int .i64 k,.int .i64 e] 220
structure oV(w:World)(g:Nat)(lv:Value)(l:List ag)(k:Nat):Prop where
 box:jl w g lv (k:Nat) 0
 toks:aH w lv l
 own:∀b,lv.ownBlock=some b->b<g
 le:k<=l.length
 small:l.length<=1000000
 tab:Tab w
 tabg:1<g
 short:∀t∈l,t.text.size<=1048576
theorem oV.go{w w':World}{g:Nat}{lv:Value}{l:List ag}{k k':Nat}(h:oV w g lv l k)(hs:aC g w w')(hc:jl w' g lv (k':Nat) 0)(hk:k'<=l.length):oV w' g lv l k':=
 ⟨hc,h.toks.moved hs.size (fun b off hb hv=>iH (hs.2 b hb (by have:=h.own b hv;omega)) off),h.own,hk,h.small,fun j hj=>(hs.cell (h.tab j hj) (by have:=h.tabg;omega)),h.tabg,h.short⟩
theorem KR(w:World)(g:Nat)(lv:Value)(k e:Int)(s:ByteArray)(hc:jl w g lv k e)(he:e≠0)(hl:∃a n c,lv=.slice a n c) :
  Calls Tryz.prog 219 #[.pointer (some ⟨g,0,none⟩),.string s] w fun r w'=>r=.returned (.bool false)/\∃n,w'=w.drewN n:=by
 obtain⟨a,n,c,rfl⟩:=hl;have Ag:=hc.lt;have Ah:(e != 0)=true:=by simpa using he
 obtain⟨Aa,Ad,Ab,Ae,Ac,Af⟩:=hc.n3 rfl;go_enter Tryz.func219,Tryz.ntmps219;go_wp2_with fail;go_quiet (fail)
 go_wp2;go_ret;exact⟨rfl,_,rfl⟩
theorem mU(w:World)(g:Nat)(lv:Value)(l:List ag)(k:Nat)(s:ByteArray)(h:oV w g lv l k) :
  Calls Tryz.prog 219 #[.pointer (some ⟨g,0,none⟩),.string s] w fun r w'=>r=.returned (.bool (bO (l.drop k) s))/\Below w.heap.size w w':=by
 have hc:=h.box;have Aq:=hc.lt;obtain⟨a,c,rfl,Aw,Ax,-⟩:=h.toks.len;unfold maxLen at Ax;have A5:=h.le
 by_cases hk:k=l.length
 ·subst hk
  rw[List.drop_length];obtain⟨Aa,Ad,Ab,Ae,Ac,Af⟩:=hc.n3 rfl;go_enter Tryz.func219,Tryz.ntmps219;go_wp2_with fail;go_quiet (fail)
  go_wp2;go_ret;exact⟨rfl,bV _ _ _⟩
 ·have Ap:k<l.length:=by omega
  obtain⟨b,A7,rfl,hb,c0,c1,c2⟩:=aH.get h.toks Ap;have hd:bO (l.drop k) s=(decide (l[k].kind=4)&&decide (l[k].text=s)):=by rw[List.drop_eq_getElem_cons Ap];rfl
  rw[hd];have A6:((k:Int)==(l.length:Int))=false:=by rw[beq_eq_false_iff_ne];omega
  generalize l[k]=t at *;clear hd hk;obtain⟨Aa,Ad,Ab,Ae,Ac,Af⟩:=hc.n3 rfl;go_enter Tryz.func219,Tryz.ntmps219;go_wp2_with fail;go_quiet (fail)
  go_wp2_with fail;have ha:∀(n b' o':Nat) (u:Value),b'<w.heap.size->w.cell? ⟨b',o',none⟩=some u->((w.drewN n).alloc (.cells #[.int .i64 0,.string ⟨#[]⟩,.int .i64 0] 63)).cell? ⟨b',o',none⟩=some u:=fun n b' o' u h1 h2=>(World.cell?_alloc_past _ _ _ h1).trans h2;have Ar:=fun n=>ha n _ _ _ Aq Aa;have As:=fun n=>ha n _ _ _ Aq Ab;have At:=fun n=>ha n _ _ _ hb c0;have Au:=fun n=>ha n _ _ _ hb c1;have Av:=fun n=>ha n _ _ _ hb c2;have hn:=fun n=>aa.new (w.drewN n) #[.int .i64 0,.string ⟨#[]⟩,.int .i64 0] 63;have A1:∀n,((w.drewN n).alloc (.cells #[.int .i64 0,.string ⟨#[]⟩,.int .i64 0] 63)).cell? ⟨w.heap.size,0,none⟩=some (.int .i64 0):=fun n=>(hn n).cell 0 _ rfl;have A2:∀n,((w.drewN n).alloc (.cells #[.int .i64 0,.string ⟨#[]⟩,.int .i64 0] 63)).cell? ⟨w.heap.size,1,none⟩=some (.string ⟨#[]⟩):=fun n=>(hn n).cell 1 _ rfl;have A3:∀n,((w.drewN n).alloc (.cells #[.int .i64 0,.string ⟨#[]⟩,.int .i64 0] 63)).cell? ⟨w.heap.size,2,none⟩=some (.int .i64 0):=fun n=>(hn n).cell 2 _ rfl;have Ay:∀n,((w.drewN n).alloc (.cells #[.int .i64 0,.string ⟨#[]⟩,.int .i64 0] 63)).frozen? ⟨w.heap.size,0,none⟩=false:=fun n=>(hn n).frozen 0;have Az:∀n,((w.drewN n).alloc (.cells #[.int .i64 0,.string ⟨#[]⟩,.int .i64 0] 63)).frozen? ⟨w.heap.size,1,none⟩=false:=fun n=>(hn n).frozen 1;have A0:∀n,((w.drewN n).alloc (.cells #[.int .i64 0,.string ⟨#[]⟩,.int .i64 0] 63)).frozen? ⟨w.heap.size,2,none⟩=false:=fun n=>(hn n).frozen 2
  go_region
  have Ai:Below w.heap.size w (((((w.drewN (nq+1)).alloc (.cells #[.int .i64 0,.string ⟨#[]⟩,.int .i64 0] 63)).setCell ⟨w.heap.size,0,none⟩ (.int .i64 t.kind)).setCell ⟨w.heap.size,1,none⟩ (.string t.text)).setCell ⟨w.heap.size,2,none⟩ (.int .i64 t.pos)):=
   aL _ _ lz [.int .i64 t.kind,.string t.text,.int .i64 t.pos] 0 _ _ ((bV w.heap.size w (nq+1)).alloc lz _)
  have Ag:aa (((((w.drewN (nq+1)).alloc (.cells #[.int .i64 0,.string ⟨#[]⟩,.int .i64 0] 63)).setCell ⟨w.heap.size,0,none⟩ (.int .i64 t.kind)).setCell ⟨w.heap.size,1,none⟩ (.string t.text)).setCell ⟨w.heap.size,2,none⟩ (.int .i64 t.pos)) w.heap.size #[.int .i64 t.kind,.string t.text,.int .i64 t.pos] 63:=aa.put [.int .i64 t.kind,.string t.text,.int .i64 t.pos] 0 (hn (nq+1));generalize (((((w.drewN (nq+1)).alloc (.cells #[.int .i64 0,.string ⟨#[]⟩,.int .i64 0] 63)).setCell ⟨w.heap.size,0,none⟩ (.int .i64 t.kind)).setCell ⟨w.heap.size,1,none⟩ (.string t.text)).setCell ⟨w.heap.size,2,none⟩ (.int .i64 t.pos))=W1 at Ai Ag ⊢;have Aw:=Ag.lt;have Ah:=Hh Ai;clear Ai ha Ar As At Au Av hn A1 A2 A3 Ay Az A0 c0 c1 c2 Aa Ab Ac Ad Ae Af hc h;obtain⟨Aj,Am,Ak,An,Al,Ao⟩:=Ag.n3 rfl;clear Ag
  by_cases h4:t.kind=4
  ·have A4:(t.kind==4)=true:=by rw[beq_iff_eq];exact h4
   by_cases hs:t.text=s
   ·subst hs
    have H4:=Hh h4;clear h4;go_wp2;go_ret;exact⟨iW (by simp[H4.out]),Ah.out⟩
   ·have hx:=wV hs
    have HS:=Hh hs;clear h4 hs;go_wp2;go_ret;exact⟨iW (by simp[HS.out]),Ah.out⟩
  ·have hx:(t.kind==4)=false:=by rw[beq_eq_false_iff_ne];exact h4
   have H4:=Hh h4;clear h4;go_wp2;go_ret;exact⟨iW (by simp[H4.out]),Ah.out⟩
theorem Br(w:World)(g:Nat)(lv:Value)(k e:Int)(hc:jl w g lv k 0) :
  Calls Tryz.prog 232 #[.pointer (some ⟨g,0,none⟩),.int .i64 e] w fun r w'=>r=.returned (.tuple #[])/\jl w' g lv k e/\aC g w w':=by
 have Ag:=hc.lt;have hq:=hc.setI 2 (.int .i64 e);have HQ:=Hh hq;clear hq;obtain⟨Aa,Ad,Ab,Ae,Ac,Af⟩:=hc.n3 rfl;go_enter Tryz.func232,Tryz.ntmps232;go_wp2
 (first|go_end0|refine bodyPost_ret (results_none rfl _ _ _) rfl ?_)
 exact⟨rfl,HQ.out,(aC.refl g w).set 2 _⟩
theorem MO(w:World)(g:Nat)(lv:Value)(k e e2:Int)(hc:jl w g lv k e)(he:e≠0) :
  Calls Tryz.prog 232 #[.pointer (some ⟨g,0,none⟩),.int .i64 e2] w fun r w'=>r=.returned (.tuple #[])/\w=w':=by
 have Ag:=hc.lt;have Ah:(e==0)=false:=by simpa using he
 obtain⟨Aa,Ad,Ab,Ae,Ac,Af⟩:=hc.n3 rfl;go_enter Tryz.func232,Tryz.ntmps232;go_wp2
 (first|go_end0|refine bodyPost_ret (results_none rfl _ _ _) rfl ?_)
 exact⟨rfl,rfl⟩
def yO(r:List ag):Int:=if r=[] then 2 else 3
theorem o7(r:List ag):yO r≠0:=by unfold yO;split<;>decide
theorem r9(r:List ag)(n:Nat):cO r n=(aQ,n,yO r):=by unfold cO yO;split<;>rfl
theorem o6(w:World)(g:Nat)(lv:Value)(l:List ag)(k:Nat)(h:oV w g lv l k) :
  Calls Tryz.prog 233 #[.pointer (some ⟨g,0,none⟩)] w fun r w'=>r=.returned (.tuple #[])/\jl w' g lv (k:Nat) (yO (l.drop k))/\aC g w w':=by
 have hc:=h.box;have Aj:=hc.lt;obtain⟨a,c,rfl,Ag,Ah,-⟩:=h.toks.len;have Ai:=h.le;have hF:=fun n=>Br (w.drewN n) g (.slice a l.length c) (k:Nat) (yO (l.drop k)) (hc.drewN n)
 by_cases hk:k=l.length
 ·have hw:yO (l.drop k)=2:=by rw[hk,List.drop_length];rfl
  rw[hw] at hF ⊢;have hq:((k:Int)==(l.length:Int))=true:=by rw[beq_iff_eq];omega
  clear hk h hw;obtain⟨Aa,Ad,Ab,Ae,Ac,Af⟩:=hc.n3 rfl;go_enter Tryz.func233,Tryz.ntmps233;go_wp2_with fail;go_quiet (fail)
  go_wp2_with fail;refine (hF _).mono ?_;rintro _ w2 ⟨rfl,hc2,hs2⟩;go_wp2
  (first|go_end0|refine bodyPost_ret (results_none rfl _ _ _) rfl ?_)
  exact⟨rfl,hc2,(aC.of (bV _ _ _)).trans hs2⟩
 ·have hw:yO (l.drop k)=3:=by
   unfold yO;rw[if_neg (by rw[List.drop_eq_nil_iff];omega)]
  rw[hw] at hF ⊢;have hq:((k:Int)==(l.length:Int))=false:=by rw[beq_eq_false_iff_ne];omega
  clear hk h hw;obtain⟨Aa,Ad,Ab,Ae,Ac,Af⟩:=hc.n3 rfl;go_enter Tryz.func233,Tryz.ntmps233;go_wp2_with fail;go_quiet (fail)
  go_wp2_with fail;refine (hF _).mono ?_;rintro _ w2 ⟨rfl,hc2,hs2⟩;go_wp2
  (first|go_end0|refine bodyPost_ret (results_none rfl _ _ _) rfl ?_)
  exact⟨rfl,hc2,(aC.of (bV _ _ _)).trans hs2⟩
theorem Jy(w:World)(g:Nat)(lv:Value)(k e:Int)(hc:jl w g lv k e)(he:e≠0)(hl:∃a n c,lv=.slice a n c) :
  Calls Tryz.prog 233 #[.pointer (some ⟨g,0,none⟩)] w fun r w'=>r=.returned (.tuple #[])/\∃n,w'=w.drewN n:=by
 obtain⟨a,n,c,rfl⟩:=hl;have Ag:=hc.lt;have hF:=fun m e2=>MO (w.drewN m) g (.slice a n c) k e e2 (hc.drewN m) he;cases hq:(k==(n:Int))
 all_goals
  obtain⟨Aa,Ad,Ab,Ae,Ac,Af⟩:=hc.n3 rfl;go_enter Tryz.func233,Tryz.ntmps233;go_wp2_with fail;go_quiet (fail)
  go_wp2_with fail;refine (hF _ _).mono ?_;rintro _ _ ⟨rfl,hw1⟩;cases hw1
  go_wp2
  (first|go_end0|refine bodyPost_ret (results_none rfl _ _ _) rfl ?_)
  exact⟨rfl,_,rfl⟩
theorem nU(w:World)(g:Nat)(lv:Value)(k d:Nat)(hc:jl w g lv (k:Nat) 0)(hd:d<64)(hk:k<=1000000) :
  Calls Tryz.prog 220 #[.pointer (some ⟨g,0,none⟩),.int .i64 ((d:Int)+1)] w fun r w'=>r=.returned (.bool true)/\jl w' g lv ((k+1:Nat)) 0/\aC g w w':=by
 have Ag:=hc.lt;have HQ:=Hh (hc.setI 1 (.int .i64 ((k:Int)+1)));obtain⟨Aa,Ad,Ab,Ae,Ac,Af⟩:=hc.n3 rfl;go_enter Tryz.func220,Tryz.ntmps220;go_wp2;go_ret;exact⟨rfl,HQ.out,(aC.refl g w).set 1 _⟩
theorem qA(w:World)(g:Nat)(lv:Value)(k d:Nat)(hc:jl w g lv (k:Nat) 0)(hd:64<=d) :
  Calls Tryz.prog 220 #[.pointer (some ⟨g,0,none⟩),.int .i64 ((d:Int)+1)] w fun r w'=>r=.returned (.bool false)/\jl w' g lv (k:Nat) 5/\aC g w w':=by
 have hF:=Br w g lv (k:Nat) 5 hc;go_enter Tryz.func220,Tryz.ntmps220;go_wp2_with fail;refine hF.mono ?_;rintro _ w2 ⟨rfl,hc2,hs2⟩;go_wp2;go_ret;exact⟨rfl,hc2,hs2⟩
theorem wE(w:World)(g:Nat)(lv:Value)(l:List ag)(k:Nat)(s:ByteArray)(h:oV w g lv l k) :
  Calls Tryz.prog 221 #[.pointer (some ⟨g,0,none⟩),.string s] w fun r w'=>r=.returned (.tuple #[])/\
   jl w' g lv ((if bO (l.drop k) s then k+1 else k:Nat)) (if bO (l.drop k) s then 0 else yO (l.drop k))/\aC g w w':=by
 have hI:=mU w g lv l k s h;have Ai:=h.le;have Ak:=h.small
 cases hs:bO (l.drop k) s with
 |true=>
  rw[hs] at hI;go_enter Tryz.func221,Tryz.ntmps221;go_wp2_with fail;refine hI.mono ?_;rintro _ w2 ⟨rfl,hb2⟩;have Aa:=h.box.below hb2 h.box.lt;have Aj:=Aa.lt;have HQ:=Hh (Aa.setI 1 (.int .i64 ((k:Int)+1)));have HB:=Hh (aC.of (g:=g) hb2);clear hb2 hs hI;obtain⟨Ab,Ae,Ac,Af,Ad,Ag⟩:=Aa.n3 rfl;clear Aa;go_wp2
  (first|go_end0|refine bodyPost_ret (results_none rfl _ _ _) rfl ?_)
  exact⟨rfl,HQ.out,HB.out.set 1 _⟩
 |false=>
  rw[hs] at hI;go_enter Tryz.func221,Tryz.ntmps221;go_wp2_with fail;refine hI.mono ?_;rintro _ w2 ⟨rfl,hb2⟩;have Ah:=aC.of (g:=g) hb2;have hW:=o6 w2 g lv l k (h.go Ah (h.box.below hb2 h.box.lt) h.le);go_wp2_with fail;refine hW.mono ?_;rintro _ w3 ⟨rfl,hc3,hs3⟩;go_wp2
  (first|go_end0|refine bodyPost_ret (results_none rfl _ _ _) rfl ?_)
  exact⟨rfl,hc3,Ah.trans hs3⟩
theorem Gc(w:World)(g:Nat)(lv:Value)(k e:Int)(s:ByteArray)(hc:jl w g lv k e)(he:e≠0)(hl:∃a n c,lv=.slice a n c) :
  Calls Tryz.prog 221 #[.pointer (some ⟨g,0,none⟩),.string s] w fun r w'=>r=.returned (.tuple #[])/\∃n,w'=w.drewN n:=by
 have hI:=KR w g lv k e s hc he hl;have hW:=fun n=>Jy (w.drewN n) g lv k e (hc.drewN n) he hl;go_enter Tryz.func221,Tryz.ntmps221;go_wp2_with fail;refine hI.mono ?_;rintro _ _ ⟨rfl,n,rfl⟩;go_wp2_with fail;refine (hW n).mono ?_;rintro _ _ ⟨rfl,m,rfl⟩;go_wp2
 (first|go_end0|refine bodyPost_ret (results_none rfl _ _ _) rfl ?_)
 exact⟨rfl,n+m,rfl⟩
theorem CW(s:ByteArray):(∃x∈vI,s=av x.1/\CX s=x.2)\/(CX s = -1/\∀x∈vI,s≠av x.1):=by
 unfold CX
 cases hf:vI.find? (fun x=>x.1==s.data.toList) with
 |some x=>
  refine .inl ⟨x,List.mem_of_find?_eq_some hf,?_,rfl⟩;have h1:=List.find?_some hf;simp only[beq_iff_eq] at h1;rw[h1];exact AA s
 |none=>
  refine .inr ⟨rfl,fun x hx e=>?_⟩;have h1:=List.find?_eq_none.1 hf x hx;rw[e,bi] at h1;simp at h1
def Ov(s:ByteArray):Int:=if 1<=CX s/\CX s<=6 then CX s else 0
theorem fresh(s:ByteArray)(h:∀x∈vI,s≠av x.1)(l:Bs)(hl:l∈vI.map (·.1)):(s.toList==l)=false:=by
 obtain⟨x,hx,rfl⟩:=List.mem_map.1 hl;have h1:=wV (h x hx);rw[show (av x.1).toList=x.1 by rw[ByteArray.toList_eq];rfl] at h1;exact h1
theorem xG(s:ByteArray)(w:World):Calls Tryz.prog 223 #[.string s] w fun e w'=>e=.returned (.int .i64 (CX s))/\w=w':=by
 rcases CW s with ⟨x,hx,rfl,hv⟩|⟨hv,h⟩
 ·rw[hv]
  clear hv;simp only[vI,List.mem_cons,List.not_mem_nil,or_false] at hx;rcases hx with rfl|rfl|rfl|rfl|rfl|rfl|rfl|rfl|rfl|rfl|rfl|rfl|rfl|rfl|rfl|rfl|rfl|rfl|rfl|rfl|rfl|rfl|rfl
  all_goals
   simp only[av];go_enter Tryz.func223,Tryz.ntmps223;go_wp2;go_ret;exact⟨rfl,rfl⟩
 ·rw[hv]
  have n0:=fresh s h [63] (by decide);have n1:=fresh s h [124,124] (by decide);have n2:=fresh s h [38,38] (by decide);have n3:=fresh s h [61,61] (by decide);have n4:=fresh s h [33,61] (by decide);have n5:=fresh s h [60] (by decide);have n6:=fresh s h [62] (by decide);have n7:=fresh s h [60,61] (by decide);have n8:=fresh s h [62,61] (by decide);have n9:=fresh s h [43] (by decide);have Aa:=fresh s h [45] (by decide);have Ab:=fresh s h [42] (by decide);have Ac:=fresh s h [47] (by decide);have Ad:=fresh s h [37] (by decide);have Ae:=fresh s h [33] (by decide);have Af:=fresh s h [110,101,103] (by decide);have Ag:=fresh s h [103,101,116] (by decide);have Ah:=fresh s h [97,116] (by decide);have Ai:=fresh s h [110,97,109,101] (by decide);have Aj:=fresh s h [99,97,108,108] (by decide);have Ak:=fresh s h [110,117,109] (by decide);have Al:=fresh s h [116,101,120,116] (by decide);have Am:=fresh s h [108,105,115,116] (by decide);clear hv h;go_enter Tryz.func223,Tryz.ntmps223;go_wp2;go_ret;exact⟨rfl,rfl⟩
theorem DL(s:ByteArray)(w:World):Calls Tryz.prog 231 #[.string s] w fun e w'=>e=.returned (.int .i64 (Ov s))/\w=w':=by
 unfold Ov;rcases CW s with ⟨x,hx,rfl,hv⟩|⟨hv,h⟩
 ·rw[hv]
  clear hv;simp only[vI,List.mem_cons,List.not_mem_nil,or_false] at hx;rcases hx with rfl|rfl|rfl|rfl|rfl|rfl|rfl|rfl|rfl|rfl|rfl|rfl|rfl|rfl|rfl|rfl|rfl|rfl|rfl|rfl|rfl|rfl|rfl
  all_goals
   simp only[av];go_enter Tryz.func231,Tryz.ntmps231;go_wp2;go_ret;exact⟨rfl,rfl⟩
 ·rw[hv]
  have n0:=fresh s h [63] (by decide);have n1:=fresh s h [124,124] (by decide);have n2:=fresh s h [38,38] (by decide);have n3:=fresh s h [61,61] (by decide);have n4:=fresh s h [33,61] (by decide);have n5:=fresh s h [60] (by decide);have n6:=fresh s h [62] (by decide);have n7:=fresh s h [60,61] (by decide);have n8:=fresh s h [62,61] (by decide);have n9:=fresh s h [43] (by decide);have Aa:=fresh s h [45] (by decide);have Ab:=fresh s h [42] (by decide);have Ac:=fresh s h [47] (by decide);have Ad:=fresh s h [37] (by decide);have Ae:=fresh s h [33] (by decide);have Af:=fresh s h [110,101,103] (by decide);have Ag:=fresh s h [103,101,116] (by decide);have Ah:=fresh s h [97,116] (by decide);have Ai:=fresh s h [110,97,109,101] (by decide);have Aj:=fresh s h [99,97,108,108] (by decide);have Ak:=fresh s h [110,117,109] (by decide);have Al:=fresh s h [116,101,120,116] (by decide);have Am:=fresh s h [108,105,115,116] (by decide);clear hv h;go_enter Tryz.func231,Tryz.ntmps231;go_wp2;go_ret;exact⟨rfl,rfl⟩
theorem I8(w:World)(n m:Nat):∃q,(w.drewN n).drewN m=w.drewN q:=⟨n+m,World.drewN_drewN _ _ _⟩
def L9(r:List ag):Int:=match r with
 |[]=>0
 |t::_=>if t.kind=4 then Ov t.text else 0
theorem MZ{s:ByteArray}{lv:Nat}(h1:1<=lv)(h6:lv<=6):Ov s=lv↔CX s=lv:=by
 unfold Ov;split<;>constructor<;>intro h<;>omega
theorem FZ{r:List ag}{lv:Nat}(h1:1<=lv)(h6:lv<=6):L9 r=lv↔∃o,Gl r lv=some o:=by
 unfold L9 Gl
 cases r with
 |nil=>
  constructor
  ·intro h;simp only at h;omega
  ·rintro⟨o,h⟩;cases h
 |cons t r=>
  simp only
  by_cases hk:t.kind=4
  ·rw[if_pos hk,MZ h1 h6]
   constructor
   ·intro h;exact⟨t.text,by rw[if_pos ⟨hk,h⟩]⟩
   ·rintro⟨o,h⟩
    split at h
    ·next hc=>exact hc.2
    ·cases h
  ·rw[if_neg hk]
   constructor
   ·intro h;omega
   ·rintro⟨o,h⟩
    rw[if_neg (fun hc=>hk hc.1)] at h;cases h
theorem KU{r:List ag}{lv:Nat}{o:ByteArray}(h:Gl r lv=some o):∃t q,r=t::q/\t.text=o:=by
 unfold Gl at h
 cases r with
 |nil=>cases h
 |cons t q=>
  simp only at h;split at h
  ·cases h;exact⟨t,q,rfl,rfl⟩
  ·cases h
theorem Ma(w:World)(g:Nat)(lv:Value)(k e:Int)(hc:jl w g lv k e)(he:e≠0)(hl:∃a n c,lv=.slice a n c) :
  Calls Tryz.prog 218 #[.pointer (some ⟨g,0,none⟩)] w fun r w'=>r=.returned (.int .i64 0)/\∃n,w'=w.drewN n:=by
 obtain⟨a,n,c,rfl⟩:=hl;have Ag:=hc.lt;have Ah:(e != 0)=true:=by simpa using he
 obtain⟨Aa,Ad,Ab,Ae,Ac,Af⟩:=hc.n3 rfl;go_enter Tryz.func218,Tryz.ntmps218;go_wp2_with fail;go_quiet (fail)
 go_wp2;go_ret;exact⟨rfl,_,rfl⟩
theorem F5(w:World)(g:Nat)(lv:Value)(l:List ag)(k:Nat)(h:oV w g lv l k) :
  Calls Tryz.prog 218 #[.pointer (some ⟨g,0,none⟩)] w fun r w'=>r=.returned (.int .i64 (L9 (l.drop k)))/\∃n,w'=w.drewN n:=by
 have hc:=h.box;have Am:=hc.lt;obtain⟨a,c,rfl,Ak,Ai,-⟩:=h.toks.len;unfold maxLen at Ai;have Al:=h.le
 by_cases hk:k=l.length
 ·have hr:L9 (l.drop k)=0:=by rw[hk,List.drop_length];rfl
  rw[hr];have Aj:((k:Int)==(l.length:Int))=true:=by rw[beq_iff_eq];omega
  clear hk hr h;obtain⟨Aa,Ad,Ab,Ae,Ac,Af⟩:=hc.n3 rfl;go_enter Tryz.func218,Tryz.ntmps218;go_wp2_with fail;go_quiet (fail)
  go_wp2;go_ret;exact⟨rfl,_,rfl⟩
 ·have Ag:k<l.length:=by omega
  obtain⟨b,An,rfl,hb,c0,c1,c2⟩:=aH.get h.toks Ag;have hd:L9 (l.drop k)=if l[k].kind=4 then Ov l[k].text else 0:=by rw[List.drop_eq_getElem_cons Ag];rfl
  rw[hd];have Aj:((k:Int)==(l.length:Int))=false:=by rw[beq_eq_false_iff_ne];omega
  generalize l[k]=t at *;clear hd hk h
  by_cases h4:t.kind=4
  ·rw[if_pos h4]
   have Ah:(t.kind != 4)=false:=by rw[bne_eq_false_iff_eq];exact h4
   have hB:=DL t.text;clear h4;obtain⟨Aa,Ad,Ab,Ae,Ac,Af⟩:=hc.n3 rfl;go_enter Tryz.func218,Tryz.ntmps218;go_wp2_with fail;go_quiet (fail)
   go_wp2_with fail;go_quiet (exact (hB _).mono fun _ _ h=>⟨h.1,_,h.2.symm⟩)
   go_wp2;go_ret;exact⟨rfl,I8 _ _ _⟩
  ·rw[if_neg h4]
   have Ah:(t.kind != 4)=true:=by rw[bne_iff_ne];exact h4
   clear h4;obtain⟨Aa,Ad,Ab,Ae,Ac,Af⟩:=hc.n3 rfl;go_enter Tryz.func218,Tryz.ntmps218;go_wp2_with fail;go_quiet (fail)
   go_wp2;go_ret;exact⟨rfl,_,rfl⟩
def XP(g:Nat)(lv:Value)(k:Nat)(r:fw)(w:World)(e:Ending)(w':World):Prop:=
 aC g w w'/\jl w' g lv ((k+r.2.1:Nat)) r.2.2/\∃o t a n c,e=.returned (Pz o t (.slice a n c))/\(r.2.2=0->ae (fun b=>w.heap.size<=b) w' r.1 (dQ o t (.slice a n c)))
structure FC(w:World)(g bp bd bt d:Nat):Prop where
 p:aa w bp #[.pointer (some ⟨g,0,none⟩)] 218
 d:aa w bd #[.int .i64 (d:Nat)] 3
 t:aa w bt #[.func (.func 216) #[] #[.pointer (some ⟨bp,0,none⟩),.pointer (some ⟨bd,0,none⟩),.pointer (some ⟨bt,0,none⟩)]] 221
 np:bp≠g
 nd:bd≠g
 nt:bt≠g
theorem FC.save{w w':World}{g bp bd bt d:Nat}(h:FC w g bp bd bt d)(hs:aC g w w'):FC w' g bp bd bt d:=
 ⟨hs.cells h.p h.np,hs.cells h.d h.nd,hs.cells h.t h.nt,h.np,h.nd,h.nt⟩
def oK(m:Nat):Prop:=∀(w:World) (g:Nat) (lv:Value) (l:List ag) (k d:Nat),oV w g lv l k->d<=64->(aj m .choice (l.drop k) d).2.2≠-1->
 Calls Tryz.prog 192 #[.pointer (some ⟨g,0,none⟩),.int .i64 (d:Nat)] w (XP g lv k (aj m .choice (l.drop k) d) w)
def DW(m:Nat):Prop:=∀(w:World) (g:Nat) (lv:Value) (l:List ag) (k d n bp bd bt:Nat),oV w g lv l k->FC w g bp bd bt d->d<=64->1<=n->n<=7->(aj m (.term n) (l.drop k) d).2.2≠-1->
 Calls Tryz.prog 216 #[.int .i64 (n:Nat),.pointer (some ⟨bp,0,none⟩),.pointer (some ⟨bd,0,none⟩),.pointer (some ⟨bt,0,none⟩)] w (XP g lv k (aj m (.term n) (l.drop k) d) w)
def BA(m:Nat):Prop:=∀(w:World) (g:Nat) (lv:Value) (l:List ag) (k d:Nat),oV w g lv l k->d<=64->(aj m .tight (l.drop k) d).2.2≠-1->
 Calls Tryz.prog 217 #[.pointer (some ⟨g,0,none⟩),.int .i64 (d:Nat)] w (XP g lv k (aj m .tight (l.drop k) d) w)
def LH(m:Nat):Prop:=∀(w:World) (g:Nat) (lv:Value) (l:List ag) (k d:Nat),oV w g lv l k->d<=64->(aj m .post (l.drop k) d).2.2≠-1->
 Calls Tryz.prog 230 #[.pointer (some ⟨g,0,none⟩),.int .i64 (d:Nat)] w (XP g lv k (aj m .post (l.drop k) d) w)
def FD(m:Nat):Prop:=∀(w:World) (g:Nat) (lv:Value) (l:List ag) (k d:Nat),oV w g lv l k->d<=64->(aj m .prime (l.drop k) d).2.2≠-1->
 Calls Tryz.prog 236 #[.pointer (some ⟨g,0,none⟩),.int .i64 (d:Nat)] w (XP g lv k (aj m .prime (l.drop k) d) w)
def Nr(B:Nat)(w:World)(kids:List gu)(v:Value):Prop:=∀o t,ae (fun b=>B<=b) w (.mk o t kids) (dQ o t v)
def LK(m:Nat):Prop:=∀(w:World) (g:Nat) (lv:Value) (l:List ag) (k d:Nat) (s:ByteArray),oV w g lv l k->1<=(l.drop k).length->d<=64->s=ql\/s=pq->(aj m (.many s) (l.drop k) d).2.2≠-1->
 Calls Tryz.prog 238 #[.pointer (some ⟨g,0,none⟩),.int .i64 (d:Nat),.string s] w fun e w'=>
  aC g w w'/\jl w' g lv ((k+(aj m (.many s) (l.drop k) d).2.1:Nat)) (aj m (.many s) (l.drop k) d).2.2/\∃a n c,e=.returned (.slice a n c)/\((aj m (.many s) (l.drop k) d).2.2=0->Nr w.heap.size w' (aj m (.many s) (l.drop k) d).1.kids (.slice a n c))
theorem qB:∀(L:List (gu×List Value)) (_:∀s∈L,s.2.length=3) (k:Nat) (hk:k<L.length) (j:Nat) (_:j<3),(L.flatMap (·.2))[k*3+j]?=L[k].2[j]?
 | s::r,h8,0,_,j,hj=>by
  have h:=h8 s (by simp);simp only[List.flatMap_cons,Nat.zero_mul,Nat.zero_add,List.getElem_cons_zero];rw[List.getElem?_append_left (by omega)]
 | s::r,h8,k+1,hk,j,hj=>by
  have h:=h8 s (by simp);have ih:=qB r (fun x hx=>h8 x (by simp[hx])) k (by simpa using hk) j hj;simp only[List.flatMap_cons,List.getElem_cons_succ] at ih ⊢;rw[List.getElem?_append_right (by omega),<-ih]
  congr 1
  omega
theorem Kz{B q:Nat}{w3:World}{op text:ByteArray}{vals:List Value}(hB:B<=w3.heap.size)(kids:List (gu×List Value))(hk:∀s∈kids,ae (fun b=>B<=b/\b≠q) w3 s.1 s.2)(hm:kids.length<=maxLen) :
  ae (fun b=>B<=b) ((ai w3 q 0 vals).alloc (.cells (kids.flatMap (·.2)).toArray 52)) (.mk op text (kids.map (·.1))) [.string op,.string text,.slice (some ⟨w3.heap.size,0,none⟩) kids.length kids.length]:=by
 have Aa:(kids.map (·.1)).length=kids.length:=List.length_map ..;have hc:=aa.new (ai w3 q 0 vals) (kids.flatMap (·.2)).toArray 52;rw[aB] at hc;have h3:∀s∈kids,s.2.length=3:=fun s hs=>(hk s hs).len3
 have hn:=ae.node (base:=B) (w:=(ai w3 q 0 vals).alloc (.cells (kids.flatMap (·.2)).toArray 52)) (o:=op) (t:=text) (kids:=kids.map (·.1)) (b:=w3.heap.size) (cap:=kids.length) hB hc.lt (fun off=>hc.frozen off) (by rw[Aa];exact Nat.le_refl _) hm (fun k hkl=>by
  rw[Aa] at hkl;refine⟨kids[k].2,fun j u hu=>hc.cell _ _ ?_,?_⟩
  ·have hj:j<3:=by have:=(List.getElem?_eq_some_iff.1 hu).1;rw[h3 _ (List.getElem_mem hkl)] at this;exact this
   simp only[List.getElem?_toArray];rw[qB kids h3 k hkl j hj];exact hu
  ·rw[List.getElem_map]
   refine ae.move ?_ (fun b hb hlt=>?_) (fun b hb _=>hb.1) _ _ (hk _ (List.getElem_mem hkl))
   ·rw[World.size_alloc,aB];omega
   ·rw[Below.heap_alloc _ _ _ (by rw[aB];exact hlt),aK _ _ _ _ _ hb.2])
 rw[Aa] at hn;exact hn
theorem oV.sl{w:World}{g:Nat}{lv:Value}{l:List ag}{k:Nat}(h:oV w g lv l k):∃a n c,lv=.slice a n c:=by
 obtain⟨a,c,rfl,-⟩:=h.toks.len;exact⟨_,_,_,rfl⟩
abbrev fP:Array Value:=#[.string ⟨#[]⟩,.string ⟨#[]⟩,.slice none 0 0]
structure Rs(w0:World)(q g:Nat)(w:World):Prop where
 save:aC g w0 w
 res:aa w q fP 52
 qg:q≠g
 q0:w0.heap.size<=q
section
variable {w0 w w':World} {q g:Nat}
theorem Rs.step(h:Rs w0 q g w)(hs:aC g w w'):Rs w0 q g w':=⟨h.save.trans hs,hs.cells h.res h.qg,h.qg,h.q0⟩
theorem Rs.below(h:Rs w0 q g w)(hb:Below w.heap.size w w'):Rs w0 q g w':=h.step (aC.of hb)
theorem Rs.start{lv:Value}{l:List ag}{k:Nat}(h:oV w0 g lv l k):Rs w0 w0.heap.size g (w0.alloc (.cells fP 52)):=
 ⟨(aC.refl _ _).alloc _,aa.new _ _ _,by have:=h.box.lt;omega,Nat.le_refl _⟩
theorem oV.step{lv:Value}{l:List ag}{k:Nat}(h:oV w g lv l k)(hb:Below w.heap.size w w'):oV w' g lv l k:=h.go (aC.of hb) (h.box.below hb h.box.lt) h.le
theorem Rs.fin(h:Rs w0 q g w)(vals:List Value):aC g w0 (ai w q 0 vals):=
 ⟨aL q 0 (Nat.zero_le _) vals 0 _ _ h.save.1,fun k hk hn=>(aK q vals 0 w k (by have:=h.q0;omega)).trans (h.save.2 k hk hn)⟩
theorem Rs.prc{lv:Value}{k e:Int}(h:Rs w0 q g w)(hc:jl w g lv k e)(vals:List Value):jl (ai w q 0 vals) g lv k e:=hc.setAllOther (fun e=>h.qg e.symm)
theorem Nc{B:Nat}{op text o t:ByteArray}{a:Option Addr}{n c:Nat}{x:gu}{vals:List Value}(hB:B<=w.heap.size)(hx:ae (fun b=>B<=b/\b≠q) w x (dQ o t (.slice a n c))) :
  ae (fun b=>B<=b) ((ai w q 0 vals).alloc (.cells #[.string o,.string t,.slice a n c] 52)) (.mk op text [x]) [.string op,.string text,.slice (some ⟨w.heap.size,0,none⟩) 1 1]:=
 Kz (q:=q) (vals:=vals) hB [(x,dQ o t (.slice a n c))] (by intro s hs;simp at hs;subst hs;exact hx) (by unfold maxLen;simp)
theorem ae.past{B:Nat}{x:gu}{cs:List Value}(h:ae (fun b=>B<=b) w x cs){B2:Nat}(h1:B2<=B)(h2:q<B):ae (fun b=>B2<=b/\b≠q) w x cs:=
 ae.move lz (fun _ _ _=>rfl) (fun b hb _=>⟨Nat.le_trans h1 hb,by omega⟩) _ _ h
end
theorem ae.keep{w:World}{q B B2:Nat}{x:gu}{cs vals:List Value}(h1:B2<=B)(h2:q<B)(h:ae (fun b=>B<=b) w x cs):ae (fun b=>B2<=b) (ai w q 0 vals) x cs:=
 ae.move (by rw[aB];exact Nat.le_refl _) (fun b hb _=>aK _ _ 0 _ b (by omega)) (fun b hb _=>Nat.le_trans h1 hb) _ _ h
theorem iI{g:fw}{f:gu->Nat->fw}(h:(iE g f).2.2≠-1):g.2.2≠-1:=by
 unfold iE at h;split at h
 ·next he=>rw[he];decide
 ·exact h
theorem Eg(m:Nat)(hT:BA m)(hP:LH m):BA (m+1):=by
 intro w g lv l k d h hd hne;obtain⟨a0,n0,c0,rfl⟩:=h.sl;have hR:=Rs.start h;have h1:=h.step ((Below.refl _ w).alloc lz (.cells fP 52));have Ay:=h.le;have Az:=h.small;rw[aj] at hne ⊢;have An:=mU _ g _ l k dE h1
 by_cases s1:bO (l.drop k) dE=true
 ·rw[if_neg (by rw[s1];simp)] at hne ⊢
  rw[s1] at An;rw[if_pos s1] at hne ⊢
  by_cases hd6:64<=d
  ·rw[if_pos hd6]
   clear hne;go_enter Tryz.func217,Tryz.ntmps217;go_wp2_with fail;refine An.mono ?_;rintro _ w2 ⟨rfl,hb2⟩;have h2:=h1.step hb2;have Ai:=hR.below hb2;go_wp2_with fail;refine (qA w2 g _ k d h2.box hd6).mono ?_;rintro _ w3 ⟨rfl,hc9,hs3⟩;have Aa:=Ai.step hs3;clear hs3 Ai h2 hb2 hR h1 h;have As:=Aa.res.lt;have HR:=Jh Aa hc9;have Ab:=Aa.res;clear Aa hc9;obtain⟨Ac,Af,Ad,Ag,Ae,Ah⟩:=Ab.n3 rfl;clear Ab;go_wp2;obtain⟨Aa,hc9⟩:=HR.out;have hq:=((Aa.res.setI 0 (.string ⟨#[]⟩)).setI 1 (.string ⟨#[]⟩)).setI 2 (.slice none 0 0);obtain⟨hx,hy,hz⟩:=hq.m3 rfl;refine bodyPost_ret (v:=.agg #[.string ⟨#[]⟩,.string ⟨#[]⟩,.slice none 0 0]) (by simp[results,Tryz.results217,go_sem,hx,hy,hz]) rfl ?_;have Ak:=Aa.fin [.string ⟨#[]⟩,.string ⟨#[]⟩,.slice none 0 0];have Aj:=Aa.prc hc9 [.string ⟨#[]⟩,.string ⟨#[]⟩,.slice none 0 0];show XP g (.slice a0 n0 c0) k _ w _ (ai w3 w.heap.size 0 [.string ⟨#[]⟩,.string ⟨#[]⟩,.slice none 0 0]);exact⟨Ak,Aj,_,_,_,_,_,rfl,fun h=>by cases h⟩
  ·rw[if_neg hd6,List.drop_drop] at hne
   rw[if_neg hd6,List.drop_drop];have Au:=bD s1;rw[List.length_drop] at Au;have Ap:=iI hne;simp only[dL] at Ap;have Ao:=fun w3 h3=>hT w3 g (.slice a0 n0 c0) l (k+1) (d+1) h3 (by omega) Ap;rw[show ((d+1:Nat):Int)=(d:Int)+1 by omega] at Ao;clear hne Ap;generalize aj m .tight (l.drop (k+1)) (d+1)=r1 at *;obtain⟨x1,n1,e1⟩:=r1;go_enter Tryz.func217,Tryz.ntmps217;go_wp2_with fail;refine An.mono ?_;rintro _ w2 ⟨rfl,hb2⟩;have h2:=h1.step hb2;have Ai:=hR.below hb2;go_wp2_with fail;refine (nU w2 g _ k d h2.box (by omega) (by omega)).mono ?_;rintro _ w3 ⟨rfl,hc3,hs3⟩;have h3:=h2.go hs3 hc3 (by omega);have Am:=Ai.step hs3;go_wp2_with fail;refine (Ao w3 h3).mono ?_;rintro _ w4 ⟨hs4,hc9,o,t,a,n,c,rfl,hX⟩;have Aa:=Am.step hs4;have Aq:=Am.res.lt;have Ar:=Am.save.size;have HX:=Hh hX;clear hX hs4 Am h3 hs3 hc3 Ai h2 hb2 hR h1 h Ao;simp only at hc9;have As:=Aa.res.lt;have HR:=Jh Aa hc9;have Ab:=Aa.res;clear Aa hc9;obtain⟨Ac,Af,Ad,Ag,Ae,Ah⟩:=Ab.n3 rfl;clear Ab;have At:=HR.out.1.save.size;go_wp2;obtain⟨Aa,hc9⟩:=HR.out;have hq:=(((Aa.res.setI 0 (.string dE)).setI 1 (.string ⟨#[]⟩)).setI 2 (.slice (some ⟨w4.heap.size,0,none⟩) 1 1)).alloc (.cells #[.string o,.string t,.slice a n c] 52)
   obtain⟨hx,hy,hz⟩:=hq.m3 rfl;refine bodyPost_ret (v:=.agg #[.string dE,.string ⟨#[]⟩,.slice (some ⟨w4.heap.size,0,none⟩) 1 1]) (by simp[results,Tryz.results217,go_sem,hx,hy,hz]) rfl ?_;have Ak:=(Aa.fin [.string dE,.string ⟨#[]⟩,.slice (some ⟨w4.heap.size,0,none⟩) 1 1]).alloc (.cells #[.string o,.string t,.slice a n c] 52);have Aj:=(Aa.prc hc9 [.string dE,.string ⟨#[]⟩,.slice (some ⟨w4.heap.size,0,none⟩) 1 1]).alloc (.cells #[.string o,.string t,.slice a n c] 52);show XP g (.slice a0 n0 c0) k _ w _ ((ai w4 w.heap.size 0 [.string dE,.string ⟨#[]⟩,.slice (some ⟨w4.heap.size,0,none⟩) 1 1]).alloc (.cells #[.string o,.string t,.slice a n c] 52))
   by_cases he:e1=0
   ·subst he
    rw[show k+1+n1=k+(1+n1) by omega] at Aj;rw[bL (by rfl)];simp only[dL];exact⟨Ak,Aj,_,_,_,_,_,rfl,fun _=>Nc (q:=w.heap.size) (op:=dE) (text:=⟨#[]⟩) (vals:=[.string dE,.string ⟨#[]⟩,.slice (some ⟨w4.heap.size,0,none⟩) 1 1]) At (ae.past (HX.out rfl) Ar Aq)⟩
   ·rw[show k+1+n1=k+(1+n1) by omega] at Aj
    rw[bf (by exact he)];exact⟨Ak,Aj,_,_,_,_,_,rfl,fun h=>absurd h he⟩
 ·have Aw:bO (l.drop k) dE=false:=by simpa using s1
  rw[Aw] at An
  by_cases s2:bO (l.drop k) jL=true
  ·rw[if_neg (by rw[s2];simp)] at hne ⊢
   rw[if_neg s1] at hne ⊢
   by_cases hd6:64<=d
   ·rw[if_pos hd6]
    clear hne;go_enter Tryz.func217,Tryz.ntmps217;go_wp2_with fail;refine An.mono ?_;rintro _ w1 ⟨rfl,hb1⟩;have Al:=h1.step hb1;go_wp2_with fail;refine (mU _ g _ l k jL Al).mono ?_;rw[s2];rintro _ w2 ⟨rfl,hb9⟩;have hb2:Below (w.alloc (.cells fP 52)).heap.size (w.alloc (.cells fP 52)) w2:=hb1.trans (hb9.mono hb1.size);clear hb9 hb1 Al;have h2:=h1.step hb2;have Ai:=hR.below hb2;go_wp2_with fail;refine (qA w2 g _ k d h2.box hd6).mono ?_;rintro _ w3 ⟨rfl,hc9,hs3⟩;have Aa:=Ai.step hs3;clear hs3 Ai h2 hb2 hR h1 h;have As:=Aa.res.lt;have HR:=Jh Aa hc9;have Ab:=Aa.res;clear Aa hc9;obtain⟨Ac,Af,Ad,Ag,Ae,Ah⟩:=Ab.n3 rfl;clear Ab;go_wp2;obtain⟨Aa,hc9⟩:=HR.out;have hq:=((Aa.res.setI 0 (.string ⟨#[]⟩)).setI 1 (.string ⟨#[]⟩)).setI 2 (.slice none 0 0);obtain⟨hx,hy,hz⟩:=hq.m3 rfl;refine bodyPost_ret (v:=.agg #[.string ⟨#[]⟩,.string ⟨#[]⟩,.slice none 0 0]) (by simp[results,Tryz.results217,go_sem,hx,hy,hz]) rfl ?_;have Ak:=Aa.fin [.string ⟨#[]⟩,.string ⟨#[]⟩,.slice none 0 0];have Aj:=Aa.prc hc9 [.string ⟨#[]⟩,.string ⟨#[]⟩,.slice none 0 0];show XP g (.slice a0 n0 c0) k _ w _ (ai w3 w.heap.size 0 [.string ⟨#[]⟩,.string ⟨#[]⟩,.slice none 0 0]);exact⟨Ak,Aj,_,_,_,_,_,rfl,fun h=>by cases h⟩
   ·rw[if_neg hd6,List.drop_drop] at hne
    rw[if_neg hd6,List.drop_drop];have Au:=bD s2;rw[List.length_drop] at Au;have Ap:=iI hne;simp only[dL] at Ap;have Ao:=fun w3 h3=>hT w3 g (.slice a0 n0 c0) l (k+1) (d+1) h3 (by omega) Ap;rw[show ((d+1:Nat):Int)=(d:Int)+1 by omega] at Ao;clear hne Ap;generalize aj m .tight (l.drop (k+1)) (d+1)=r1 at *;obtain⟨x1,n1,e1⟩:=r1;go_enter Tryz.func217,Tryz.ntmps217;go_wp2_with fail;refine An.mono ?_;rintro _ w1 ⟨rfl,hb1⟩;have Al:=h1.step hb1;go_wp2_with fail;refine (mU _ g _ l k jL Al).mono ?_;rw[s2];rintro _ w2 ⟨rfl,hb9⟩;have hb2:Below (w.alloc (.cells fP 52)).heap.size (w.alloc (.cells fP 52)) w2:=hb1.trans (hb9.mono hb1.size);clear hb9 hb1 Al;have h2:=h1.step hb2;have Ai:=hR.below hb2;go_wp2_with fail;refine (nU w2 g _ k d h2.box (by omega) (by omega)).mono ?_;rintro _ w3 ⟨rfl,hc3,hs3⟩;have h3:=h2.go hs3 hc3 (by omega);have Am:=Ai.step hs3;go_wp2_with fail;refine (Ao w3 h3).mono ?_;rintro _ w4 ⟨hs4,hc9,o,t,a,n,c,rfl,hX⟩;have Aa:=Am.step hs4;have Aq:=Am.res.lt;have Ar:=Am.save.size;have HX:=Hh hX;clear hX hs4 Am h3 hs3 hc3 Ai h2 hb2 hR h1 h Ao;simp only at hc9;have As:=Aa.res.lt;have HR:=Jh Aa hc9;have Ab:=Aa.res;clear Aa hc9;obtain⟨Ac,Af,Ad,Ag,Ae,-⟩:=Ab.n3 rfl
    have Ah:=Ab.frozen 2;clear Ab;have At:=HR.out.1.save.size;go_wp2;obtain⟨Aa,hc9⟩:=HR.out;have hq:=(((Aa.res.setI 0 (.string pO)).setI 1 (.string ⟨#[]⟩)).setI 2 (.slice (some ⟨w4.heap.size,0,none⟩) 1 1)).alloc (.cells #[.string o,.string t,.slice a n c] 52);obtain⟨hx,hy,hz⟩:=hq.m3 rfl;refine bodyPost_ret (v:=.agg #[.string pO,.string ⟨#[]⟩,.slice (some ⟨w4.heap.size,0,none⟩) 1 1]) (by simp[results,Tryz.results217,go_sem,hx,hy,hz]) rfl ?_;have Ak:=(Aa.fin [.string pO,.string ⟨#[]⟩,.slice (some ⟨w4.heap.size,0,none⟩) 1 1]).alloc (.cells #[.string o,.string t,.slice a n c] 52);have Aj:=(Aa.prc hc9 [.string pO,.string ⟨#[]⟩,.slice (some ⟨w4.heap.size,0,none⟩) 1 1]).alloc (.cells #[.string o,.string t,.slice a n c] 52);show XP g (.slice a0 n0 c0) k _ w _ ((ai w4 w.heap.size 0 [.string pO,.string ⟨#[]⟩,.slice (some ⟨w4.heap.size,0,none⟩) 1 1]).alloc (.cells #[.string o,.string t,.slice a n c] 52))
    by_cases he:e1=0
    ·subst he
     rw[show k+1+n1=k+(1+n1) by omega] at Aj;rw[bL (by rfl)];simp only[dL];exact⟨Ak,Aj,_,_,_,_,_,rfl,fun _=>Nc (q:=w.heap.size) (op:=pO) (text:=⟨#[]⟩) (vals:=[.string pO,.string ⟨#[]⟩,.slice (some ⟨w4.heap.size,0,none⟩) 1 1]) At (ae.past (HX.out rfl) Ar Aq)⟩
    ·rw[show k+1+n1=k+(1+n1) by omega] at Aj
     rw[bf (by exact he)];exact⟨Ak,Aj,_,_,_,_,_,rfl,fun h=>absurd h he⟩
  ·have Ax:bO (l.drop k) jL=false:=by simpa using s2
   rw[if_pos ⟨Aw,Ax⟩] at hne ⊢;have Av:=fun w3 h3=>hP w3 g (.slice a0 n0 c0) l k d h3 hd hne;clear hne;generalize aj m .post (l.drop k) d=r1 at *;obtain⟨x1,n1,e1⟩:=r1;go_enter Tryz.func217,Tryz.ntmps217;go_wp2_with fail;refine An.mono ?_;rintro _ w1 ⟨rfl,hb1⟩;have Al:=h1.step hb1;go_wp2_with fail;refine (mU _ g _ l k jL Al).mono ?_;rw[Ax];rintro _ w2 ⟨rfl,hb2⟩;have h2:=Al.step hb2;have Ai:=(hR.below hb1).below hb2;go_wp2_with fail;refine (Av w2 h2).mono ?_;rintro _ w4 ⟨hs4,hc9,o,t,a,n,c,rfl,hX⟩;have Aa:=Ai.step hs4;have Aq:=Ai.res.lt;have Ar:=Ai.save.size;have HX:=Hh hX;clear hX hs4 Ai h2 hb2 Al hb1 hR h1 h Av;simp only at hc9;have As:=Aa.res.lt;have HR:=Jh Aa hc9;have Ab:=Aa.res;clear Aa hc9;obtain⟨Ac,Af,Ad,Ag,Ae,Ah⟩:=Ab.n3 rfl;clear Ab;go_wp2;obtain⟨Aa,hc9⟩:=HR.out;have hq:=((Aa.res.setI 0 (.string o)).setI 1 (.string t)).setI 2 (.slice a n c);obtain⟨hx,hy,hz⟩:=hq.m3 rfl;refine bodyPost_ret (v:=.agg #[.string o,.string t,.slice a n c]) (by simp[results,Tryz.results217,go_sem,hx,hy,hz]) rfl ?_;have Ak:=Aa.fin [.string o,.string t,.slice a n c];have Aj:=Aa.prc hc9 [.string o,.string t,.slice a n c];show XP g (.slice a0 n0 c0) k _ w _ (ai w4 w.heap.size 0 [.string o,.string t,.slice a n c])
   exact⟨Ak,Aj,_,_,_,_,_,rfl,fun he=>ae.keep Ar Aq (HX.out he)⟩
end Go.Proofs.YtbcdaaobbebooaaGreatDoor
