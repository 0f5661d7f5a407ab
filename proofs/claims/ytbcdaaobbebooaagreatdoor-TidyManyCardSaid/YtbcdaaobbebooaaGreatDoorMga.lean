import Derived.WalkKit
import Derived.WalkSpells
import Derived.WalkLawsBesides
import Derived.Outline
import Derived.Lib.Hide
import Derived.Lib.SlBytesConst
import Derived.BigQuiet
import Derived.Deep.QuietTactic
import Derived.Deep.RegionWith
import Derived.Laws.AppendOwnNone
import Derived.Deep.DeepCutAuto
import Derived.StillTailTactics
import Derived.Deep.RegionHeld3
import Derived.Deep.CutBlock
import Derived.Deep.LoopGhost
import Derived.Laws.CopyOwn
import Derived.Deep.RegionLaw
import Derived.Test.YtbcdaaobbebooaaGreatDoorRows
import Derived.Lib.TrimByte
set_option linter.unusedSimpArgs false
set_option linter.unusedVariables false
set_option maxRecDepth 100000
set_option maxHeartbeats 20000000
namespace Go.Tab
open Go.RowKit
theorem _root_.lz{n:Nat}:n ≤ n:=Nat.le_refl n
theorem _root_.Hh{p:Prop}(h:p):Go.RowKit.Hid p:=h
theorem _root_.Jh{p q:Prop}(h:p)(k:q):Go.RowKit.Hid (p ∧ q):=⟨h,k⟩
theorem _root_.exq{α:Type}(a:α):∃x,x=a:=⟨a,rfl⟩
def RowOf{α:Type}(f:α->Value)(w:World)(v:Value)(l:List α):Prop:=
 ∃a cap,v=.slice a l.length cap/\l.length<=cap/\cap<=maxLen/\(a=none->cap=0)/\
  ∀x,a=some x->l≠[]->x.spot=none/\x.block<w.heap.size/\∀j (h:j<l.length),w.cell? ⟨x.block,x.off+j,none⟩=some (f l[j])
abbrev lF(c:UInt8):Value:=.int .u8 (c.toNat:Int)
section
variable {α:Type} {f:α->Value} {w w':World} {v:Value} {l:List α}
theorem RowOf.nil:RowOf f w (.slice none 0 0) []:=⟨none,0,rfl,Nat.le_refl _,by decide,fun _=>rfl,fun x h=>by cases h⟩
theorem RowOf.len(h:RowOf f w v l):∃a cap,v=.slice a l.length cap/\l.length<=cap/\cap<=maxLen/\(a=none->cap=0):=by
 obtain⟨a,cap,h1,h2,h3,h4,_⟩:=h;exact⟨a,cap,h1,h2,h3,h4⟩
theorem RowOf.at{a:Option Addr}{n cap:Nat}(h:RowOf f w (.slice a n cap) l){j:Nat}(hj:j<l.length) :
  ∃b off,a=some ⟨b,off,none⟩/\b<w.heap.size/\∀j (h:j<l.length),w.cell? ⟨b,off+j,none⟩=some (f l[j]):=by
 obtain⟨a',Aa,h1,h2,h3,h4,h5⟩:=h;cases h1
 cases a with
 |none=>have:=h4 rfl;omega
 |some x=>
  obtain⟨b,off,sp⟩:=x;obtain⟨rfl,h6,h7⟩:=h5 _ rfl (by intro h0;subst h0;simp at hj);exact⟨b,off,rfl,h6,h7⟩
theorem RowOf.moved(h:RowOf f w v l)(hs:w.heap.size<=w'.heap.size)(hc:∀b off,b<w.heap.size->v.ownBlock=some b->w'.cell? ⟨b,off,none⟩=w.cell? ⟨b,off,none⟩):RowOf f w' v l:=by
 obtain⟨a,Aa,rfl,h2,h3,h4,h5⟩:=h;refine⟨a,Aa,rfl,h2,h3,h4,fun x hx hl=>?_⟩;obtain⟨h6,h7,h8⟩:=h5 x hx hl;subst hx;exact⟨h6,by omega,fun j hj=>by rw[hc _ _ h7 rfl];exact h8 j hj⟩
theorem RowOf.below{B:Nat}(h:RowOf f w v l)(hb:Below B w w')(hB:w.heap.size<=B):RowOf f w' v l:=
 h.moved hb.size fun b off hx _=>hb.cell (by show b<B;omega)
theorem RowOf.cells(h:RowOf f w v l){a:Option Addr}{n cap:Nat}(hv:v=.slice a n cap):n=l.length/\n<=cap/\cap<=maxLen/\(a=none->cap=0):=by
 obtain⟨a',Aa,h1,h2,h3,h4,_⟩:=h;rw[hv] at h1;cases h1;exact⟨rfl,h2,h3,h4⟩
theorem Jd(x:Addr)(n:Nat):(x.add n).block=x.block:=by
 unfold Addr.add;split<;>rfl
def aX(f:α->Value)(E:TypeId)(base:Nat)(w:World)(v:Value)(l:List α):Prop:=w.ownsRow base E 1 v l.length (l.map f)
variable {E:TypeId} {base:Nat}
theorem aX.nil:aX f E base w (.slice none 0 0) []:=World.ownsRow_nil _ _ _ _
theorem aX.row(h:aX f E base w v l):RowOf f w v l:=by
 have Aa:=h.lt;obtain⟨h1,h2⟩:=h;rcases h2 with ⟨rfl,h3⟩|⟨g,cap,cur,rfl,hb,hg,h3,h4,h5,h6⟩
 ·have:l=[]:=List.eq_nil_of_length_eq_zero h3
  subst this;exact RowOf.nil
 ·refine⟨_,cap,rfl,h3,h4,fun h=>by simp at h,fun x hx _=>?_⟩
  cases hx
  refine⟨rfl,(Aa g rfl).2,fun j hj=>?_⟩;rw[cell_of_row w g _ cur E (0,0) hg];have h7:(cur.toList.take (l.length*1))[0+j]?=(l.map f)[0+j]?:=by rw[h6]
  rw[List.getElem?_take,if_pos (by omega)] at h7
  simpa [hj] using h7
theorem aX.alloc(h:aX f E base w v l)(o:Obj):aX f E base (w.alloc o) v l:=World.ownsRow.alloc h o
theorem aX.drew(h:aX f E base w v l):aX f E base w.drew v l:=h
theorem aX.drewN(h:aX f E base w v l)(n:Nat):aX f E base (w.drewN n) v l:=h
theorem aX.kept{row:Option Nat}(h:aX f E base w v l)(hg:w.grownBy w' row)(hne:v.ownBlock=none\/v.ownBlock≠row):aX f E base w' v l:=World.ownsRow.kept h hg hne
theorem aX.moved(h:aX f E base w v l)(hc:∀k,v.ownBlock=some k->w'.heap[k]?=w.heap[k]?):aX f E base w' v l:=by
 obtain⟨h1,h2⟩:=h;refine⟨h1,?_⟩;rcases h2 with h2|⟨g,cap,cur,rfl,hb,hg,r⟩
 ·exact .inl h2
 ·exact .inr ⟨g,cap,cur,rfl,hb,by rw[hc g rfl];exact hg,r⟩
theorem aX.below{B:Nat}(h:aX f E base w v l)(hb:Below B w w')(hB:w.heap.size<=B):aX f E base w' v l:=
 h.moved fun k hk=>hb.block k (Nat.lt_of_lt_of_le (World.ownsRow.lt h k hk).2 hB)
theorem aX.cellAt{g n cap:Nat}(h:aX f E base w (.slice (some ⟨g,0,none⟩) n cap) l)(j:Nat)(hj:j<l.length):w.cell? ⟨g,j,none⟩=some (f l[j]):=by
 obtain rfl:=(h.row.cells rfl).1;rw[World.ownsRow.cellAt h j (by omega)];simp[hj]
theorem aX.setOther(h:aX f E base w v l)(x:Addr)(u:Value)(hne:v.ownBlock≠some x.block):aX f E base (w.setCell x u) v l:=
 h.moved fun k hk=>Below.heap_setCell _ _ _ _ (by intro e;subst e;exact hne hk)
theorem aX.lit(l:List α)(hb:base<=w.heap.size)(hm:l.length<=maxLen):aX f E base (w.alloc (.cells (l.map f).toArray E)) (.slice (some ⟨w.heap.size,0,none⟩) l.length l.length) l:=by
 unfold aX;have h:=World.ownsRow_lit (base:=base) (e:=E) (size:=1) w (l.map f).toArray l.length hb hm (by simp)
 simpa using h
end
theorem fI{w w':World}{row:Option Nat}{B:Nat}(hg:w.grownBy w' row)(hB:B<=w.heap.size)(hr:∀k,row=some k->B<=k):Below B w w':=
 (Below.refl B w).grown hg hB hr
structure gq(w0:World) where
 w:World
 below:Below w0.heap.size w0 w
instance (w0:World):Nonempty (gq w0):=⟨⟨w0,Below.refl _ _⟩⟩
theorem jg{P:Program}{id:Nat}{l:List Oper}{Q:Exit->Act->World->Prop}{a:Act}{w:World}(w0:World)(hm:P.follows .mixedOrders=true)(hB:Region.lexB .any l.toArray=true)
  (hw:Below w0.heap.size w0 w)
  (h:wpQuiet P l.toArray (fun w'=>∃x:gq w0,w'=x.w) (fun a'=>∀w',(∃x:gq w0,w'=x.w)->Q .normal a' w') l a):(Code.region id l.toArray true).wp P Q a w:=
 wp_region_quiet (C:=fun w'=>∃x:gq w0,w'=x.w) hm hB ⟨⟨_,hw.drew⟩,rfl⟩ (by simpa using h)
theorem gq.call{P:Program}{f:FuncId}{args:Array Value}{w0:World}{v:Value}(x:gq w0)
  (h:Calls P f args x.w fun e w'=>e=.returned v/\Below x.w.heap.size x.w w'):Calls P f args x.w fun e w'=>e=.returned v/\∃y:gq w0,w'=y.w:=
 h.mono fun _ w' ⟨he,hb⟩=>⟨he,⟨w',x.below.trans (hb.mono x.below.size)⟩,rfl⟩
theorem ah{B:Nat}{w w':World}(h:Below B w w')(n:Nat):Below B w (w'.drewN n):=h.trans ⟨rfl,rfl,rfl,Nat.le_refl _,fun _ _=>rfl⟩
theorem bV(B:Nat)(w:World)(n:Nat):Below B w (w.drewN n):=⟨rfl,rfl,rfl,Nat.le_refl _,fun _ _=>rfl⟩
def Stop(p:Prop):Prop:=p
theorem Stop.out{p:Prop}(h:p):Stop p:=h
section
variable {P:Program} {ops:Array Oper} {Q:Exit->Act->World->Prop} {d:Option Tmp} {ty:TypeId} {pos:String} {aft:Array Edge} {g:Option (Nat×Bool)} {rest:List Oper} {a:Act} {w:World}
theorem aA{xs:Array Operand}{ts:Array TypeId}(h:Stop (wpList P ops Q (⟨d,.call ⟨.builtin .append,xs,ts⟩,ty,pos,aft,g⟩::rest) a w)):wpList P ops Q (⟨d,.call ⟨.builtin .append,xs,ts⟩,ty,pos,aft,g⟩::rest) a w:=h
theorem uG{xs:Array Operand}{ts:Array TypeId}(h:Stop (wpList P ops Q (⟨d,.call ⟨.builtin .copy,xs,ts⟩,ty,pos,aft,g⟩::rest) a w)):wpList P ops Q (⟨d,.call ⟨.builtin .copy,xs,ts⟩,ty,pos,aft,g⟩::rest) a w:=h
theorem lK{t:TypeId}{x y:Operand}(h:Stop (wpList P ops Q (⟨d,.makeSlice t x y,ty,pos,aft,g⟩::rest) a w)):wpList P ops Q (⟨d,.makeSlice t x y,ty,pos,aft,g⟩::rest) a w:=h
theorem jm{t:TypeId}{x:Operand}{lo hi mx:Option Operand}(h:Stop (wpList P ops Q (⟨d,.slice t x lo hi mx,ty,pos,aft,g⟩::rest) a w)):wpList P ops Q (⟨d,.slice t x lo hi mx,ty,pos,aft,g⟩::rest) a w:=h
theorem bC{t:TypeId}{x y:Operand}(h:Stop (wpList P ops Q (⟨d,.store t x y,ty,pos,aft,g⟩::rest) a w)):wpList P ops Q (⟨d,.store t x y,ty,pos,aft,g⟩::rest) a w:=h
end
section
variable {α:Type} {f:α->Value} {P:Program} {w:World} {ops:Array Oper} {rest:List Oper} {o:Oper} {a:Act} {Q:Exit->Act->World->Prop}
theorem fF(hw:Region.wanted o (yielded ops a.tmps)=true)(h:∀K:Act->World->Prop,(∀a w,wpList P ops Q rest a w->K a w)->o.wp P a w K Q):wpList P ops Q (o::rest) a w:=
 wpList_step fun K hK=>by rw[if_pos hw];exact h K hK
theorem qO{K:Act->World->Prop}(s x:Operand)(t:TypeId)
  (ho:o.op=.call { callee:=.builtin .append,args:=#[s,x],argTypes:=#[t,t] })
  (base:Nat) (e:TypeId) (bytes:Nat) (z:Value) (ht:P.underlying t=some (.slice e)) (hi:(P.info? e).map (fun i=>(i.zero,i.size,i.bytes))=some (some z,1,bytes)) (hzs:z.cells.size=1)
  (hf:∀x,(f x).oneCell'=true)
  (l l2:List α) (hown:aX f e base w (a.eval s) l) (hrow:RowOf f w (a.eval x) l2)
  (hm:l.length+l2.length<=maxLen) (hby:(l.length+l2.length)*bytes<=140737488355328) (hbase:base<=w.heap.size) (w0:World) (hb:Below base w0 w)
  (hK:∀v' w',aX f e base w' v' (l++l2)->Below base w0 w'->w.grownBy w' (a.eval s).ownBlock->K (a.put o.dst v') w'):o.wp P a w K Q:=by
 obtain⟨i,Aa,Ad,Ae,Af⟩:=info_parts hi;obtain⟨ao,Ac,hv,h2,h3,h4,h5⟩:=hrow
 by_cases hl2:l2=[]
 ·subst hl2
  cases ao with
  |none=>
   have hc:=h4 rfl;subst hc;have Ab:=run_append_owned_none (P:=P) (w:=w) base t o.type e i 1 ht Aa (a.eval s) l.length (l.map f) hown;unfold Oper.wp;simp[execOp,ho,resolve,invoke,builtin,hv,Ab,Result.andThen]
   exact hK _ _ (by simpa using hown) hb ⟨rfl,rfl,rfl,Nat.le_refl _,fun _ _ _=>rfl⟩
  |some ad=>
   refine wp_append_own w s x t ho base e i z 1 bytes ht Aa Ad Ae Af hzs (by decide) (a.eval s) l.length (l.map f) rfl hown ad 0 Ac [] (by simpa using hv) (by simp) (by simp) (by simp) hm hby hbase ?_;intro v' w' hown' hg _;exact hK v' w' (by unfold aX;simpa using hown') (hb.trans (fI hg hbase (fun k hk=>(World.ownsRow.lt hown k hk).1))) hg
 cases ao with
 |none=>
  have hc:=h4 rfl;subst hc;exact absurd (List.eq_nil_of_length_eq_zero (by omega)) hl2
 |some ad=>
  obtain⟨b,Ag,sp⟩:=ad;obtain⟨g1,g2,g3⟩:=h5 _ rfl hl2;simp only at g1 g2 g3;subst g1;refine wp_append_own w s x t ho base e i z 1 bytes ht Aa Ad Ae Af hzs (by decide) (a.eval s) l.length (l.map f) rfl hown ⟨b,Ag,none⟩ l2.length Ac (l2.map f) hv (by simp) ?_ ?_ hm hby hbase ?_
  ·intro j u hu
   rw[Addr.add_lit];simp only[List.getElem?_map,Option.map_eq_some_iff] at hu;obtain⟨y,hy,rfl⟩:=hu;obtain⟨hj,rfl⟩:=List.getElem?_eq_some_iff.1 hy;exact g3 j hj
  ·intro u hu
   obtain⟨y,_,rfl⟩:=List.mem_map.1 hu;exact hf y
  ·intro v' w' hown' hg _
   exact hK v' w' (by unfold aX;simpa using hown') (hb.trans (fI hg hbase (fun k hk=>(World.ownsRow.lt hown k hk).1))) hg
theorem fG(hgd:Region.wanted o (yielded ops a.tmps)=true)(s x:Operand)(t:TypeId)
  (ho:o.op=.call { callee:=.builtin .append,args:=#[s,x],argTypes:=#[t,t] })
  (base:Nat) (e:TypeId) (bytes:Nat) (z:Value) (ht:P.underlying t=some (.slice e)) (hi:(P.info? e).map (fun i=>(i.zero,i.size,i.bytes))=some (some z,1,bytes)) (hzs:z.cells.size=1)
  (hf:∀x,(f x).oneCell'=true)
  (l l2:List α) (hown:aX f e base w (a.eval s) l) (hrow:RowOf f w (a.eval x) l2)
  (hm:l.length+l2.length<=maxLen) (hby:(l.length+l2.length)*bytes<=140737488355328) (hbase:base<=w.heap.size) (w0:World) (hb:Below base w0 w)
  (hK:∀v' w',aX f e base w' v' (l++l2)->Below base w0 w'->w.grownBy w' (a.eval s).ownBlock->wpList P ops Q rest (a.put o.dst v') w'):wpList P ops Q (o::rest) a w:=
 fF hgd fun _ hK'=>qO s x t ho base e bytes z ht hi hzs hf l l2 hown hrow hm hby hbase w0 hb fun v' w' h1 h2 h3=>hK' _ _ (hK v' w' h1 h2 h3)
theorem vS{K:Act->World->Prop}{Z:Prop}(hgd:Region.wanted o (yielded ops a.tmps)=true)(s x:Operand)(t:TypeId)
  (ho:o.op=.call { callee:=.builtin .append,args:=#[s,x],argTypes:=#[t,t] })
  (base:Nat) (e:TypeId) (bytes:Nat) (z:Value) (ht:P.underlying t=some (.slice e)) (hi:(P.info? e).map (fun i=>(i.zero,i.size,i.bytes))=some (some z,1,bytes)) (hzs:z.cells.size=1)
  (hf:∀x,(f x).oneCell'=true)
  (l l2:List α) (hown:aX f e base w (a.eval s) l) (hrow:RowOf f w (a.eval x) l2)
  (hm:l.length+l2.length<=maxLen) (hby:(l.length+l2.length)*bytes<=140737488355328) (hbase:base<=w.heap.size) (w0:World) (hb:Below base w0 w)
  (hK:∀v' w',aX f e base w' v' (l++l2)->Below base w0 w'->w.grownBy w' (a.eval s).ownBlock->K (a.put o.dst v') w'):if Region.wanted o (yielded ops a.tmps)=true then o.wp P a w K Q else Z:=by
 rw[if_pos hgd];exact qO s x t ho base e bytes z ht hi hzs hf l l2 hown hrow hm hby hbase w0 hb hK
theorem xm{e:TypeId}(h:(P.info? e).map (fun i=>i.size)=some 1)(w:World):(sizeOf e).run P w=.ok 1 w:=by
 obtain⟨i,hi,hs⟩:=Option.map_eq_some_iff.1 h;simp[sizeOf,typeInfo,hi,hs]
theorem uK(w:World)(g:Nat)(t ty:TypeId)(cur cs:Array Value)(hg:w.heap[g]?=some (.cells cur t (0,0)))(hsz:cur.size=cs.size)
  (hi:(P.info? ty).map (·.size)=some cs.size) (h1:∀v∈cs.toList,v.oneCell'=true) :
  (storeVar ty ⟨g,0,none⟩ (.agg cs)).run P w=.ok () (w.setRow g cs):=by
 have Aa:=run_storeCells_at P g 0 t cs.toList 0 cur w hg (by simp;omega) h1
 cases hq:P.info? ty with
 |none=>simp[hq] at hi
 |some i=>
  have hs:i.size=cs.size:=by simpa [hq] using hi
  have e:(cur.toList.take (0+0)++cs.toList++cur.toList.drop (0+0+cs.toList.length)).toArray=cs:=by
   rw[List.drop_of_length_le (by simp;omega)];simp
  rw[e] at Aa;simp[storeVar,Value.cells,Sem.run_bind,sizeOf,typeInfo,hq,hs,Aa]
theorem az(hgd:Region.wanted o (yielded ops a.tmps)=true)(ty:TypeId)(x v:Operand)(ho:o.op=.store ty x v)(hdst:o.dst=none)
  (g:Nat) (hx:a.eval x=.pointer (some ⟨g,0,none⟩)) (cs:Array Value) (hv:a.eval v=.agg cs) (t:TypeId) (cur:Array Value) (hg:w.heap[g]?=some (.cells cur t (0,0))) (hsz:cur.size=cs.size)
  (hi:(P.info? ty).map (·.size)=some cs.size) (h1:∀v∈cs.toList,v.oneCell'=true)
  (hK:wpList P ops Q rest a (w.setRow g cs)):wpList P ops Q (o::rest) a w:=by
 refine fF hgd fun K hK'=>?_;have Aa:=uK (P:=P) w g t ty cur cs hg hsz hi h1;unfold Oper.wp execOp;simp only[ho,hx,hv,Instr.storeAt,Instr.sureAddr,Sem.run_bind,Sem.run_pure,Result.andThen_ok,Aa,Oper.upon_skip,hdst];exact hK' _ _ hK
theorem fZ(w:World)(t e:TypeId)(n:Nat)(cs:Array Value)(k:IntKind)(i:Int)(j:Nat)(v:Value)(ht:P.underlying t=some (.array n e))(hs:(P.info? e).map (fun i=>i.size)=some 1)
  (he:(match P.underlying e with|some (.struct _)=>false|some (.array _ _)=>false|none=>false|_=>true)=true) (hi:i=j) (hj:j<n) (hv:cs[j]?=some v) :
  (Instr.index t (.agg cs) (.int k i)).run P w=.ok v w:=by
 subst hi
 have h1:(isAgg e).run P w=.ok false w:=by
  unfold isAgg
  cases hu:P.underlying e with
  |none=>simp[hu] at he
  |some d=>
   rw[Sem.run_bind,run_underlying hu w];cases d<;>simp_all
 simp[Instr.index,asIntOf,run_underlying ht,xm hs,part,h1,Sem.run_bind,hv]
 intro h;omega
end
end Go.Tab
namespace Go.Proofs.YtbcdaaobbebooaaGreatDoor
open Go.RowKit Go.Tab
def aa(w:World)(g:Nat)(cs:Array Value)(t:TypeId):Prop:=w.heap[g]?=some (.cells cs t (0,0))
section
variable {w w':World} {g:Nat} {cs:Array Value} {t:TypeId}
theorem aa.lt(h:aa w g cs t):g<w.heap.size:=(Array.getElem?_eq_some_iff.1 h).1
theorem aa.cell(h:aa w g cs t)(j:Nat)(v:Value)(hj:cs[j]?=some v):w.cell? ⟨g,j,none⟩=some v:=by
 rw[cell_of_row w g _ cs t (0,0) h];exact hj
theorem aa.frozen(h:aa w g cs t)(j:Nat):w.frozen? ⟨g,j,none⟩=false:=by simp[World.frozen?,show w.heap[g]?=_ from h]
theorem aa.m11{w:World}{g:Nat}{cs:Array Value}{t:TypeId}{x0 x1 x2 x3 x4 x5 x6 x7 x8 x9 x10:Value}{r:List Value}(h:aa w g cs t)(e:cs.toList=x0::x1::x2::x3::x4::x5::x6::x7::x8::x9::x10::r):w.cell? ⟨g,0,none⟩=some x0 ∧ w.cell? ⟨g,1,none⟩=some x1 ∧ w.cell? ⟨g,2,none⟩=some x2 ∧ w.cell? ⟨g,3,none⟩=some x3 ∧ w.cell? ⟨g,4,none⟩=some x4 ∧ w.cell? ⟨g,5,none⟩=some x5 ∧ w.cell? ⟨g,6,none⟩=some x6 ∧ w.cell? ⟨g,7,none⟩=some x7 ∧ w.cell? ⟨g,8,none⟩=some x8 ∧ w.cell? ⟨g,9,none⟩=some x9 ∧ w.cell? ⟨g,10,none⟩=some x10:=
 have q:∀(j:Nat) (v:Value),(x0::x1::x2::x3::x4::x5::x6::x7::x8::x9::x10::r)[j]?=some v->cs[j]?=some v:=fun j v hj=>by rw[<-Array.getElem?_toList,e];exact hj
 ⟨h.cell 0 _ (q 0 _ rfl),h.cell 1 _ (q 1 _ rfl),h.cell 2 _ (q 2 _ rfl),h.cell 3 _ (q 3 _ rfl),h.cell 4 _ (q 4 _ rfl),h.cell 5 _ (q 5 _ rfl),h.cell 6 _ (q 6 _ rfl),h.cell 7 _ (q 7 _ rfl),h.cell 8 _ (q 8 _ rfl),h.cell 9 _ (q 9 _ rfl),h.cell 10 _ (q 10 _ rfl)⟩
theorem aa.m2{w:World}{g:Nat}{cs:Array Value}{t:TypeId}{x0 x1:Value}{r:List Value}(h:aa w g cs t)(e:cs.toList=x0::x1::r):w.cell? ⟨g,0,none⟩=some x0 ∧ w.cell? ⟨g,1,none⟩=some x1:=
 have q:∀(j:Nat) (v:Value),(x0::x1::r)[j]?=some v->cs[j]?=some v:=fun j v hj=>by rw[<-Array.getElem?_toList,e];exact hj
 ⟨h.cell 0 _ (q 0 _ rfl),h.cell 1 _ (q 1 _ rfl)⟩
theorem aa.m3{w:World}{g:Nat}{cs:Array Value}{t:TypeId}{x0 x1 x2:Value}{r:List Value}(h:aa w g cs t)(e:cs.toList=x0::x1::x2::r):w.cell? ⟨g,0,none⟩=some x0 ∧ w.cell? ⟨g,1,none⟩=some x1 ∧ w.cell? ⟨g,2,none⟩=some x2:=
 have q:∀(j:Nat) (v:Value),(x0::x1::x2::r)[j]?=some v->cs[j]?=some v:=fun j v hj=>by rw[<-Array.getElem?_toList,e];exact hj
 ⟨h.cell 0 _ (q 0 _ rfl),h.cell 1 _ (q 1 _ rfl),h.cell 2 _ (q 2 _ rfl)⟩
theorem aa.m5{w:World}{g:Nat}{cs:Array Value}{t:TypeId}{x0 x1 x2 x3 x4:Value}{r:List Value}(h:aa w g cs t)(e:cs.toList=x0::x1::x2::x3::x4::r):w.cell? ⟨g,0,none⟩=some x0 ∧ w.cell? ⟨g,1,none⟩=some x1 ∧ w.cell? ⟨g,2,none⟩=some x2 ∧ w.cell? ⟨g,3,none⟩=some x3 ∧ w.cell? ⟨g,4,none⟩=some x4:=
 have q:∀(j:Nat) (v:Value),(x0::x1::x2::x3::x4::r)[j]?=some v->cs[j]?=some v:=fun j v hj=>by rw[<-Array.getElem?_toList,e];exact hj
 ⟨h.cell 0 _ (q 0 _ rfl),h.cell 1 _ (q 1 _ rfl),h.cell 2 _ (q 2 _ rfl),h.cell 3 _ (q 3 _ rfl),h.cell 4 _ (q 4 _ rfl)⟩
theorem aa.m7{w:World}{g:Nat}{cs:Array Value}{t:TypeId}{x0 x1 x2 x3 x4 x5 x6:Value}{r:List Value}(h:aa w g cs t)(e:cs.toList=x0::x1::x2::x3::x4::x5::x6::r):w.cell? ⟨g,0,none⟩=some x0 ∧ w.cell? ⟨g,1,none⟩=some x1 ∧ w.cell? ⟨g,2,none⟩=some x2 ∧ w.cell? ⟨g,3,none⟩=some x3 ∧ w.cell? ⟨g,4,none⟩=some x4 ∧ w.cell? ⟨g,5,none⟩=some x5 ∧ w.cell? ⟨g,6,none⟩=some x6:=
 have q:∀(j:Nat) (v:Value),(x0::x1::x2::x3::x4::x5::x6::r)[j]?=some v->cs[j]?=some v:=fun j v hj=>by rw[<-Array.getElem?_toList,e];exact hj
 ⟨h.cell 0 _ (q 0 _ rfl),h.cell 1 _ (q 1 _ rfl),h.cell 2 _ (q 2 _ rfl),h.cell 3 _ (q 3 _ rfl),h.cell 4 _ (q 4 _ rfl),h.cell 5 _ (q 5 _ rfl),h.cell 6 _ (q 6 _ rfl)⟩
theorem aa.m8{w:World}{g:Nat}{cs:Array Value}{t:TypeId}{x0 x1 x2 x3 x4 x5 x6 x7:Value}{r:List Value}(h:aa w g cs t)(e:cs.toList=x0::x1::x2::x3::x4::x5::x6::x7::r):w.cell? ⟨g,0,none⟩=some x0 ∧ w.cell? ⟨g,1,none⟩=some x1 ∧ w.cell? ⟨g,2,none⟩=some x2 ∧ w.cell? ⟨g,3,none⟩=some x3 ∧ w.cell? ⟨g,4,none⟩=some x4 ∧ w.cell? ⟨g,5,none⟩=some x5 ∧ w.cell? ⟨g,6,none⟩=some x6 ∧ w.cell? ⟨g,7,none⟩=some x7:=
 have q:∀(j:Nat) (v:Value),(x0::x1::x2::x3::x4::x5::x6::x7::r)[j]?=some v->cs[j]?=some v:=fun j v hj=>by rw[<-Array.getElem?_toList,e];exact hj
 ⟨h.cell 0 _ (q 0 _ rfl),h.cell 1 _ (q 1 _ rfl),h.cell 2 _ (q 2 _ rfl),h.cell 3 _ (q 3 _ rfl),h.cell 4 _ (q 4 _ rfl),h.cell 5 _ (q 5 _ rfl),h.cell 6 _ (q 6 _ rfl),h.cell 7 _ (q 7 _ rfl)⟩
theorem aa.n1{w:World}{g:Nat}{cs:Array Value}{t:TypeId}{x0:Value}{r:List Value}(h:aa w g cs t)(e:cs.toList=x0::r):w.cell? ⟨g,0,none⟩=some x0 ∧ w.frozen? ⟨g,0,none⟩=false:=
 have q:∀(j:Nat) (v:Value),(x0::r)[j]?=some v->cs[j]?=some v:=fun j v hj=>by rw[<-Array.getElem?_toList,e];exact hj
 ⟨h.cell 0 _ (q 0 _ rfl),h.frozen 0⟩
theorem aa.n11{w:World}{g:Nat}{cs:Array Value}{t:TypeId}{x0 x1 x2 x3 x4 x5 x6 x7 x8 x9 x10:Value}{r:List Value}(h:aa w g cs t)(e:cs.toList=x0::x1::x2::x3::x4::x5::x6::x7::x8::x9::x10::r):w.cell? ⟨g,0,none⟩=some x0 ∧ w.frozen? ⟨g,0,none⟩=false ∧ w.cell? ⟨g,1,none⟩=some x1 ∧ w.frozen? ⟨g,1,none⟩=false ∧ w.cell? ⟨g,2,none⟩=some x2 ∧ w.frozen? ⟨g,2,none⟩=false ∧ w.cell? ⟨g,3,none⟩=some x3 ∧ w.frozen? ⟨g,3,none⟩=false ∧ w.cell? ⟨g,4,none⟩=some x4 ∧ w.frozen? ⟨g,4,none⟩=false ∧ w.cell? ⟨g,5,none⟩=some x5 ∧ w.frozen? ⟨g,5,none⟩=false ∧ w.cell? ⟨g,6,none⟩=some x6 ∧ w.frozen? ⟨g,6,none⟩=false ∧ w.cell? ⟨g,7,none⟩=some x7 ∧ w.frozen? ⟨g,7,none⟩=false ∧ w.cell? ⟨g,8,none⟩=some x8 ∧ w.frozen? ⟨g,8,none⟩=false ∧ w.cell? ⟨g,9,none⟩=some x9 ∧ w.frozen? ⟨g,9,none⟩=false ∧ w.cell? ⟨g,10,none⟩=some x10 ∧ w.frozen? ⟨g,10,none⟩=false:=
 have q:∀(j:Nat) (v:Value),(x0::x1::x2::x3::x4::x5::x6::x7::x8::x9::x10::r)[j]?=some v->cs[j]?=some v:=fun j v hj=>by rw[<-Array.getElem?_toList,e];exact hj
 ⟨h.cell 0 _ (q 0 _ rfl),h.frozen 0,h.cell 1 _ (q 1 _ rfl),h.frozen 1,h.cell 2 _ (q 2 _ rfl),h.frozen 2,h.cell 3 _ (q 3 _ rfl),h.frozen 3,h.cell 4 _ (q 4 _ rfl),h.frozen 4,h.cell 5 _ (q 5 _ rfl),h.frozen 5,h.cell 6 _ (q 6 _ rfl),h.frozen 6,h.cell 7 _ (q 7 _ rfl),h.frozen 7,h.cell 8 _ (q 8 _ rfl),h.frozen 8,h.cell 9 _ (q 9 _ rfl),h.frozen 9,h.cell 10 _ (q 10 _ rfl),h.frozen 10⟩
theorem aa.n2{w:World}{g:Nat}{cs:Array Value}{t:TypeId}{x0 x1:Value}{r:List Value}(h:aa w g cs t)(e:cs.toList=x0::x1::r):w.cell? ⟨g,0,none⟩=some x0 ∧ w.frozen? ⟨g,0,none⟩=false ∧ w.cell? ⟨g,1,none⟩=some x1 ∧ w.frozen? ⟨g,1,none⟩=false:=
 have q:∀(j:Nat) (v:Value),(x0::x1::r)[j]?=some v->cs[j]?=some v:=fun j v hj=>by rw[<-Array.getElem?_toList,e];exact hj
 ⟨h.cell 0 _ (q 0 _ rfl),h.frozen 0,h.cell 1 _ (q 1 _ rfl),h.frozen 1⟩
theorem aa.n3{w:World}{g:Nat}{cs:Array Value}{t:TypeId}{x0 x1 x2:Value}{r:List Value}(h:aa w g cs t)(e:cs.toList=x0::x1::x2::r):w.cell? ⟨g,0,none⟩=some x0 ∧ w.frozen? ⟨g,0,none⟩=false ∧ w.cell? ⟨g,1,none⟩=some x1 ∧ w.frozen? ⟨g,1,none⟩=false ∧ w.cell? ⟨g,2,none⟩=some x2 ∧ w.frozen? ⟨g,2,none⟩=false:=
 have q:∀(j:Nat) (v:Value),(x0::x1::x2::r)[j]?=some v->cs[j]?=some v:=fun j v hj=>by rw[<-Array.getElem?_toList,e];exact hj
 ⟨h.cell 0 _ (q 0 _ rfl),h.frozen 0,h.cell 1 _ (q 1 _ rfl),h.frozen 1,h.cell 2 _ (q 2 _ rfl),h.frozen 2⟩
theorem aa.n4{w:World}{g:Nat}{cs:Array Value}{t:TypeId}{x0 x1 x2 x3:Value}{r:List Value}(h:aa w g cs t)(e:cs.toList=x0::x1::x2::x3::r):w.cell? ⟨g,0,none⟩=some x0 ∧ w.frozen? ⟨g,0,none⟩=false ∧ w.cell? ⟨g,1,none⟩=some x1 ∧ w.frozen? ⟨g,1,none⟩=false ∧ w.cell? ⟨g,2,none⟩=some x2 ∧ w.frozen? ⟨g,2,none⟩=false ∧ w.cell? ⟨g,3,none⟩=some x3 ∧ w.frozen? ⟨g,3,none⟩=false:=
 have q:∀(j:Nat) (v:Value),(x0::x1::x2::x3::r)[j]?=some v->cs[j]?=some v:=fun j v hj=>by rw[<-Array.getElem?_toList,e];exact hj
 ⟨h.cell 0 _ (q 0 _ rfl),h.frozen 0,h.cell 1 _ (q 1 _ rfl),h.frozen 1,h.cell 2 _ (q 2 _ rfl),h.frozen 2,h.cell 3 _ (q 3 _ rfl),h.frozen 3⟩
theorem aa.n5{w:World}{g:Nat}{cs:Array Value}{t:TypeId}{x0 x1 x2 x3 x4:Value}{r:List Value}(h:aa w g cs t)(e:cs.toList=x0::x1::x2::x3::x4::r):w.cell? ⟨g,0,none⟩=some x0 ∧ w.frozen? ⟨g,0,none⟩=false ∧ w.cell? ⟨g,1,none⟩=some x1 ∧ w.frozen? ⟨g,1,none⟩=false ∧ w.cell? ⟨g,2,none⟩=some x2 ∧ w.frozen? ⟨g,2,none⟩=false ∧ w.cell? ⟨g,3,none⟩=some x3 ∧ w.frozen? ⟨g,3,none⟩=false ∧ w.cell? ⟨g,4,none⟩=some x4 ∧ w.frozen? ⟨g,4,none⟩=false:=
 have q:∀(j:Nat) (v:Value),(x0::x1::x2::x3::x4::r)[j]?=some v->cs[j]?=some v:=fun j v hj=>by rw[<-Array.getElem?_toList,e];exact hj
 ⟨h.cell 0 _ (q 0 _ rfl),h.frozen 0,h.cell 1 _ (q 1 _ rfl),h.frozen 1,h.cell 2 _ (q 2 _ rfl),h.frozen 2,h.cell 3 _ (q 3 _ rfl),h.frozen 3,h.cell 4 _ (q 4 _ rfl),h.frozen 4⟩
theorem aa.n7{w:World}{g:Nat}{cs:Array Value}{t:TypeId}{x0 x1 x2 x3 x4 x5 x6:Value}{r:List Value}(h:aa w g cs t)(e:cs.toList=x0::x1::x2::x3::x4::x5::x6::r):w.cell? ⟨g,0,none⟩=some x0 ∧ w.frozen? ⟨g,0,none⟩=false ∧ w.cell? ⟨g,1,none⟩=some x1 ∧ w.frozen? ⟨g,1,none⟩=false ∧ w.cell? ⟨g,2,none⟩=some x2 ∧ w.frozen? ⟨g,2,none⟩=false ∧ w.cell? ⟨g,3,none⟩=some x3 ∧ w.frozen? ⟨g,3,none⟩=false ∧ w.cell? ⟨g,4,none⟩=some x4 ∧ w.frozen? ⟨g,4,none⟩=false ∧ w.cell? ⟨g,5,none⟩=some x5 ∧ w.frozen? ⟨g,5,none⟩=false ∧ w.cell? ⟨g,6,none⟩=some x6 ∧ w.frozen? ⟨g,6,none⟩=false:=
 have q:∀(j:Nat) (v:Value),(x0::x1::x2::x3::x4::x5::x6::r)[j]?=some v->cs[j]?=some v:=fun j v hj=>by rw[<-Array.getElem?_toList,e];exact hj
 ⟨h.cell 0 _ (q 0 _ rfl),h.frozen 0,h.cell 1 _ (q 1 _ rfl),h.frozen 1,h.cell 2 _ (q 2 _ rfl),h.frozen 2,h.cell 3 _ (q 3 _ rfl),h.frozen 3,h.cell 4 _ (q 4 _ rfl),h.frozen 4,h.cell 5 _ (q 5 _ rfl),h.frozen 5,h.cell 6 _ (q 6 _ rfl),h.frozen 6⟩
theorem aa.kept{row:Option Nat}(h:aa w g cs t)(hg:w.grownBy w' row)(hne:some g≠row):aa w' g cs t:=(hg.block g h.lt hne).trans h
theorem aa.below{B:Nat}(h:aa w g cs t)(hb:Below B w w')(hB:g<B):aa w' g cs t:=(hb.block g hB).trans h
theorem aa.alloc(h:aa w g cs t)(o:Obj):aa (w.alloc o) g cs t:=h.kept (World.grownBy_alloc w o none) (by simp)
theorem aa.drew(h:aa w g cs t):aa w.drew g cs t:=h
theorem aa.drewN(h:aa w g cs t)(n:Nat):aa (w.drewN n) g cs t:=h
theorem aa.set(h:aa w g cs t)(j:Nat)(hj:j<cs.size)(v:Value):aa (w.setCell ⟨g,j,none⟩ v) g (cs.set j v hj) t:=by
 obtain⟨Aa,hk⟩:=Array.getElem?_eq_some_iff.1 h;show (w.heap.modify g _)[g]?=_;rw[Array.getElem?_eq_getElem (by rw[Array.size_modify];exact Aa),Array.getElem_modify_self,hk];simp[Array.setIfInBounds,hj]
theorem aa.new(w:World)(cs:Array Value)(t:TypeId):aa (w.alloc (.cells cs t)) w.heap.size cs t:=by
 show (w.heap.push _)[w.heap.size]?=_;simp
theorem aa.shape(h:aa w g cs t):w.shape? g=some (t,cs.size):=by simp[World.shape?,show w.heap[g]?=_ from h]
theorem aa.setOther(h:aa w g cs t)(x:Addr)(u:Value)(hne:x.block≠g):aa (w.setCell x u) g cs t:=
 (Below.heap_setCell _ _ _ _ (fun e=>hne e.symm)).trans h
end
theorem zb(W:World)(b j:Nat)(v:Value):W.grownBy (W.setCell ⟨b,j,none⟩ v) (some b):=
 ⟨rfl,rfl,rfl,by simp[World.setCell],fun k _ hk=>Below.heap_setCell _ _ _ k (fun e=>hk (by rw[e]))⟩
theorem _root_.Go.Tab.RowOf.shape{α:Type}{f:α->Value}{w:World}{v:Value}{l:List α}(h:RowOf f w v l):∃a n cap,v=.slice a n cap/\n=l.length:=by
 obtain⟨a,cap,h1,_⟩:=h;exact⟨a,_,cap,h1,rfl⟩
theorem lX{α:Type}{f:α->Value}{E:TypeId}{base:Nat}{w:World}{v:Value}{l:List α}{g:Nat}{cs:Array Value}{t:TypeId}(h:aX f E base w v l)(hc:aa w g cs t)(ht:t≠E):v.ownBlock≠some g:=by
 rcases h.2 with ⟨rfl,_⟩|⟨b,cap,cur,rfl,_,hg,_⟩
 ·simp[Value.ownBlock]
 ·intro he
  simp only[Value.ownBlock,Option.some.injEq] at he;subst he;have Aa:w.heap[b]?=some (.cells cs t (0,0)):=hc;rw[hg] at Aa;simp only[Option.some.injEq,Obj.cells.injEq] at Aa;exact ht Aa.2.1.symm
def bA(E:TypeId)(g:Nat)(w w':World):Prop:=
 w.heap.size<=w'.heap.size/\∀k o,k≠g->w.heap[k]?=some o->(∀cs fr,o≠.cells cs E fr)->w'.heap[k]?=some o
theorem bA.refl{E:TypeId}{g:Nat}{w:World}:bA E g w w:=⟨Nat.le_refl _,fun _ _ _ h _=>h⟩
theorem bA.trans{E:TypeId}{g:Nat}{w w' w'':World}(h:bA E g w w')(h2:bA E g w' w''):bA E g w w'':=
 ⟨Nat.le_trans h.1 h2.1,fun k o hk ho hn=>h2.2 k o hk (h.2 k o hk ho hn) hn⟩
theorem bA.alloc{E:TypeId}{g:Nat}{w w':World}(h:bA E g w w')(o:Obj):bA E g w (w'.alloc o):=
 h.trans ⟨by simp,fun k o' _ ho _=>((World.grownBy_alloc w' o none).block k (Array.getElem?_eq_some_iff.1 ho).1 (by simp)).trans ho⟩
theorem bA.setCell{E:TypeId}{g:Nat}{w w':World}(h:bA E g w w')(j:Nat)(v:Value):bA E g w (w'.setCell ⟨g,j,none⟩ v):=
 h.trans ⟨by simp[World.setCell],fun k o' hk ho _=>by rw[Below.heap_setCell _ _ _ _ hk];exact ho⟩
theorem bA.grown{E:TypeId}{g:Nat}{w w' w'':World}{row:Option Nat}(h:bA E g w w')(hg:w'.grownBy w'' row)(hr:∀k,row=some k->k=g\/∃cs fr,w'.heap[k]?=some (.cells cs E fr)):bA E g w w'':=
 h.trans ⟨hg.size,fun k o hk ho hn=>by
  refine (hg.block k (Array.getElem?_eq_some_iff.1 ho).1 ?_).trans ho;intro e;rcases hr k e.symm with rfl|⟨cs,fr,hc⟩
  ·exact hk rfl
  ·rw[ho] at hc;cases hc;exact hn _ _ rfl⟩
theorem bA.cells{E:TypeId}{g:Nat}{w w':World}(h:bA E g w w'){k:Nat}{cs:Array Value}{t:TypeId}(hc:aa w k cs t)(hk:k≠g)(ht:t≠E):aa w' k cs t:=
 h.2 k _ hk hc (fun cs' fr e=>by cases e;exact ht rfl)
theorem rQ{α:Type}{f:α->Value}{E:TypeId}{base:Nat}{w:World}{v:Value}{l:List α}(h:aX f E base w v l):∀k,v.ownBlock=some k->∃cs fr,w.heap[k]?=some (.cells cs E fr):=by
 intro k hk;rcases h.2 with ⟨rfl,_⟩|⟨b,cap,cur,rfl,_,hg,_⟩
 ·simp[Value.ownBlock] at hk
 ·simp only[Value.ownBlock,Option.some.injEq] at hk
  subst hk;exact⟨_,_,hg⟩
def bs(s:ByteArray):List Nat:=s.data.toList.map UInt8.toNat
theorem ay(s:ByteArray):(bs s).length=s.size:=by
 unfold bs;rw[List.length_map,Array.length_toList];rfl
theorem fK{s:ByteArray}:∀x∈bs s,x<256:=by
 intro x hx;obtain⟨c,_,rfl⟩:=List.mem_map.1 hx;exact c.toNat_lt
theorem yE{s:ByteArray}{i:Nat}(h:i<s.size):(s[i]'h).toNat=(bs s)[i]'(by rw[ay];exact h):=by
 simp[bs];rfl
theorem Ak{s:ByteArray}{i:Nat}{l:List Nat}(h:(bs s).drop i=l){j:Nat}(hj:j<l.length):∃h':i+j<s.size,(s[i+j]'h').toNat=l[j]:=by
 subst h;simp[ay] at hj
 refine⟨by omega,?_⟩;rw[yE];simp
theorem Fh{d:ByteArray}(h0:d.size=0):d=⟨#[]⟩:=by
 cases d with
 |mk a=>exact congrArg ByteArray.mk (Array.eq_empty_of_size_eq_zero h0)
theorem A7{d:ByteArray}(h0:¬d.size=0):d.toList.isEmpty=false:=by
 rw[ByteArray.toList_eq,List.isEmpty_eq_false_iff];intro h;exact h0 (by have:=congrArg List.length h;simpa using this)
def av(l:List UInt8):ByteArray:=⟨l.toArray⟩
theorem bi(l:List UInt8):(av l).data.toList=l:=rfl
theorem AA(s:ByteArray):s=av s.data.toList:=by cases s;rfl
theorem ji{a b:ByteArray}(h:a.data.toList=b.data.toList):a=b:=by rw[AA a,AA b,h]
theorem au(s:ByteArray):s.size=s.data.toList.length:=by cases s;rfl
theorem aU(l:List UInt8):(av l).size=l.length:=by rw[au];rfl
theorem jd{s:ByteArray}{i:Nat}(h:i<s.size):s[i]'h=s.data.toList[i]'(by rw[<-au];exact h):=rfl
theorem fe(s:ByteArray)(a b:Nat):(s.extract a b).data.toList=(s.data.toList.take b).drop a:=by
 rw[ByteArray.data_extract,Array.toList_extract,List.extract_eq_take_drop,List.drop_take]
theorem kT(s t:ByteArray):(s++t).data.toList=s.data.toList++t.data.toList:=by rw[ByteArray.data_append,Array.toList_append]
theorem iW{a b:Bool}(h:a=b):Ending.returned (.bool a)=.returned (.bool b):=by rw[h]
theorem dV{k:IntKind}{a b:Int}(h:a=b):Ending.returned (.int k a)=.returned (.int k b):=by rw[h]
def I9(c:Nat):Bool:=decide (48<=c/\c<=57)
def oQ(neg:Bool)(d:ByteArray)(e:Int):Bool:=
 if d.size=0 then !neg&&decide (e=0) else
 if 1000<d.size\/e < -10000\/10000<e then false else
 (bs d).all I9&&(decide ((bs d)[0]?≠some 48)&&decide ((bs d)[d.size-1]?≠some 48))
theorem xP{neg:Bool}{d:ByteArray}{e:Int}(h:d.size=0):oQ neg d e=(!neg&&decide (e=0)):=by rw[oQ,if_pos h]
theorem rR{neg:Bool}{d:ByteArray}{e:Int}(h:d.size≠0)(h1:1000<d.size\/e < -10000\/10000<e):oQ neg d e=false:=by rw[oQ,if_neg h,if_pos h1]
theorem CS{neg:Bool}{d:ByteArray}{e:Int}{k:Nat}(h:k<d.size)(h1:¬(48<=(d[k]'h).toNat/\(d[k]'h).toNat<=57)):oQ neg d e=false:=by
 have hm:(bs d)[k]'(by rw[ay];exact h)∈bs d:=List.getElem_mem _;rw[<-yE h] at hm
 have h2:(bs d).all I9=false:=by
  rw[Bool.eq_false_iff];intro h3;have:=List.all_eq_true.1 h3 _ hm;simp only[I9,decide_eq_true_eq] at this;exact h1 this
 rw[oQ,if_neg (by omega),h2];simp
theorem CR{neg:Bool}{d:ByteArray}{e:Int}(h0:0<d.size)(h1:¬(1000<d.size\/e < -10000\/10000<e))(h:∀k (hk:k<d.size),48<=(d[k]'hk).toNat/\(d[k]'hk).toNat<=57) :
  oQ neg d e=(decide ((d[0]'h0).toNat≠48)&&decide ((d[d.size-1]'(by omega)).toNat≠48)):=by
 have h2:(bs d).all I9=true:=by
  rw[List.all_eq_true];intro x hx;obtain⟨k,hk,rfl⟩:=List.getElem_of_mem hx;rw[ay] at hk;rw[<-yE hk]
  simpa [I9] using h k hk
 rw[oQ,if_neg (by omega),if_neg h1,h2,Bool.true_and,List.getElem?_eq_getElem (by rw[ay];exact h0),List.getElem?_eq_getElem (by rw[ay];omega),<-yE h0,<-yE (by omega)];simp
theorem AY(neg:Bool)(d:ByteArray)(e:Int)(w:World)(hd:d.size<=1048576) :
  Calls Tryz.prog 180 #[.agg #[.bool neg,.string d,.int .i64 e]] w fun r w'=>r=.returned (.bool (oQ neg d e))/\Below w.heap.size w w':=by
 have Am:=aa.new w #[.bool neg,.string d,.int .i64 e] 122;have Ab:Below w.heap.size w (w.alloc (.cells #[.bool neg,.string d,.int .i64 e] 122)):=(Below.refl _ w).alloc lz _
 by_cases h0:d.size=0
 ·have hR:=Hh (xP (neg:=neg) (e:=e) h0)
  cases neg
  all_goals
   go_enter Tryz.func180,Tryz.ntmps180;go_wp2;go_ret;refine⟨?_,Ab⟩;rw[hR.out];first|rfl|(congr 2;by_cases he:e=0<;>simp[he])
 ·by_cases h1:1000<d.size\/e < -10000\/10000<e
  ·have hR:=Hh (rR (neg:=neg) h0 h1)
   have Al:1000<d.size\/(d.size<=1000/\e < -10000)\/(d.size<=1000/\-10000<=e/\10000<e):=by omega
   clear h1;have q0:((d.size:Int)==0)=false:=by rw[beq_eq_false_iff_ne];omega
   have q1:decide ((1000:Int)<(d.size:Int))=decide (1000<d.size):=by congr 1;apply propext;omega
   have q2:decide (e < -10000)=decide (e < -10000):=rfl;rcases Al with h1|⟨h1,h2⟩|⟨h1,h2,h3⟩
   all_goals
    go_enter Tryz.func180,Tryz.ntmps180;go_wp2;go_ret;refine⟨?_,Ab⟩;rw[hR.out];try rfl
  ·have H1:=Hh h1
   have h2:d.size<=1000/\-10000<=e/\e<=10000:=by omega
   clear h1;have hp:0<d.size:=by omega
   go_enter Tryz.func180,Tryz.ntmps180;go_wp2_with fail;go_loop [31] (fun i=>∃k:Nat,k<=d.size/\i=.int .i64 (k:Int)/\∀j (hj:j<d.size),j<k->48<=(d[j]'hj).toNat/\(d[j]'hj).toNat<=57) (fun i=>d.size-(intOf i).toNat)
   case atStart=>exact⟨0,Nat.zero_le _,rfl,fun j _ h=>by omega⟩
   case round=>
    obtain⟨k,hk,rfl,Aa⟩:=hrel;have HA:=Hh Aa;clear Aa;obtain⟨Ad,Ag,Ae,Ah,Af,Ai⟩:=Am.n3 rfl
    by_cases hkl:k<d.size
    ·by_cases hdg:48<=(d[k]'hkl).toNat/\(d[k]'hkl).toNat<=57
     ·have Ak:Hid (∀j (hj:j<d.size),j<k+1->48<=(d[j]'hj).toNat/\(d[j]'hj).toNat<=57):=Hh (fun j hj h=>by
       by_cases hjk:j=k
       ·subst hjk;exact hdg
       ·exact HA.out j hj (by omega))
      clear HA;go_wp2;go_round
      case rel=>exact⟨k+1,by omega,by go_num,Ak.out⟩
      case measure=>simp[intOf];omega
     ·have hR:=Hh (CS (neg:=neg) (e:=e) hkl hdg)
      have Ac:(d[k]'hkl).toNat<48\/(48<=(d[k]'hkl).toNat/\57<(d[k]'hkl).toNat):=by omega
      clear hdg;rcases Ac with hdg|hdg
      all_goals
       go_wp2;go_ret;refine⟨?_,Ab⟩;rw[hR.out];try rfl
    ·obtain rfl:k=d.size:=by omega
     have hR:=Hh (CR (neg:=neg) hp H1.out (fun j hj=>HA.out j hj hj))
     by_cases hz:(d[0]'hp).toNat=48
     ·go_wp2
      go_ret;refine⟨?_,Ab⟩;rw[hR.out];simp[hz]
     ·go_wp2
      go_ret;refine⟨?_,Ab⟩;rw[hR.out];have Aj:¬(((d[0]'hp).toNat:Int)=48):=by omega
      by_cases hy:(d[d.size-1]'(by omega)).toNat=48
      ·simp[hz,Aj,hy,bne]
      ·have An:¬(((d[d.size-1]'(by omega)).toNat:Int)=48):=by omega
       simp[hz,Aj,hy,An,bne]
end Go.Proofs.YtbcdaaobbebooaaGreatDoor
namespace Go.Proofs.YtbcdaaobbebooaaGreatDoor
abbrev Bs:=List UInt8
def dg(c:UInt8):Bool:=I9 c.toNat
def bI:Bs->Nat
 |[]=>0
 |c::l=>if dg c then bI l+1 else 0
theorem kF:∀l:Bs,bI l<=l.length
 |[]=>Nat.le_refl _
 | c::l=>by
  have:=kF l;simp only[bI,List.length_cons];split<;>omega
theorem pY:∀(a b:Bs),a.all dg=true->bI (a++b)=a.length+bI b
 |[],b,_=>by simp
 | c::a,b,h=>by
  rw[List.all_cons,Bool.and_eq_true] at h;rw[List.cons_append,bI,if_pos h.1,pY a b h.2,List.length_cons];omega
theorem qC:∀l:Bs,(l.take (bI l)).all dg=true
 |[]=>rfl
 | c::l=>by
  rw[bI];split
  ·next h=>rw[List.take_succ_cons,List.all_cons,h,qC l];rfl
  ·rfl
theorem uZ:∀(l:Bs),(∀c,l.head?=some c->dg c=false)->bI l=0
 |[],_=>rfl
 |c::l,h=>by rw[bI,h c rfl];rfl
def bX:Bs->Nat
 |[]=>0
 |p::l=>if p=46/\bI l≠0 then 1+bI l else 0
def nL:Bs->Nat
 |[]=>0
 |c::_=>if c=43\/c=45 then 1 else 0
def iZ:Bs->Nat
 |[]=>0
 |m::t=>if (m=101\/m=69)/\bI (t.drop (nL t))≠0 then 1+nL t+bI (t.drop (nL t)) else 0
def eQ:Bs->Nat
 |[]=>0
 |c::l=>if c=48 then 1 else bI (c::l)
def lY:Bs->Nat
 |[]=>0
 |c::_=>if c=45 then 1 else 0
def gz(l:Bs):Nat:=bX l+iZ (l.drop (bX l))
def df(l:Bs):Nat:=
 if eQ (l.drop (lY l))=0 then 0 else lY l+eQ (l.drop (lY l))+gz (l.drop (lY l+eQ (l.drop (lY l))))
def iy(c:UInt8):Nat:=if c=45 then 0 else if c=43 then 1 else if c=48 then 2 else if 49<=c.toNat/\c.toNat<=57 then 3 else if c=46 then 4 else if c=101\/c=69 then 5 else 6
def aP:List Nat:=[1,9,2,3,9,9,9, 9,9,2,3,9,9,9, 9,9,9,9,4,6,9, 9,9,3,3,4,6,9, 9,9,5,5,9,9,9, 9,9,5,5,9,6,9, 7,7,8,8,9,9,9, 9,9,8,8,9,9,9, 9,9,8,8,9,9,9]
def bv(st sg:Nat):Nat:=aP.getD (7*st+sg) 9
def dh(st:Nat):Bool:=st==2 || (st==3 || (st==5 || st==8))
def nZ:Nat->Nat->Nat->Bs->Nat
 |_,_,L,[]=>L
 |st,i,L,c::l=>if bv st (iy c)=9 then L else nZ (bv st (iy c)) (i+1) (if dh (bv st (iy c)) then i+1 else L) l
inductive vQ(c:UInt8):Prop
 |minus:c=45->dg c=false->iy c=0->vQ c
 |plus:c=43->dg c=false->iy c=1->vQ c
 |nought:c=48->dg c=true->iy c=2->vQ c
 |digit:dg c=true->c≠48->c≠45->c≠43->c≠46->c≠101->c≠69->iy c=3->vQ c
 |point:c=46->dg c=false->iy c=4->vQ c
 |mark:(c=101\/c=69)->c≠46->c≠45->c≠43->c≠48->dg c=false->iy c=5->vQ c
 |other:c≠45->c≠43->c≠48->dg c=false->c≠46->c≠101->c≠69->iy c=6->vQ c
theorem qR(c:UInt8):vQ c:=by
 by_cases h1:c=45
 ·subst h1;exact .minus rfl rfl rfl
 by_cases h2:c=43
 ·subst h2;exact .plus rfl rfl rfl
 by_cases h3:c=48
 ·subst h3;exact .nought rfl rfl rfl
 by_cases h4:49<=c.toNat/\c.toNat<=57
 ·refine .digit (by simp only[dg,I9,decide_eq_true_eq];omega) h3 h1 h2 ?_ ?_ ?_ (by rw[iy,if_neg h1,if_neg h2,if_neg h3,if_pos h4])<;>(rintro rfl;revert h4;decide)
 have hd:dg c=false:=by
  rw[Bool.eq_false_iff];intro h;simp only[dg,I9,decide_eq_true_eq] at h;have:c.toNat≠48:=fun e=>h3 (UInt8.toNat_inj.1 e);omega
 by_cases h5:c=46
 ·subst h5;exact .point rfl rfl rfl
 by_cases h6:c=101\/c=69
 ·exact .mark h6 h5 h1 h2 h3 hd (by rw[iy,if_neg h1,if_neg h2,if_neg h3,if_neg h4,if_neg h5,if_pos h6])
 ·exact .other h1 h2 h3 hd h5 (fun h=>h6 (.inl h)) (fun h=>h6 (.inr h)) (by rw[iy,if_neg h1,if_neg h2,if_neg h3,if_neg h4,if_neg h5,if_neg h6])
theorem gW(st i L:Nat)(c:UInt8)(l:Bs):nZ st i L (c::l)=if bv st (iy c)=9 then L else nZ (bv st (iy c)) (i+1) (if dh (bv st (iy c)) then i+1 else L) l:=rfl
theorem Lu:∀(l:Bs) (i:Nat),nZ 8 i i l=i+bI l
 |[],i=>rfl
 | c::l,i=>by
  have ih:=Lu l (i+1);rw[gW,bI];cases qR c<;>simp_all [bv,aP,dh]<;>omega
theorem OT(l:Bs)(i L:Nat):nZ 7 i L l=if bI l=0 then L else i+bI l:=by
 cases l with
 |nil=>rfl
 |cons c l=>
  have ih:=Lu l (i+1);rw[gW,bI];cases qR c<;>simp_all [bv,aP,dh]<;>omega
theorem Lv(m:UInt8)(l:Bs)(i:Nat)(hm:m=101\/m=69):nZ 6 (i+1) i l=i+iZ (m::l):=by
 rw[iZ];simp only[hm,true_and]
 cases l with
 |nil=>rfl
 |cons c l=>
  have ih:=Lu l (i+2);have i7:=OT l (i+2) i;rw[gW,nL]
  cases qR c with
  | minus h h2 h3=>
   subst h;simp[bv,aP,dh,h3,i7]
   split<;>omega
  |plus h h2 h3=>
   subst h;simp[bv,aP,dh,h3,i7]
   split<;>omega
  |nought h h2 h3=>
   subst h;simp[bv,aP,dh,h3,ih,bI,h2]
   omega
  |digit h h1 h2 h4 h5 h6 h7 h3=>
   simp[bv,aP,dh,h3,ih,bI,h,h2,h4]
   omega
  |point h h2 h3=>
   subst h;simp[bv,aP,h3,bI,h2]
  |mark h h1 h2 h4 h5 h6 h3=>
   simp[bv,aP,h3,bI,h2,h4,h6]
  |other h h1 h2 h4 h5 h6 h7 h3=>
   simp[bv,aP,h3,bI,h,h1,h4]
theorem Nj:∀(l:Bs) (i:Nat),nZ 5 i i l=i+bI l+iZ (l.drop (bI l))
 |[],i=>rfl
 | c::l,i=>by
  have ih:=Nj l (i+1);have i6:=Lv c l i;rw[gW,bI]
  cases qR c with
  |minus h h2 h3=>subst h;simp[bv,aP,h3,h2,iZ]
  |plus h h2 h3=>subst h;simp[bv,aP,h3,h2,iZ]
  |nought h h2 h3=>subst h;simp[bv,aP,dh,h3,h2,ih];omega
  |digit h h1 h2 h4 h5 h6 h7 h3=>simp[bv,aP,dh,h3,h,ih];omega
  |point h h2 h3=>subst h;simp[bv,aP,h3,h2,iZ]
  |mark h h1 h2 h4 h5 h6 h3=>simp[bv,aP,dh,h3,h6,i6 h]
  |other h h1 h2 h4 h5 h6 h7 h3=>simp[bv,aP,h3,h4,iZ,h6,h7]
theorem Nk(l:Bs)(i:Nat):nZ 4 (i+1) i l=i+gz (46::l):=by
 cases l with
 |nil=>rfl
 |cons c l=>
  have ih:=Nj l (i+2);rw[gW,gz,bX,bI];have hp:∀x,iZ (46::x)=0:=fun x=>by simp[iZ]
  cases qR c with
  |minus h h2 h3=>subst h;simp[bv,aP,h3,h2,hp]
  |plus h h2 h3=>subst h;simp[bv,aP,h3,h2,hp]
  |nought h h2 h3=>subst h;simp[bv,aP,dh,h3,h2,ih,Nat.add_comm 1];omega
  |digit h h1 h2 h4 h5 h6 h7 h3=>simp[bv,aP,dh,h3,h,ih,Nat.add_comm 1];omega
  |point h h2 h3=>subst h;simp[bv,aP,h3,h2,hp]
  |mark h h1 h2 h4 h5 h6 h3=>simp[bv,aP,h3,h6,hp]
  |other h h1 h2 h4 h5 h6 h7 h3=>simp[bv,aP,h3,h4,hp]
theorem Nl(l:Bs)(i:Nat):nZ 2 i i l=i+gz l:=by
 cases l with
 |nil=>rfl
 |cons c l=>
  have i4:=Nk l i;have i6:=Lv c l i;rw[gW]
  cases qR c with
  |minus h h2 h3=>subst h;simp[bv,aP,h3,gz,bX,iZ]
  |plus h h2 h3=>subst h;simp[bv,aP,h3,gz,bX,iZ]
  |nought h h2 h3=>subst h;simp[bv,aP,h3,gz,bX,iZ]
  |digit h h1 h2 h4 h5 h6 h7 h3=>simp[bv,aP,h3,gz,bX,iZ,h5,h6,h7]
  |point h h2 h3=>subst h;simp[bv,aP,dh,h3,i4]
  |mark h h1 h2 h4 h5 h6 h3=>simp[bv,aP,dh,h3,i6 h,gz,bX,h1]
  |other h h1 h2 h4 h5 h6 h7 h3=>simp[bv,aP,h3,gz,bX,iZ,h5,h6,h7]
theorem Lx:∀(l:Bs) (i:Nat),nZ 3 i i l=i+bI l+gz (l.drop (bI l))
 |[],i=>rfl
 | c::l,i=>by
  have ih:=Lx l (i+1);have i4:=Nk l i;have i6:=Lv c l i;rw[gW,bI]
  cases qR c with
  |minus h h2 h3=>subst h;simp[bv,aP,h3,h2,gz,bX,iZ]
  |plus h h2 h3=>subst h;simp[bv,aP,h3,h2,gz,bX,iZ]
  |nought h h2 h3=>subst h;simp[bv,aP,dh,h3,h2,ih];omega
  |digit h h1 h2 h4 h5 h6 h7 h3=>simp[bv,aP,dh,h3,h,ih];omega
  |point h h2 h3=>subst h;simp[bv,aP,dh,h3,h2,i4]
  |mark h h1 h2 h4 h5 h6 h3=>simp[bv,aP,dh,h3,i6 h,gz,bX,h1,h6]
  |other h h1 h2 h4 h5 h6 h7 h3=>simp[bv,aP,h3,h4,gz,bX,iZ,h5,h6,h7]
theorem OU(l:Bs)(i:Nat):nZ 1 i 0 l=if eQ l=0 then 0 else i+eQ l+gz (l.drop (eQ l)):=by
 cases l with
 |nil=>rfl
 |cons c l=>
  have i2:=Nl l (i+1);have i3:=Lx l (i+1);rw[gW,eQ]
  cases qR c with
  |minus h h2 h3=>subst h;simp[bv,aP,h3,h2,bI]
  |plus h h2 h3=>subst h;simp[bv,aP,h3,h2,bI]
  |nought h h2 h3=>subst h;simp[bv,aP,dh,h3,i2]
  |digit h h1 h2 h4 h5 h6 h7 h3=>simp[bv,aP,dh,h3,h,i3,h1,bI];omega
  |point h h2 h3=>subst h;simp[bv,aP,h3,h2,bI]
  |mark h h1 h2 h4 h5 h6 h3=>simp[bv,aP,h3,h5,h6,bI]
  |other h h1 h2 h4 h5 h6 h7 h3=>simp[bv,aP,h3,h2,h4,bI]
theorem Jf(l:Bs):nZ 0 0 0 l=df l:=by
 cases l with
 |nil=>rfl
 |cons c l=>
  have i1:=OU l 1;have i2:=Nl l 1;have i3:=Lx l 1;rw[gW,df,lY]
  cases qR c with
  |minus h h2 h3=>subst h;simp[bv,aP,dh,h3,i1,Nat.add_comm 1,Nat.add_assoc]
  |plus h h2 h3=>subst h;simp[bv,aP,h3,h2,eQ,bI]
  |nought h h2 h3=>subst h;simp[bv,aP,dh,h3,i2,eQ]
  |digit h h1 h2 h4 h5 h6 h7 h3=>simp[bv,aP,dh,h3,h,i3,h1,h2,bI,eQ];omega
  |point h h2 h3=>subst h;simp[bv,aP,h3,h2,eQ,bI]
  |mark h h1 h2 h4 h5 h6 h3=>simp[bv,aP,h3,h5,h6,h2,eQ,bI]
  |other h h1 h2 h4 h5 h6 h7 h3=>simp[bv,aP,h3,h,h2,h4,eQ,bI]
end Go.Proofs.YtbcdaaobbebooaaGreatDoor
namespace Go.Proofs.YtbcdaaobbebooaaGreatDoor
structure bq(l:Bs)(neg:Bool)(ip fr mk sg pw:Bs):Prop where
 eq:l=(if neg then [45] else [])++(ip++((if fr=[] then [] else 46::fr)++(mk++(sg++pw))))
 dip:ip.all dg=true
 dfr:fr.all dg=true
 dpw:pw.all dg=true
 ip0:ip≠[]
 lead:ip.head?=some 48->ip.length=1
 exp:(mk=[]/\sg=[]/\pw=[])\/((mk=[101]\/mk=[69])/\(sg=[]\/sg=[43]\/sg=[45])/\pw≠[])
theorem p9{l:Bs}(h:l.all dg=true){c:UInt8}(hc:l.head?=some c):dg c=true:=by
 cases l with
 |nil=>simp at hc
 |cons a l=>simp at hc;subst hc;rw[List.all_cons,Bool.and_eq_true] at h;exact h.1
theorem qZ{c:UInt8}(h:dg c=true):48<=c.toNat/\c.toNat<=57:=by simpa [dg,I9] using h
theorem qY{c:UInt8}(h:dg c=true){d:UInt8}(hd:dg d=false):c≠d:=by rintro rfl;rw[h] at hd;cases hd
theorem Lf(l:Bs)(h:l.all dg=true):bI l=l.length:=by
 have:=pY l [] h;rw[List.append_nil] at this;rw[this];rfl
theorem oC{l:Bs}(h:l≠[]):l.length≠0:=fun e=>h (List.eq_nil_of_length_eq_zero e)
section
variable {l:Bs} {neg:Bool} {ip fr mk sg pw:Bs}
theorem bq.pow(h:bq l neg ip fr mk sg pw):iZ (mk++(sg++pw))=(mk++(sg++pw)).length:=by
 rcases h.exp with ⟨rfl,rfl,rfl⟩|⟨hm,hs,hp⟩
 ·rfl
 ·have hl:bI pw=pw.length:=Lf pw h.dpw
  have Ab:=oC hp
  have hh:sg=[]->nL pw=0:=fun _=>by
   cases pw with
   |nil=>exact absurd rfl hp
   |cons c p=>
    have hc:=p9 h.dpw (c:=c) rfl;rw[nL,if_neg];intro e;rcases e with rfl|rfl<;>revert hc<;>decide
  have Aa:nL (sg++pw)=sg.length/\(sg++pw).drop (nL (sg++pw))=pw:=by
   rcases hs with rfl|rfl|rfl
   ·rw[List.nil_append,hh rfl];exact⟨rfl,rfl⟩
   ·exact⟨rfl,rfl⟩
   ·exact⟨rfl,rfl⟩
  have Ac:∃m,mk=[m]/\(m=101\/m=69):=by rcases hm with rfl|rfl<;>simp
  obtain⟨m,rfl,Ad⟩:=Ac;rw[List.singleton_append,iZ,Aa.2,hl,if_pos ⟨Ad,Ab⟩,Aa.1,List.length_cons,List.length_append];omega
theorem bq.pow_head(h:bq l neg ip fr mk sg pw){c:UInt8}(hc:(mk++(sg++pw)).head?=some c):dg c=false/\c≠46:=by
 rcases h.exp with ⟨rfl,rfl,rfl⟩|⟨hm,hs,hp⟩
 ·simp at hc
 ·rcases hm with rfl|rfl<;>(simp at hc;subst hc;decide)
theorem bq.tail(h:bq l neg ip fr mk sg pw):gz ((if fr=[] then [] else 46::fr)++(mk++(sg++pw)))=((if fr=[] then [] else 46::fr)++(mk++(sg++pw))).length:=by
 have hp:=h.pow;have hh:=fun c=>h.pow_head (c:=c);generalize mk++(sg++pw)=r at hp hh ⊢
 by_cases hf:fr=[]
 ·rw[if_pos hf,List.nil_append,gz]
  have:bX r=0:=by
   cases r with
   |nil=>rfl
   |cons c r=>rw[bX,if_neg];intro e;exact (hh c rfl).2 e.1
  rw[this,List.drop_zero,hp,Nat.zero_add]
 ·rw[if_neg hf,gz,List.cons_append]
  have hd:bI (fr++r)=fr.length:=by rw[pY _ _ h.dfr,uZ r (fun c hc=>(hh c hc).1)];rfl
  have:bX (46::(fr++r))=1+fr.length:=by
   rw[bX,hd,if_pos ⟨rfl,oC hf⟩]
  rw[this,Nat.add_comm 1,List.drop_succ_cons,List.drop_left,hp,List.length_cons,List.length_append];omega
theorem bq.int(h:bq l neg ip fr mk sg pw):eQ (ip++((if fr=[] then [] else 46::fr)++(mk++(sg++pw))))=ip.length:=by
 have hr:∀c,((if fr=[] then [] else 46::fr)++(mk++(sg++pw))).head?=some c->dg c=false:=by
  intro c hc
  by_cases hf:fr=[]
  ·rw[if_pos hf,List.nil_append] at hc;exact (h.pow_head hc).1
  ·rw[if_neg hf] at hc;simp at hc;subst hc;decide
 generalize (if fr=[] then [] else 46::fr)++(mk++(sg++pw))=r at hr;have hi:=h.ip0;have hl:=h.lead;have hd:=h.dip;have hx:bI (ip++r)=ip.length:=by rw[pY _ _ hd,uZ r hr];rfl
 cases ip with
 |nil=>exact absurd rfl hi
 |cons c p=>
  rw[List.cons_append,eQ];split
  ·next e=>subst e;exact (hl rfl).symm
  ·rw[<-List.cons_append,hx]
theorem bq.mn(h:bq l neg ip fr mk sg pw):lY l=(if neg then 1 else 0)/\l.drop (lY l)=ip++((if fr=[] then [] else 46::fr)++(mk++(sg++pw))):=by
 have he:=h.eq;have hi:=h.ip0;have hd:=h.dip;generalize (if fr=[] then [] else 46::fr)++(mk++(sg++pw))=r at he
 cases neg with
 |true=>subst he;exact⟨rfl,rfl⟩
 |false=>
  subst he
  have:lY (ip++r)=0:=by
   cases ip with
   |nil=>exact absurd rfl hi
   |cons c p=>
    have hc:=p9 hd (c:=c) rfl;rw[List.cons_append,lY,if_neg];rintro rfl
    revert hc;decide
  refine⟨?_,?_⟩
  ·simpa using this
  ·show (ip++r).drop (lY (ip++r))=_
   rw[this];rfl
theorem bq.scan(h:bq l neg ip fr mk sg pw):df l=l.length/\l≠[]:=by
 have hi:=oC h.ip0;have hm:=h.mn
 have hl:l.length=lY l+(l.drop (lY l)).length:=by
  have:=congrArg List.length h.eq;rw[hm.2,hm.1,this,List.length_append];cases neg<;>rfl
 refine⟨?_,fun e=>by subst e;have:=h.eq;cases neg<;>simp at this;exact h.ip0 this.1⟩;rw[hm.2,List.length_append] at hl;rw[df,hm.2,h.int,if_neg hi,<-List.drop_drop,hm.2,List.drop_left,h.tail,hl];omega
end
theorem Ir(l:Bs)(h:iZ l=l.length):∃mk sg pw,l=mk++(sg++pw)/\pw.all dg=true/\((mk=[]/\sg=[]/\pw=[])\/((mk=[101]\/mk=[69])/\(sg=[]\/sg=[43]\/sg=[45])/\pw≠[])):=by
 cases l with
 |nil=>exact⟨[],[],[],rfl,rfl,.inl ⟨rfl,rfl,rfl⟩⟩
 |cons m t=>
  rw[iZ] at h;split at h
  ·next hc=>
   obtain⟨hm,hd⟩:=hc;rw[List.length_cons] at h
   have hs:nL t<=t.length:=by
    cases t with
    |nil=>exact Nat.le_refl _
    |cons c t=>rw[nL];split<;>simp
   have hl:(t.drop (nL t)).length=t.length-nL t:=by simp
   have Aa:(t.drop (nL t)).all dg=true:=by
    have:=qC (t.drop (nL t));rw[show bI (t.drop (nL t))=(t.drop (nL t)).length by omega,List.take_length] at this;exact this
   refine⟨[m],t.take (nL t),t.drop (nL t),by rw[List.take_append_drop];rfl,Aa,.inr ⟨by rcases hm with rfl|rfl<;>simp,?_,fun e=>hd (by rw[e];rfl)⟩⟩
   cases t with
   |nil=>exact .inl rfl
   |cons c t=>
    rw[nL];split
    ·next hc=>rcases hc with rfl|rfl<;>simp
    ·simp
  ·simp at h
theorem Fb(l:Bs):∃fr,l.take (bX l)=(if fr=[] then [] else 46::fr)/\fr.all dg=true:=by
 cases l with
 |nil=>exact⟨[],rfl,rfl⟩
 |cons p l=>
  rw[bX];split
  ·next h=>
   obtain⟨rfl,hd⟩:=h
   have Aa:l.take (bI l)≠[]:=by
    intro e;have h1:=congrArg List.length e;have h2:=kF l;rw[List.length_take,Nat.min_eq_left h2] at h1;exact hd (by simpa using h1)
   exact⟨l.take (bI l),by rw[if_neg Aa,Nat.add_comm 1,List.take_succ_cons],qC l⟩
  ·exact⟨[],rfl,rfl⟩
theorem qV(l:Bs)(h:df l=l.length)(h0:l≠[]):∃neg ip fr mk sg pw,bq l neg ip fr mk sg pw:=by
 rw[df] at h;have Ah:=oC h0;split at h
 ·omega
 ·next hi=>
  have Ai:lY l<=l.length:=by
   cases l with
   |nil=>exact Nat.le_refl _
   |cons c l=>rw[lY];split<;>simp
  have Ad:∀l:Bs,eQ l<=l.length:=by
   intro l
   cases l with
   |nil=>exact Nat.le_refl _
   |cons c l=>rw[eQ];split;(· simp);(· exact kF _)
  have Af:=Ad (l.drop (lY l));rw[<-List.drop_drop] at h;have e1:l=l.take (lY l)++l.drop (lY l):=(List.take_append_drop _ _).symm
  have e2:l.take (lY l)=(if decide (lY l=1) then [45] else []):=by
   cases l with
   |nil=>rfl
   |cons c l=>
    rw[lY];split
    ·next e=>subst e;rfl
    ·rfl
  have Ae:(l.drop (lY l)).length=l.length-lY l:=by simp
  generalize l.drop (lY l)=a at *;have e3:a=a.take (eQ a)++a.drop (eQ a):=(List.take_append_drop _ _).symm;have Aa:(a.drop (eQ a)).length=a.length-eQ a:=by simp
  have d3:(a.take (eQ a)).all dg=true/\(a.take (eQ a)≠[])/\((a.take (eQ a)).head?=some 48->(a.take (eQ a)).length=1):=by
   cases a with
   |nil=>exact absurd rfl hi
   |cons c a=>
    rw[eQ] at hi ⊢;split
    ·next e=>subst e;exact⟨rfl,by simp,fun _=>rfl⟩
    ·next e=>
     rw[if_neg e] at hi;refine⟨qC _,fun e2=>?_,fun e2=>?_⟩
     ·have h1:=congrArg List.length e2
      have h2:=kF (c::a);rw[List.length_take,Nat.min_eq_left h2] at h1;exact hi (by simpa using h1)
     ·have:∃k,bI (c::a)=k+1:=⟨bI (c::a)-1,by omega⟩
      obtain⟨k,hk⟩:=this;rw[hk,List.take_succ_cons] at e2;simp at e2
      exact absurd e2 e
  generalize a.take (eQ a)=ip at *;generalize a.drop (eQ a)=b at *;have hb:gz b=b.length:=by omega
  rw[gz] at hb;have e4:b=b.take (bX b)++b.drop (bX b):=(List.take_append_drop _ _).symm;obtain⟨fr,hf,Ac⟩:=Fb b
  have Ag:bX b<=b.length:=by
   cases b with
   |nil=>exact Nat.le_refl _
   |cons c b=>rw[bX];have:=kF b;split<;>simp;omega
  have Ab:(b.drop (bX b)).length=b.length-bX b:=by simp
  obtain⟨mk,sg,pw,h5,h6,h7⟩:=Ir (b.drop (bX b)) (by omega);refine⟨decide (lY l=1),ip,fr,mk,sg,pw,⟨?_,d3.1,Ac,h6,d3.2.1,d3.2.2,h7⟩⟩;rw[<-h5,<-hf,<-e4,<-e3,<-e2];exact e1
def iV(ip fr:Bs):Bs:=Lib.trimLeftB (ip++fr) 48
def gM(ip fr:Bs):Bs:=Lib.trimRightB (iV ip fr) 48
def BL(ip fr:Bs)(p:Int):Int:=p-fr.length+((iV ip fr).length-(gM ip fr).length:Nat)
def gI(neg:Bool)(ip fr:Bs)(p:Int):(Bool×Bs×Int)×Int:=
 if gM ip fr=[] then ((false,[],0),0) else if oQ neg ⟨(gM ip fr).toArray⟩ (BL ip fr p) then ((neg,gM ip fr,BL ip fr p),0) else ((false,[],0),4)
def jV(n:Nat)(c:UInt8):Nat:=min (n*10+(c.toNat-48)) 1099511627776
def qL(n:Nat)(c:UInt8):Nat:=if n<1000000000 then n*10+(c.toNat-48) else n
def NB(sg:Bs)(n:Nat):Int:=if sg=[45] then -(n:Int) else n
def oq(sg pw:Bs):Int:=NB sg (pw.foldl jV 0)
def vU(sg pw:Bs):Int:=NB sg (pw.foldl qL 0)
theorem CF:∀(pw:Bs) (a b:Nat),pw.all dg=true->(a=b/\a<1000000000\/1000000000<=a/\1000000000<=b)->(pw.foldl jV a=pw.foldl qL b/\pw.foldl jV a<1000000000\/1000000000<=pw.foldl jV a/\1000000000<=pw.foldl qL b)
 |[],_,_,_,h=>h
 | c::pw,a,b,hd,h=>by
  rw[List.all_cons,Bool.and_eq_true] at hd;have hc:=qZ hd.1;rw[List.foldl_cons,List.foldl_cons];refine CF pw _ _ hd.2 ?_;unfold jV qL;rcases h with ⟨rfl,h⟩|⟨h1,h2⟩
  ·rw[if_pos h];omega
  ·rw[if_neg (by omega)];omega
theorem BN(l:Bs):(Lib.trimRightB l 48).length<=l.length:=by
 rw[Lib.trimRightB,List.length_reverse];have:=(List.dropWhile_sublist (fun x=>x==(48:UInt8)) (l:=l.reverse)).length_le
 simpa using this
theorem wQ(l:Bs):(Lib.trimLeftB l 48).length<=l.length:=(List.dropWhile_sublist _).length_le
theorem Kw{neg:Bool}{d:ByteArray}{e:Int}(h0:d.size≠0)(h:e < -10000\/10000<e):oQ neg d e=false:=rR h0 (.inr h)
theorem CQ(neg:Bool)(ip fr sg pw:Bs)(hd:pw.all dg=true)(hl:ip.length+fr.length<=100000000):gI neg ip fr (oq sg pw)=gI neg ip fr (vU sg pw):=by
 rcases CF pw 0 0 hd (.inl ⟨rfl,by omega⟩) with ⟨h,_⟩|⟨h1,h2⟩
 ·rw[oq,vU,h]
 ·unfold gI
  by_cases hc:gM ip fr=[]
  ·rw[if_pos hc,if_pos hc]
  ·have h3:(iV ip fr).length<=ip.length+fr.length:=by rw[<-List.length_append];exact wQ _
   have hz:(⟨(gM ip fr).toArray⟩:ByteArray).size≠0:=by
    show (gM ip fr).toArray.size≠0
    simpa using hc
   have f:∀n:Nat,1000000000<=n->oQ neg ⟨(gM ip fr).toArray⟩ (BL ip fr (NB sg n))=false:=by
    intro n hn;refine Kw hz ?_;unfold BL NB;split<;>omega
   rw[if_neg hc,if_neg hc,oq,vU,f _ h1,f _ h2];rfl
end Go.Proofs.YtbcdaaobbebooaaGreatDoor
namespace Go.Proofs.YtbcdaaobbebooaaGreatDoor
def jW(c:Nat):Bool:=decide (c<=1114111)&&(decide (c<55296) || decide (57343<c))
def qi(c:Nat):Nat:=if c<128 then 1 else if c<2048 then 2 else if c<65536 then 3 else 4
def fu(c:Nat):List Nat:=
 if c<128 then [c] else if c<2048 then [192+c / 64,128+c % 64] else if c<65536 then [224+c / 4096,128+c / 64 % 64,128+c % 64]
 else [240+c / 262144,128+c / 4096 % 64,128+c / 64 % 64,128+c % 64]
def gG(c:Nat):List UInt8:=(fu c).map UInt8.ofNat
theorem jB(c:Nat):(gG c).length=qi c:=by
 unfold gG fu qi;split
 ·rfl
 split
 ·rfl
 split<;>rfl
def dU(b:Nat):Nat:=if b<128 then 1 else if b<192 then 0 else if b<224 then 2 else if b<240 then 3 else if b<248 then 4 else 0
def aD:List Nat->Nat×Nat
 |[]=>(0,0)
 |a::r=>
  if a<128 then (a,1)
  else if a<192 then (0,0)
  else if a<224 then match r with
   |b::_=>if b / 64=2/\128<=(a-192)*64+(b-128) then ((a-192)*64+(b-128),2) else (0,0)
   |_=>(0,0)
  else if a<240 then match r with
   |b::c::_=>if b / 64=2/\c / 64=2/\2048<=((a-224)*64+(b-128))*64+(c-128)/\jW (((a-224)*64+(b-128))*64+(c-128)) then (((a-224)*64+(b-128))*64+(c-128),3) else (0,0)
   |_=>(0,0)
  else if a<248 then match r with
   |b::c::d::_=>if b / 64=2/\c / 64=2/\d / 64=2/\65536<=(((a-240)*64+(b-128))*64+(c-128))*64+(d-128)/\jW ((((a-240)*64+(b-128))*64+(c-128))*64+(d-128)) then ((((a-240)*64+(b-128))*64+(c-128))*64+(d-128),4) else (0,0)
   |_=>(0,0)
  else (0,0)
theorem bZ{c:Nat}:jW c=true↔c<=1114111/\(c<55296\/57343<c):=by simp[jW]
theorem tN{c:Nat}(h:jW c=true)(more:List Nat):aD (fu c++more)=(c,qi c):=by
 rw[bZ] at h;unfold fu qi
 by_cases h1:c<128
 ·simp[h1,aD]
 by_cases h2:c<2048
 ·rw[if_neg h1,if_pos h2,if_neg h1,if_pos h2]
  simp only[List.cons_append,List.nil_append,aD];rw[if_neg (by omega),if_neg (by omega),if_pos (by omega),if_pos (by omega)];exact congrArg (fun x=>(x,2)) (by omega)
 by_cases h3:c<65536
 ·rw[if_neg h1,if_neg h2,if_pos h3,if_neg h1,if_neg h2,if_pos h3]
  simp only[List.cons_append,List.nil_append,aD,bZ];rw[if_neg (by omega),if_neg (by omega),if_neg (by omega),if_pos (by omega),if_pos (by omega)];exact congrArg (fun x=>(x,3)) (by omega)
 ·rw[if_neg h1,if_neg h2,if_neg h3,if_neg h1,if_neg h2,if_neg h3]
  simp only[List.cons_append,List.nil_append,aD,bZ];rw[if_neg (by omega),if_neg (by omega),if_neg (by omega),if_neg (by omega),if_pos (by omega),if_pos (by omega)];exact congrArg (fun x=>(x,4)) (by omega)
theorem iY{l:List Nat}{c n:Nat}(hl:∀x∈l,x<256)(h:aD l=(c,n))(hn:n≠0):jW c=true/\qi c=n/\fu c=l.take n/\n<=l.length:=by
 match l with
 |[]=>simp[aD] at h;omega
 |a::r=>
  have ha:=hl a (by simp);simp only[aD] at h
  by_cases h1:a<128
  ·rw[if_pos h1] at h
   simp only[Prod.mk.injEq] at h;obtain⟨rfl,rfl⟩:=h;rw[bZ];simp[qi,fu,h1];omega
  rw[if_neg h1] at h
  by_cases h2:a<192
  ·rw[if_pos h2] at h;simp at h;omega
  rw[if_neg h2] at h
  by_cases h3:a<224
  ·rw[if_pos h3] at h
   match r with
   |[]=>simp at h;omega
   |b::r'=>
    simp only at h
    by_cases hc:b / 64=2/\128<=(a-192)*64+(b-128)
    ·rw[if_pos hc] at h
     simp only[Prod.mk.injEq] at h;obtain⟨h5,rfl⟩:=h;have Ab:c<2048:=by omega
     have Aa:¬c<128:=by omega
     rw[bZ];refine⟨by omega,by simp[qi,Aa,Ab],?_,by simp⟩;simp only[fu,if_neg Aa,if_pos Ab,List.take_succ_cons,List.take_zero,List.cons.injEq,and_true];omega
    ·rw[if_neg hc] at h;simp at h;omega
  rw[if_neg h3] at h
  by_cases h4:a<240
  ·rw[if_pos h4] at h
   match r with
   |[]=>simp at h;omega
   |[b]=>simp at h;omega
   |b::d::r'=>
    simp only[bZ] at h
    by_cases hc:b / 64=2/\d / 64=2/\2048<=((a-224)*64+(b-128))*64+(d-128)/\((a-224)*64+(b-128))*64+(d-128)<=1114111/\(((a-224)*64+(b-128))*64+(d-128)<55296\/57343<((a-224)*64+(b-128))*64+(d-128))
    ·rw[if_pos hc] at h
     simp only[Prod.mk.injEq] at h;obtain⟨h5,rfl⟩:=h;have Ac:c<65536:=by omega
     have Ab:¬c<2048:=by omega
     have Aa:¬c<128:=by omega
     rw[bZ];refine⟨by omega,by simp[qi,Aa,Ab,Ac],?_,by simp⟩;simp only[fu,if_neg Aa,if_neg Ab,if_pos Ac,List.take_succ_cons,List.take_zero,List.cons.injEq,and_true];omega
    ·rw[if_neg hc] at h;simp at h;omega
  rw[if_neg h4] at h
  by_cases h5:a<248
  ·rw[if_pos h5] at h
   match r with
   |[]=>simp at h;omega
   |[b]=>simp at h;omega
   |[b,d]=>simp at h;omega
   |b::d::f::r'=>
    simp only[bZ] at h
    by_cases hc:b / 64=2/\d / 64=2/\f / 64=2/\65536<=(((a-240)*64+(b-128))*64+(d-128))*64+(f-128)/\(((a-240)*64+(b-128))*64+(d-128))*64+(f-128)<=1114111/\((((a-240)*64+(b-128))*64+(d-128))*64+(f-128)<55296\/57343<(((a-240)*64+(b-128))*64+(d-128))*64+(f-128))
    ·rw[if_pos hc] at h
     simp only[Prod.mk.injEq] at h;obtain⟨h6,rfl⟩:=h;have Ac:¬c<65536:=by omega
     have Ab:¬c<2048:=by omega
     have Aa:¬c<128:=by omega
     rw[bZ];refine⟨by omega,by simp[qi,Aa,Ab,Ac],?_,by simp⟩;simp only[fu,if_neg Aa,if_neg Ab,if_neg Ac,List.take_succ_cons,List.take_zero,List.cons.injEq,and_true];omega
    ·rw[if_neg hc] at h;simp at h;omega
  ·rw[if_neg h5] at h;simp at h;omega
theorem IB{l:List Nat}{c n:Nat}(hl:∀x∈l,x<256)(h:aD l=(c,n))(hn:n≠0)(m:List Nat):aD (l++m)=(c,n):=by
 obtain⟨h1,h2,h3,h4⟩:=iY hl h hn;have e:l++m=fu c++(l.drop n++m):=by rw[h3,<-List.append_assoc,List.take_append_drop]
 rw[e,tN h1,h2]
theorem pI(c:Nat):(fu c).length=qi c:=by rw[<-jB];simp[gG]
theorem oh(c:Nat):1<=qi c/\qi c<=4:=by
 unfold qi;split
 ·omega
 split
 ·omega
 split<;>omega
theorem jS(l:List Nat)(hl:∀x∈l,x<256):(aD l).2<=l.length/\(aD l).2<=4:=by
 obtain⟨c,n,h⟩:∃c n,aD l=(c,n):=⟨_,_,rfl⟩;rw[h]
 by_cases hn:n=0
 ·subst hn;simp
 ·obtain⟨_,h2,_,h4⟩:=iY hl h hn
  have:=oh c;exact⟨h4,by simp only;omega⟩
theorem zO{l:List Nat}{c n:Nat}(h:aD l=(c,n))(hn:n=0):c=0:=by
 subst hn;unfold aD at h;repeat' (first|(simp only[Prod.mk.injEq] at h;omega)|split at h)
def qK(c:Nat):List Nat->Option Nat
 |[]=>some c
 |b::r=>if b / 64=2 then qK (c*64+b % 64) r else none
def jw(a n:Nat):Nat:=if n=2 then a % 32 else if n=3 then a % 16 else a % 8
theorem IC{a n:Nat}{r:List Nat}(hb:∀x∈a::r,x<256)(hn:dU a=n)(h2:2<=n) :
  aD (a::r)=if r.length<n-1 then (0,0) else match qK (jw a n) (r.take (n-1)) with
   |none=>(0,0)
   |some C=>if jW C=true/\qi C=n then (C,n) else (0,0):=by
 unfold dU at hn
 by_cases h1:a<128
 ·rw[if_pos h1] at hn;omega
 rw[if_neg h1] at hn
 by_cases h3:a<192
 ·rw[if_pos h3] at hn;omega
 rw[if_neg h3] at hn
 have w2:∀C,C<2048->((jW C=true/\qi C=2)↔128<=C):=by
  intro C hC;rw[bZ];unfold qi
  by_cases h:C<128
  ·simp[h]
  ·simp[h,hC];omega
 have w3:∀C,C<65536->((jW C=true/\qi C=3)↔(2048<=C/\jW C=true)):=by
  intro C hC;unfold qi
  by_cases h:C<128
  ·simp[h];omega
  ·by_cases h':C<2048
   ·simp[h,h'];omega
   ·simp[h,h',hC];omega
 have w4:∀C,((jW C=true/\qi C=4)↔(65536<=C/\jW C=true)):=by
  intro C;unfold qi
  by_cases h:C<128
  ·simp[h];omega
  ·by_cases h':C<2048
   ·simp[h,h'];omega
   ·by_cases h'':C<65536
    ·simp[h,h',h''];omega
    ·simp[h,h',h''];omega
 by_cases h4:a<224
 ·rw[if_pos h4] at hn
  subst hn;simp only[aD,if_neg h1,if_neg h3,if_pos h4]
  match r with
  |[]=>simp
  |b::r'=>
   have Aa:=hb b (by simp)
   by_cases hc:b / 64=2
   ·have e:jw a 2*64+b % 64=(a-192)*64+(b-128):=by simp[jw];omega
    simp only[List.take_succ_cons,List.take_zero,qK,hc,if_true,true_and,e,List.length_cons];rw[if_neg (show ¬(r'.length+1<2-1) by omega)];simp only[w2 _ (show (a-192)*64+(b-128)<2048 by omega)]
   ·simp[qK,hc]
 rw[if_neg h4] at hn
 by_cases h5:a<240
 ·rw[if_pos h5] at hn
  subst hn;simp only[aD,if_neg h1,if_neg h3,if_neg h4,if_pos h5]
  match r with
  |[]=>simp
  |[b]=>simp
  |b::d::r'=>
   have Aa:=hb b (by simp);have Ab:=hb d (by simp)
   by_cases hc:b / 64=2
   ·by_cases hd:d / 64=2
    ·have e:(jw a 3*64+b % 64)*64+d % 64=((a-224)*64+(b-128))*64+(d-128):=by simp[jw];omega
     simp only[List.take_succ_cons,List.take_zero,qK,hc,hd,if_true,true_and,e,List.length_cons];rw[if_neg (show ¬(r'.length+1+1<3-1) by omega)];simp only[w3 _ (show ((a-224)*64+(b-128))*64+(d-128)<65536 by omega)]
    ·simp[qK,hc,hd]
   ·simp[qK,hc]
 rw[if_neg h5] at hn
 by_cases h6:a<248
 ·rw[if_pos h6] at hn
  subst hn;simp only[aD,if_neg h1,if_neg h3,if_neg h4,if_neg h5,if_pos h6]
  match r with
  |[]=>simp
  |[b]=>simp
  |[b,d]=>simp
  |b::d::f::r'=>
   have Aa:=hb b (by simp);have Ab:=hb d (by simp);have Ac:=hb f (by simp)
   by_cases hc:b / 64=2
   ·by_cases hd:d / 64=2
    ·by_cases hf:f / 64=2
     ·have e:((jw a 4*64+b % 64)*64+d % 64)*64+f % 64=(((a-240)*64+(b-128))*64+(d-128))*64+(f-128):=by simp[jw];omega
      simp only[List.take_succ_cons,List.take_zero,qK,hc,hd,hf,if_true,true_and,e,List.length_cons];rw[if_neg (show ¬(r'.length+1+1+1<4-1) by omega)];simp only[w4]
     ·simp[qK,hc,hd,hf]
    ·simp[qK,hc,hd]
   ·simp[qK,hc]
 ·rw[if_neg h6] at hn;omega
theorem yU(a:Nat):dU a=0\/dU a=1\/dU a=2\/dU a=3\/dU a=4:=by
 unfold dU;repeat' (first|omega|split)
theorem IA{a:Nat}{r:List Nat}(h:dU a=0):aD (a::r)=(0,0):=by
 unfold dU at h;simp only[aD]
 by_cases h1:a<128
 ·rw[if_pos h1] at h;omega
 rw[if_neg h1] at h ⊢
 by_cases h2:a<192
 ·rw[if_pos h2]
 rw[if_neg h2] at h ⊢
 by_cases h3:a<224
 ·rw[if_pos h3] at h;omega
 rw[if_neg h3] at h ⊢
 by_cases h4:a<240
 ·rw[if_pos h4] at h;omega
 rw[if_neg h4] at h ⊢
 by_cases h5:a<248
 ·rw[if_pos h5] at h;omega
 rw[if_neg h5]
theorem BV{a:Nat}(h:dU a=1):a<128:=by
 unfold dU at h
 by_cases h1:a<128
 ·exact h1
 rw[if_neg h1] at h;repeat' (first|omega|split at h)
def qU:Nat->List Nat->Nat->List (Nat×Nat)×Option Nat
 |0,_,_=>([],none)
 | k+1,l,a=>if l=[] then ([],none) else if (aD l).2=0 then ([],some a) else
  ((a,(aD l).1)::(qU k (l.drop (aD l).2) (a+(aD l).2)).1,(qU k (l.drop (aD l).2) (a+(aD l).2)).2)
theorem xf:∀(k j:Nat) (l:List Nat) (a:Nat),l.length<=k->l.length<=j->qU k l a=qU j l a
 |0,0,_,_,_,_=>rfl
 | 0,j+1,l,a,h,_=>by
  have:l=[]:=List.eq_nil_of_length_eq_zero (by omega);subst this;simp[qU]
 | k+1,0,l,a,_,h=>by
  have:l=[]:=List.eq_nil_of_length_eq_zero (by omega);subst this;simp[qU]
 | k+1,j+1,l,a,h1,h2=>by
  by_cases hl:l=[]
  ·subst hl;simp[qU]
  ·have hp:=List.length_pos_iff.2 hl
   simp only[qU,if_neg hl]
   by_cases he:(aD l).2=0
   ·simp[he]
   ·rw[xf k j _ _ (by simp;omega) (by simp;omega)]
def scan(l:List Nat)(a:Nat):List (Nat×Nat)×Option Nat:=qU l.length l a
theorem lV(a:Nat):scan [] a=([],none):=rfl
theorem fV{l:List Nat}(hl:l≠[])(a:Nat):scan l a=if (aD l).2=0 then ([],some a) else
  ((a,(aD l).1)::(scan (l.drop (aD l).2) (a+(aD l).2)).1,(scan (l.drop (aD l).2) (a+(aD l).2)).2):=by
 unfold scan;obtain⟨k,hk⟩:∃k,l.length=k+1:=⟨l.length-1,by have:=List.length_pos_iff.2 hl;omega⟩;rw[hk];simp only[qU,if_neg hl]
 by_cases he:(aD l).2=0
 ·simp[he]
 ·rw[xf k (l.drop (aD l).2).length _ _ (by simp;omega) lz]
theorem jK{l:List Nat}(hl:l≠[]){a:Nat}(h:(aD l).2=0):scan l a=([],some a):=by rw[fV hl,if_pos h]
theorem qj{l:List Nat}(hl:l≠[]){a c n:Nat}(h:aD l=(c,n))(hn:n≠0):scan l a=((a,c)::(scan (l.drop n) (a+n)).1,(scan (l.drop n) (a+n)).2):=by
 rw[fV hl,h,if_neg hn]
theorem vD:∀(k:Nat) (l m:List Nat) (a:Nat),l.length<=k->(∀x∈l,x<256)->(scan l a).2=none->
  scan (l++m) a=((scan l a).1++(scan m (a+l.length)).1,(scan m (a+l.length)).2)
 | k,l,m,a,hk,hl,h=>by
  by_cases h0:l=[]
  ·subst h0;simp[lV]
  obtain⟨c,n,h1⟩:∃c n,aD l=(c,n):=⟨_,_,rfl⟩
  by_cases hn:n=0
  ·rw[jK h0 (by rw[h1];exact hn)] at h;cases h
  have hle:=(iY hl h1 hn).2.2.2;rw[qj h0 h1 hn] at h ⊢;have hp:=List.length_pos_iff.2 h0
  cases k with
  |zero=>omega
  |succ k=>
   have ih:=vD k (l.drop n) m (a+n) (by simp;omega) (fun x hx=>hl x (List.mem_of_mem_drop hx)) h;rw[qj (by simp[h0]) (IB hl h1 hn m) hn,List.drop_append_of_le_length hle,ih];have e:a+n+(l.drop n).length=a+l.length:=by simp;omega
   rw[e];simp
theorem wY:∀(k:Nat) (l:List Nat) (a d:Nat),l.length<=k->scan l (a+d)=((scan l a).1.map (fun x=>(x.1+d,x.2)),(scan l a).2.map (·+d))
 | k,l,a,d,hk=>by
  by_cases h0:l=[]
  ·subst h0;simp[lV]
  by_cases hn:(aD l).2=0
  ·rw[jK h0 hn,jK h0 hn];simp
  ·have hp:=List.length_pos_iff.2 h0
   cases k with
   |zero=>omega
   |succ k=>
    have ih:=wY k (l.drop (aD l).2) (a+(aD l).2) d (by simp;omega);rw[fV h0,fV h0,if_neg hn,if_neg hn];have e:a+d+(aD l).2=a+(aD l).2+d:=by omega
    rw[e,ih];simp
theorem BZ:∀(k:Nat) (l:List Nat) (a:Nat),l.length<=k->(scan l a).1.length<=l.length
 | k,l,a,hk=>by
  by_cases h0:l=[]
  ·subst h0;simp[lV]
  by_cases hn:(aD l).2=0
  ·rw[jK h0 hn];simp
  ·have hp:=List.length_pos_iff.2 h0
   cases k with
   |zero=>omega
   |succ k=>
    have ih:=BZ k (l.drop (aD l).2) (a+(aD l).2) (by simp;omega);rw[fV h0,if_neg hn];simp at ih ⊢;omega
theorem JU{c:Nat}(h:jW c=true)(a:Nat):scan (fu c) a=([(a,c)],none):=by
 have h1:=tN h [];rw[List.append_nil] at h1;have hw:=oh c;have Aa:fu c≠[]:=by intro h;have:=pI c;rw[h] at this;simp at this;omega
 rw[qj Aa h1 (by omega),<-pI,List.drop_length,lV]
end Go.Proofs.YtbcdaaobbebooaaGreatDoor
namespace Go.Proofs.YtbcdaaobbebooaaGreatDoor
def nk(c:Nat):Option Nat:=if 48<=c/\c<=57 then some (c-48) else if 97<=c/\c<=102 then some (c-87) else if 65<=c/\c<=70 then some (c-55) else none
def ig:Nat->Nat->List Nat->Nat×Nat
 |0,n,_=>(n,0)
 |_+1,_,[]=>(0,2)
 | k+1,n,c::r=>match nk c with
  |none=>(0,3)
  |some d=>ig k (n*16+d) r
def aJ(l:List Nat):Nat×Nat:=ig 4 0 l
abbrev og:=List Nat×Nat×Nat
def aG(e:Nat):og:=([],0,e)
def jb(n:Nat):List Nat->og
 |[]=>aG 2
 | c::t=>if c≠92 then aG 3 else match t with
  |[]=>aG 2
  | d::u=>if d≠117 then aG 3 else if (aJ u).2≠0 then aG (aJ u).2 else
   if (aJ u).1<56320\/57343<(aJ u).1 then aG 3 else (fu (65536+(n-55296)*1024+((aJ u).1-56320)),12,0)
def aM(r:List Nat):og:=
 if (aJ r).2≠0 then aG (aJ r).2 else
 if 56320<=(aJ r).1/\(aJ r).1<=57343 then aG 3 else
 if (aJ r).1<55296\/57343<(aJ r).1 then (fu (aJ r).1,6,0) else jb (aJ r).1 (r.drop 4)
def yx(c:Nat):Option Nat:=
 if c=34\/c=92\/c=47 then some c else if c=98 then some 8 else if c=102 then some 12 else if c=110 then some 10 else if c=114 then some 13 else if c=116 then some 9 else none
def mf:List Nat->og
 |[]=>aG 2
 | c::r=>match yx c with
  |some b=>([b],2,0)
  |none=>if c=117 then aM r else aG 3
def ax:List Nat->og
 |[]=>aG 2
 |c::r=>if c<32 then aG 3 else if c=92 then mf r else if (aD (c::r)).2=0 then aG 7 else ((c::r).take (aD (c::r)).2,(aD (c::r)).2,0)
theorem zx:∀(k n:Nat) (l:List Nat),(ig k n l).2=0->k<=l.length/\(ig k n l).1<(n+1)*16 ^ k
 |0,n,l,_=>by simp[ig]
 |k+1,n,[],h=>by simp[ig] at h
 | k+1,n,c::r,h=>by
  simp only[ig] at h ⊢
  cases hc:nk c with
  |none=>rw[hc] at h;simp at h
  |some d=>
   rw[hc] at h;simp only at h
   have hd:d<16:=by
    unfold nk at hc;split at hc
    ·cases hc;omega
    split at hc
    ·cases hc;omega
    split at hc
    ·cases hc;omega
    ·cases hc
   obtain⟨h1,h2⟩:=zx k _ r h;refine⟨by simp;omega,Nat.lt_of_lt_of_le h2 ?_⟩;have:n*16+d+1<=(n+1)*16:=by omega
   calc (n*16+d+1)*16 ^ k<=((n+1)*16)*16 ^ k:=Nat.mul_le_mul_right _ this
    _=(n+1)*16 ^ (k+1):=by rw[Nat.pow_succ];ac_rfl
theorem jy{l:List Nat}(h:(aJ l).2=0):4<=l.length/\(aJ l).1<65536:=by
 have:=zx 4 0 l h;exact⟨this.1,by have:=this.2;simpa [aJ] using this⟩
theorem tT{n:Nat}{l:List Nat}(hn:55296<=n/\n<=56319)(h:(jb n l).2.2=0):∃c,jW c=true/\(jb n l).1=fu c/\(jb n l).2.1=12/\6<=l.length:=by
 unfold jb at h ⊢
 match l with
 |[]=>simp[aG] at h
 |[c]=>by_cases hc:c=92<;>simp[aG,hc] at h
 |c::d::u=>
  simp only at h ⊢
  by_cases hc:c=92
  ·by_cases hd:d=117
   ·rw[if_neg (by simp[hc]),if_neg (by simp[hd])] at h ⊢
    by_cases hu:(aJ u).2=0
    ·rw[if_neg (by simp[hu])] at h ⊢
     by_cases hr:(aJ u).1<56320\/57343<(aJ u).1
     ·rw[if_pos hr] at h;simp[aG] at h
     ·rw[if_neg hr]
      obtain⟨v1,v2⟩:=jy hu;obtain⟨x,hx⟩:=exq (65536+(n-55296)*1024+((aJ u).1-56320));rw[<-hx];have hs:jW x=true:=by rw[bZ];omega
      exact⟨x,hs,rfl,rfl,by simp only[List.length_cons];omega⟩
    ·rw[if_pos (by simpa using hu)] at h;exact absurd h hu
   ·rw[if_neg (by simp[hc]),if_pos (by simpa using hd)] at h;simp[aG] at h
  ·rw[if_pos (by simpa using hc)] at h;simp[aG] at h
theorem Aj{r:List Nat}(h:(aM r).2.2=0):∃c,jW c=true/\(aM r).1=fu c/\1<=(aM r).2.1/\(aM r).2.1<=r.length+2:=by
 unfold aM at h ⊢
 by_cases hu:(aJ r).2=0
 ·rw[if_neg (by simp[hu])] at h ⊢
  have hv:=jy hu
  by_cases h1:56320<=(aJ r).1/\(aJ r).1<=57343
  ·rw[if_pos h1] at h;simp[aG] at h
  ·rw[if_neg h1] at h ⊢
   by_cases h2:(aJ r).1<55296\/57343<(aJ r).1
   ·rw[if_pos h2]
    exact⟨_,by rw[bZ];omega,rfl,by simp,by simp;omega⟩
   ·rw[if_neg h2] at h ⊢
    obtain⟨c,q1,q2,q3,q4⟩:=tT (by omega) h;simp at q4
    exact⟨c,q1,q2,by omega,by omega⟩
 ·rw[if_pos (by simpa using hu)] at h;exact absurd h hu
theorem kI{l:List Nat}(hl:∀x∈l,x<256)(h:(ax l).2.2=0):∃c,jW c=true/\(ax l).1=fu c/\1<=(ax l).2.1/\(ax l).2.1<=l.length:=by
 match l with
 |[]=>simp[ax,aG] at h
 |c::r=>
  simp only[ax] at h ⊢
  by_cases h1:c<32
  ·rw[if_pos h1] at h;simp[aG] at h
  rw[if_neg h1] at h ⊢
  by_cases h2:c=92
  ·rw[if_pos h2] at h ⊢
   match r with
   |[]=>simp[mf,aG] at h
   |d::t=>
    simp only[mf] at h ⊢
    cases hd:yx d with
    |some b=>
     have hb:b<128:=by
      unfold yx at hd;repeat' (split at hd)
      all_goals first|(cases hd;omega)|cases hd
     exact⟨b,by rw[bZ];omega,by simp[fu,hb],by simp,by simp⟩
    |none=>
     rw[hd] at h;simp only at h ⊢
     by_cases h3:d=117
     ·rw[if_pos h3] at h ⊢
      obtain⟨c,q1,q2,q3,q4⟩:=Aj h;exact⟨c,q1,q2,q3,by simp;omega⟩
     ·rw[if_neg h3] at h;simp[aG] at h
  ·rw[if_neg h2] at h ⊢
   by_cases h3:(aD (c::r)).2=0
   ·rw[if_pos h3] at h;simp[aG] at h
   ·rw[if_neg h3]
    obtain⟨q1,q2,q3,q4⟩:=iY hl rfl h3;exact⟨_,q1,q3.symm,by simp only;omega,q4⟩
def mX:Nat->List Nat->og
 |0,_=>aG 2
 | k+1,l=>if l.head?=some 34 then ([],1,0) else if (ax l).2.2≠0 then aG (ax l).2.2 else
  if (mX k (l.drop (ax l).2.1)).2.2≠0 then aG (mX k (l.drop (ax l).2.1)).2.2 else
  ((ax l).1++(mX k (l.drop (ax l).2.1)).1,(ax l).2.1+(mX k (l.drop (ax l).2.1)).2.1,0)
def bU(l:List Nat):og:=mX (l.length+1) l
def vZ(l:List Nat):Prop:=∀x∈l,x<256
theorem vZ.drop{l:List Nat}(h:vZ l)(k:Nat):vZ (l.drop k):=fun x hx=>h x (List.mem_of_mem_drop hx)
theorem yH:∀(k j:Nat) (l:List Nat),vZ l->l.length<k->l.length<j->mX k l=mX j l
 |0,_,_,_,h,_=>by omega
 |_+1,0,_,_,_,h=>by omega
 | k+1,j+1,l,hl,h1,h2=>by
  simp only[mX];split
  ·rfl
  by_cases h3:(ax l).2.2=0
  ·obtain⟨_,_,_,q3,q4⟩:=kI hl h3
   rw[yH k j _ (hl.drop _) (by simp;omega) (by simp;omega)]
  ·rw[if_pos (by simpa using h3),if_pos (by simpa using h3)]
theorem dO{l:List Nat}(hl:vZ l):bU l=if l.head?=some 34 then ([],1,0) else if (ax l).2.2≠0 then aG (ax l).2.2 else
  if (bU (l.drop (ax l).2.1)).2.2≠0 then aG (bU (l.drop (ax l).2.1)).2.2 else
  ((ax l).1++(bU (l.drop (ax l).2.1)).1,(ax l).2.1+(bU (l.drop (ax l).2.1)).2.1,0):=by
 unfold bU;rw[mX];split
 ·rfl
 by_cases h3:(ax l).2.2=0
 ·obtain⟨_,_,_,q3,q4⟩:=kI hl h3
  rw[yH l.length ((l.drop (ax l).2.1).length+1) _ (hl.drop _) (by simp;omega) (by simp)]
 ·rw[if_pos (by simpa using h3),if_pos (by simpa using h3)]
def gZ(pre:List Nat)(k:Nat)(q:og):og:=if q.2.2≠0 then aG q.2.2 else (pre++q.1,k+q.2.1,0)
def aV:List Nat->og
 |[]=>aG 2
 |c::r=>if c≠34 then aG 3 else gZ [] 1 (bU r)
theorem zV{pre:List Nat}{k e:Nat}:gZ pre k (aG e)=if e≠0 then aG e else (pre,k,0):=by simp[gZ,aG]
theorem zW{l:List Nat}(hl:vZ l){pre:List Nat}{k:Nat}(h:l.head?=some 34):gZ pre k (bU l)=(pre,k+1,0):=by
 rw[dO hl,if_pos h];simp[gZ]
theorem zX{l:List Nat}(hl:vZ l){pre:List Nat}{k:Nat}(h:l.head?≠some 34)(he:(ax l).2.2≠0):gZ pre k (bU l)=aG (ax l).2.2:=by
 rw[dO hl,if_neg h,if_pos he,zV,if_pos he]
theorem yh{l:List Nat}(hl:vZ l){pre:List Nat}{k:Nat}(h:l.head?≠some 34)(he:(ax l).2.2=0) :
  gZ pre k (bU l)=gZ (pre++(ax l).1) (k+(ax l).2.1) (bU (l.drop (ax l).2.1)):=by
 rw[dO hl,if_neg h,if_neg (by simp[he])]
 by_cases h2:(bU (l.drop (ax l).2.1)).2.2=0
 ·rw[if_neg (by simp[h2])];simp[gZ,h2,Nat.add_assoc]
 ·rw[if_pos h2,zV,if_pos h2];simp[gZ,h2]
end Go.Proofs.YtbcdaaobbebooaaGreatDoor
