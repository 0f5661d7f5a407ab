import Derived.WalkKit
import Derived.WalkSpells
import Derived.WalkLawsBesides
import Derived.Outline
import Derived.Lib.Hide
import Derived.Lib.SlBytesConst
import Derived.BigQuiet
import Derived.Deep.QuietTactic
import Derived.Deep.RegionWith
import Derived.Laws.AppendOwnNone
import Derived.Deep.DeepCutAuto
import Derived.StillTailTactics
import Derived.Deep.RegionHeld3
import Derived.Deep.CutBlock
import Derived.Deep.LoopGhost
import Derived.Laws.CopyOwn
import Derived.Deep.RegionLaw
import Derived.Test.YtbcdaaobbebooaaGreatDoorRows
import Derived.Lib.TrimByte
set_option linter.unusedSimpArgs false
set_option linter.unusedVariables false
set_option maxRecDepth 100000
set_option maxHeartbeats 20000000
namespace Go.Tab
open Go.RowKit
theorem _root_.lz{n:Nat}:n ≤ n:=Nat.le_refl n
theorem _root_.Hh{p:Prop}(h:p):Go.RowKit.Hid p:=h
theorem _root_.Jh{p q:Prop}(h:p)(k:q):Go.RowKit.Hid (p ∧ q):=⟨h,k⟩
theorem _root_.exq{α:Type}(a:α):∃x,x=a:=⟨a,rfl⟩
def RowOf{α:Type}(f:α->Value)(w:World)(v:Value)(l:List α):Prop:=
 ∃a cap,v=.slice a l.length cap/\l.length<=cap/\cap<=maxLen/\(a=none->cap=0)/\
  ∀x,a=some x->l≠[]->x.spot=none/\x.block<w.heap.size/\∀j (h:j<l.length),w.cell? ⟨x.block,x.off+j,none⟩=some (f l[j])
abbrev kV(c:UInt8):Value:=.int .u8 (c.toNat:Int)
section
variable {α:Type} {f:α->Value} {w w':World} {v:Value} {l:List α}
theorem RowOf.nil:RowOf f w (.slice none 0 0) []:=⟨none,0,rfl,Nat.le_refl _,by decide,fun _=>rfl,fun x h=>by cases h⟩
theorem RowOf.len(h:RowOf f w v l):∃a cap,v=.slice a l.length cap/\l.length<=cap/\cap<=maxLen/\(a=none->cap=0):=by
 obtain⟨a,cap,h1,h2,h3,h4,_⟩:=h;exact⟨a,cap,h1,h2,h3,h4⟩
theorem RowOf.at{a:Option Addr}{n cap:Nat}(h:RowOf f w (.slice a n cap) l){j:Nat}(hj:j<l.length) :
  ∃b off,a=some ⟨b,off,none⟩/\b<w.heap.size/\∀j (h:j<l.length),w.cell? ⟨b,off+j,none⟩=some (f l[j]):=by
 obtain⟨a',Aa,h1,h2,h3,h4,h5⟩:=h;cases h1
 cases a with
 |none=>have:=h4 rfl;omega
 |some x=>
  obtain⟨b,off,sp⟩:=x;obtain⟨rfl,h6,h7⟩:=h5 _ rfl (by intro h0;subst h0;simp at hj);exact⟨b,off,rfl,h6,h7⟩
theorem RowOf.moved(h:RowOf f w v l)(hs:w.heap.size<=w'.heap.size)(hc:∀b off,b<w.heap.size->v.ownBlock=some b->w'.cell? ⟨b,off,none⟩=w.cell? ⟨b,off,none⟩):RowOf f w' v l:=by
 obtain⟨a,Aa,rfl,h2,h3,h4,h5⟩:=h;refine⟨a,Aa,rfl,h2,h3,h4,fun x hx hl=>?_⟩;obtain⟨h6,h7,h8⟩:=h5 x hx hl;subst hx;exact⟨h6,by omega,fun j hj=>by rw[hc _ _ h7 rfl];exact h8 j hj⟩
theorem RowOf.below{B:Nat}(h:RowOf f w v l)(hb:Below B w w')(hB:w.heap.size<=B):RowOf f w' v l:=
 h.moved hb.size fun b off hx _=>hb.cell (by show b<B;omega)
theorem RowOf.cells(h:RowOf f w v l){a:Option Addr}{n cap:Nat}(hv:v=.slice a n cap):n=l.length/\n<=cap/\cap<=maxLen/\(a=none->cap=0):=by
 obtain⟨a',Aa,h1,h2,h3,h4,_⟩:=h;rw[hv] at h1;cases h1;exact⟨rfl,h2,h3,h4⟩
theorem Jt(x:Addr)(n:Nat):(x.add n).block=x.block:=by
 unfold Addr.add;split<;>rfl
def aT(f:α->Value)(E:TypeId)(base:Nat)(w:World)(v:Value)(l:List α):Prop:=w.ownsRow base E 1 v l.length (l.map f)
variable {E:TypeId} {base:Nat}
theorem aT.nil:aT f E base w (.slice none 0 0) []:=World.ownsRow_nil _ _ _ _
theorem aT.row(h:aT f E base w v l):RowOf f w v l:=by
 have Aa:=h.lt;obtain⟨h1,h2⟩:=h;rcases h2 with ⟨rfl,h3⟩|⟨g,cap,cur,rfl,hb,hg,h3,h4,h5,h6⟩
 ·have:l=[]:=List.eq_nil_of_length_eq_zero h3
  subst this;exact RowOf.nil
 ·refine⟨_,cap,rfl,h3,h4,fun h=>by simp at h,fun x hx _=>?_⟩
  cases hx
  refine⟨rfl,(Aa g rfl).2,fun j hj=>?_⟩;rw[cell_of_row w g _ cur E (0,0) hg];have h7:(cur.toList.take (l.length*1))[0+j]?=(l.map f)[0+j]?:=by rw[h6]
  rw[List.getElem?_take,if_pos (by omega)] at h7
  simpa [hj] using h7
theorem aT.alloc(h:aT f E base w v l)(o:Obj):aT f E base (w.alloc o) v l:=World.ownsRow.alloc h o
theorem aT.drew(h:aT f E base w v l):aT f E base w.drew v l:=h
theorem aT.drewN(h:aT f E base w v l)(n:Nat):aT f E base (w.drewN n) v l:=h
theorem aT.kept{row:Option Nat}(h:aT f E base w v l)(hg:w.grownBy w' row)(hne:v.ownBlock=none\/v.ownBlock≠row):aT f E base w' v l:=World.ownsRow.kept h hg hne
theorem aT.moved(h:aT f E base w v l)(hc:∀k,v.ownBlock=some k->w'.heap[k]?=w.heap[k]?):aT f E base w' v l:=by
 obtain⟨h1,h2⟩:=h;refine⟨h1,?_⟩;rcases h2 with h2|⟨g,cap,cur,rfl,hb,hg,r⟩
 ·exact .inl h2
 ·exact .inr ⟨g,cap,cur,rfl,hb,by rw[hc g rfl];exact hg,r⟩
theorem aT.below{B:Nat}(h:aT f E base w v l)(hb:Below B w w')(hB:w.heap.size<=B):aT f E base w' v l:=
 h.moved fun k hk=>hb.block k (Nat.lt_of_lt_of_le (World.ownsRow.lt h k hk).2 hB)
theorem aT.cellAt{g n cap:Nat}(h:aT f E base w (.slice (some ⟨g,0,none⟩) n cap) l)(j:Nat)(hj:j<l.length):w.cell? ⟨g,j,none⟩=some (f l[j]):=by
 obtain rfl:=(h.row.cells rfl).1;rw[World.ownsRow.cellAt h j (by omega)];simp[hj]
theorem aT.setOther(h:aT f E base w v l)(x:Addr)(u:Value)(hne:v.ownBlock≠some x.block):aT f E base (w.setCell x u) v l:=
 h.moved fun k hk=>Below.heap_setCell _ _ _ _ (by intro e;subst e;exact hne hk)
theorem aT.lit(l:List α)(hb:base<=w.heap.size)(hm:l.length<=maxLen):aT f E base (w.alloc (.cells (l.map f).toArray E)) (.slice (some ⟨w.heap.size,0,none⟩) l.length l.length) l:=by
 unfold aT;have h:=World.ownsRow_lit (base:=base) (e:=E) (size:=1) w (l.map f).toArray l.length hb hm (by simp)
 simpa using h
end
theorem jv{w w':World}{row:Option Nat}{B:Nat}(hg:w.grownBy w' row)(hB:B<=w.heap.size)(hr:∀k,row=some k->B<=k):Below B w w':=
 (Below.refl B w).grown hg hB hr
structure jK(w0:World) where
 w:World
 below:Below w0.heap.size w0 w
instance (w0:World):Nonempty (jK w0):=⟨⟨w0,Below.refl _ _⟩⟩
theorem oC{P:Program}{id:Nat}{l:List Oper}{Q:Exit->Act->World->Prop}{a:Act}{w:World}(w0:World)(hm:P.follows .mixedOrders=true)(hB:Region.lexB .any l.toArray=true)
  (hw:Below w0.heap.size w0 w)
  (h:wpQuiet P l.toArray (fun w'=>∃x:jK w0,w'=x.w) (fun a'=>∀w',(∃x:jK w0,w'=x.w)->Q .normal a' w') l a):(Code.region id l.toArray true).wp P Q a w:=
 wp_region_quiet (C:=fun w'=>∃x:jK w0,w'=x.w) hm hB ⟨⟨_,hw.drew⟩,rfl⟩ (by simpa using h)
theorem jK.call{P:Program}{f:FuncId}{args:Array Value}{w0:World}{v:Value}(x:jK w0)
  (h:Calls P f args x.w fun e w'=>e=.returned v/\Below x.w.heap.size x.w w'):Calls P f args x.w fun e w'=>e=.returned v/\∃y:jK w0,w'=y.w:=
 h.mono fun _ w' ⟨he,hb⟩=>⟨he,⟨w',x.below.trans (hb.mono x.below.size)⟩,rfl⟩
theorem ah{B:Nat}{w w':World}(h:Below B w w')(n:Nat):Below B w (w'.drewN n):=h.trans ⟨rfl,rfl,rfl,Nat.le_refl _,fun _ _=>rfl⟩
theorem bL(B:Nat)(w:World)(n:Nat):Below B w (w.drewN n):=⟨rfl,rfl,rfl,Nat.le_refl _,fun _ _=>rfl⟩
def Stop(p:Prop):Prop:=p
theorem Stop.out{p:Prop}(h:p):Stop p:=h
section
variable {P:Program} {ops:Array Oper} {Q:Exit->Act->World->Prop} {d:Option Tmp} {ty:TypeId} {pos:String} {aft:Array Edge} {g:Option (Nat×Bool)} {rest:List Oper} {a:Act} {w:World}
theorem aK{xs:Array Operand}{ts:Array TypeId}(h:Stop (wpList P ops Q (⟨d,.call ⟨.builtin .append,xs,ts⟩,ty,pos,aft,g⟩::rest) a w)):wpList P ops Q (⟨d,.call ⟨.builtin .append,xs,ts⟩,ty,pos,aft,g⟩::rest) a w:=h
theorem zu{xs:Array Operand}{ts:Array TypeId}(h:Stop (wpList P ops Q (⟨d,.call ⟨.builtin .copy,xs,ts⟩,ty,pos,aft,g⟩::rest) a w)):wpList P ops Q (⟨d,.call ⟨.builtin .copy,xs,ts⟩,ty,pos,aft,g⟩::rest) a w:=h
theorem ng{t:TypeId}{x y:Operand}(h:Stop (wpList P ops Q (⟨d,.makeSlice t x y,ty,pos,aft,g⟩::rest) a w)):wpList P ops Q (⟨d,.makeSlice t x y,ty,pos,aft,g⟩::rest) a w:=h
theorem jW{t:TypeId}{x:Operand}{lo hi mx:Option Operand}(h:Stop (wpList P ops Q (⟨d,.slice t x lo hi mx,ty,pos,aft,g⟩::rest) a w)):wpList P ops Q (⟨d,.slice t x lo hi mx,ty,pos,aft,g⟩::rest) a w:=h
theorem bH{t:TypeId}{x y:Operand}(h:Stop (wpList P ops Q (⟨d,.store t x y,ty,pos,aft,g⟩::rest) a w)):wpList P ops Q (⟨d,.store t x y,ty,pos,aft,g⟩::rest) a w:=h
end
section
variable {α:Type} {f:α->Value} {P:Program} {w:World} {ops:Array Oper} {rest:List Oper} {o:Oper} {a:Act} {Q:Exit->Act->World->Prop}
theorem gV(hw:Region.wanted o (yielded ops a.tmps)=true)(h:∀K:Act->World->Prop,(∀a w,wpList P ops Q rest a w->K a w)->o.wp P a w K Q):wpList P ops Q (o::rest) a w:=
 wpList_step fun K hK=>by rw[if_pos hw];exact h K hK
theorem qK{K:Act->World->Prop}(s x:Operand)(t:TypeId)
  (ho:o.op=.call { callee:=.builtin .append,args:=#[s,x],argTypes:=#[t,t] })
  (base:Nat) (e:TypeId) (bytes:Nat) (z:Value) (ht:P.underlying t=some (.slice e)) (hi:(P.info? e).map (fun i=>(i.zero,i.size,i.bytes))=some (some z,1,bytes)) (hzs:z.cells.size=1)
  (hf:∀x,(f x).oneCell'=true)
  (l l2:List α) (hown:aT f e base w (a.eval s) l) (hrow:RowOf f w (a.eval x) l2)
  (hm:l.length+l2.length<=maxLen) (hby:(l.length+l2.length)*bytes<=140737488355328) (hbase:base<=w.heap.size) (w0:World) (hb:Below base w0 w)
  (hK:∀v' w',aT f e base w' v' (l++l2)->Below base w0 w'->w.grownBy w' (a.eval s).ownBlock->K (a.put o.dst v') w'):o.wp P a w K Q:=by
 obtain⟨i,Aa,Ad,Ae,Af⟩:=info_parts hi;obtain⟨ao,Ac,hv,h2,h3,h4,h5⟩:=hrow
 by_cases hl2:l2=[]
 ·subst hl2
  cases ao with
  |none=>
   have hc:=h4 rfl;subst hc;have Ab:=run_append_owned_none (P:=P) (w:=w) base t o.type e i 1 ht Aa (a.eval s) l.length (l.map f) hown;unfold Oper.wp;simp[execOp,ho,resolve,invoke,builtin,hv,Ab,Result.andThen]
   exact hK _ _ (by simpa using hown) hb ⟨rfl,rfl,rfl,Nat.le_refl _,fun _ _ _=>rfl⟩
  |some ad=>
   refine wp_append_own w s x t ho base e i z 1 bytes ht Aa Ad Ae Af hzs (by decide) (a.eval s) l.length (l.map f) rfl hown ad 0 Ac [] (by simpa using hv) (by simp) (by simp) (by simp) hm hby hbase ?_;intro v' w' hown' hg _;exact hK v' w' (by unfold aT;simpa using hown') (hb.trans (jv hg hbase (fun k hk=>(World.ownsRow.lt hown k hk).1))) hg
 cases ao with
 |none=>
  have hc:=h4 rfl;subst hc;exact absurd (List.eq_nil_of_length_eq_zero (by omega)) hl2
 |some ad=>
  obtain⟨b,Ag,sp⟩:=ad;obtain⟨g1,g2,g3⟩:=h5 _ rfl hl2;simp only at g1 g2 g3;subst g1;refine wp_append_own w s x t ho base e i z 1 bytes ht Aa Ad Ae Af hzs (by decide) (a.eval s) l.length (l.map f) rfl hown ⟨b,Ag,none⟩ l2.length Ac (l2.map f) hv (by simp) ?_ ?_ hm hby hbase ?_
  ·intro j u hu
   rw[Addr.add_lit];simp only[List.getElem?_map,Option.map_eq_some_iff] at hu;obtain⟨y,hy,rfl⟩:=hu;obtain⟨hj,rfl⟩:=List.getElem?_eq_some_iff.1 hy;exact g3 j hj
  ·intro u hu
   obtain⟨y,_,rfl⟩:=List.mem_map.1 hu;exact hf y
  ·intro v' w' hown' hg _
   exact hK v' w' (by unfold aT;simpa using hown') (hb.trans (jv hg hbase (fun k hk=>(World.ownsRow.lt hown k hk).1))) hg
theorem dG(hgd:Region.wanted o (yielded ops a.tmps)=true)(s x:Operand)(t:TypeId)
  (ho:o.op=.call { callee:=.builtin .append,args:=#[s,x],argTypes:=#[t,t] })
  (base:Nat) (e:TypeId) (bytes:Nat) (z:Value) (ht:P.underlying t=some (.slice e)) (hi:(P.info? e).map (fun i=>(i.zero,i.size,i.bytes))=some (some z,1,bytes)) (hzs:z.cells.size=1)
  (hf:∀x,(f x).oneCell'=true)
  (l l2:List α) (hown:aT f e base w (a.eval s) l) (hrow:RowOf f w (a.eval x) l2)
  (hm:l.length+l2.length<=maxLen) (hby:(l.length+l2.length)*bytes<=140737488355328) (hbase:base<=w.heap.size) (w0:World) (hb:Below base w0 w)
  (hK:∀v' w',aT f e base w' v' (l++l2)->Below base w0 w'->w.grownBy w' (a.eval s).ownBlock->wpList P ops Q rest (a.put o.dst v') w'):wpList P ops Q (o::rest) a w:=
 gV hgd fun _ hK'=>qK s x t ho base e bytes z ht hi hzs hf l l2 hown hrow hm hby hbase w0 hb fun v' w' h1 h2 h3=>hK' _ _ (hK v' w' h1 h2 h3)
theorem vv{K:Act->World->Prop}{Z:Prop}(hgd:Region.wanted o (yielded ops a.tmps)=true)(s x:Operand)(t:TypeId)
  (ho:o.op=.call { callee:=.builtin .append,args:=#[s,x],argTypes:=#[t,t] })
  (base:Nat) (e:TypeId) (bytes:Nat) (z:Value) (ht:P.underlying t=some (.slice e)) (hi:(P.info? e).map (fun i=>(i.zero,i.size,i.bytes))=some (some z,1,bytes)) (hzs:z.cells.size=1)
  (hf:∀x,(f x).oneCell'=true)
  (l l2:List α) (hown:aT f e base w (a.eval s) l) (hrow:RowOf f w (a.eval x) l2)
  (hm:l.length+l2.length<=maxLen) (hby:(l.length+l2.length)*bytes<=140737488355328) (hbase:base<=w.heap.size) (w0:World) (hb:Below base w0 w)
  (hK:∀v' w',aT f e base w' v' (l++l2)->Below base w0 w'->w.grownBy w' (a.eval s).ownBlock->K (a.put o.dst v') w'):if Region.wanted o (yielded ops a.tmps)=true then o.wp P a w K Q else Z:=by
 rw[if_pos hgd];exact qK s x t ho base e bytes z ht hi hzs hf l l2 hown hrow hm hby hbase w0 hb hK
theorem wK{e:TypeId}(h:(P.info? e).map (fun i=>i.size)=some 1)(w:World):(sizeOf e).run P w=.ok 1 w:=by
 obtain⟨i,hi,hs⟩:=Option.map_eq_some_iff.1 h;simp[sizeOf,typeInfo,hi,hs]
theorem uw(w:World)(g:Nat)(t ty:TypeId)(cur cs:Array Value)(hg:w.heap[g]?=some (.cells cur t (0,0)))(hsz:cur.size=cs.size)
  (hi:(P.info? ty).map (·.size)=some cs.size) (h1:∀v∈cs.toList,v.oneCell'=true) :
  (storeVar ty ⟨g,0,none⟩ (.agg cs)).run P w=.ok () (w.setRow g cs):=by
 have Aa:=run_storeCells_at P g 0 t cs.toList 0 cur w hg (by simp;omega) h1
 cases hq:P.info? ty with
 |none=>simp[hq] at hi
 |some i=>
  have hs:i.size=cs.size:=by simpa [hq] using hi
  have e:(cur.toList.take (0+0)++cs.toList++cur.toList.drop (0+0+cs.toList.length)).toArray=cs:=by
   rw[List.drop_of_length_le (by simp;omega)];simp
  rw[e] at Aa;simp[storeVar,Value.cells,Sem.run_bind,sizeOf,typeInfo,hq,hs,Aa]
theorem az(hgd:Region.wanted o (yielded ops a.tmps)=true)(ty:TypeId)(x v:Operand)(ho:o.op=.store ty x v)(hdst:o.dst=none)
  (g:Nat) (hx:a.eval x=.pointer (some ⟨g,0,none⟩)) (cs:Array Value) (hv:a.eval v=.agg cs) (t:TypeId) (cur:Array Value) (hg:w.heap[g]?=some (.cells cur t (0,0))) (hsz:cur.size=cs.size)
  (hi:(P.info? ty).map (·.size)=some cs.size) (h1:∀v∈cs.toList,v.oneCell'=true)
  (hK:wpList P ops Q rest a (w.setRow g cs)):wpList P ops Q (o::rest) a w:=by
 refine gV hgd fun K hK'=>?_;have Aa:=uw (P:=P) w g t ty cur cs hg hsz hi h1;unfold Oper.wp execOp;simp only[ho,hx,hv,Instr.storeAt,Instr.sureAddr,Sem.run_bind,Sem.run_pure,Result.andThen_ok,Aa,Oper.upon_skip,hdst];exact hK' _ _ hK
theorem fK(w:World)(t e:TypeId)(n:Nat)(cs:Array Value)(k:IntKind)(i:Int)(j:Nat)(v:Value)(ht:P.underlying t=some (.array n e))(hs:(P.info? e).map (fun i=>i.size)=some 1)
  (he:(match P.underlying e with|some (.struct _)=>false|some (.array _ _)=>false|none=>false|_=>true)=true) (hi:i=j) (hj:j<n) (hv:cs[j]?=some v) :
  (Instr.index t (.agg cs) (.int k i)).run P w=.ok v w:=by
 subst hi
 have h1:(isAgg e).run P w=.ok false w:=by
  unfold isAgg
  cases hu:P.underlying e with
  |none=>simp[hu] at he
  |some d=>
   rw[Sem.run_bind,run_underlying hu w];cases d<;>simp_all
 simp[Instr.index,asIntOf,run_underlying ht,wK hs,part,h1,Sem.run_bind,hv]
 intro h;omega
end
end Go.Tab
namespace Go.Proofs.YtbcdaaobbebooaaGreatDoor
open Go.RowKit Go.Tab
def bs(s:ByteArray):List Nat:=s.data.toList.map UInt8.toNat
theorem ax(s:ByteArray):(bs s).length=s.size:=by
 unfold bs;rw[List.length_map,Array.length_toList];rfl
theorem fI{s:ByteArray}:∀x∈bs s,x<256:=by
 intro x hx;obtain⟨c,_,rfl⟩:=List.mem_map.1 hx;exact c.toNat_lt
theorem yx{s:ByteArray}{i:Nat}(h:i<s.size):(s[i]'h).toNat=(bs s)[i]'(by rw[ax];exact h):=by
 simp[bs];rfl
theorem Am{s:ByteArray}{i:Nat}{l:List Nat}(h:(bs s).drop i=l){j:Nat}(hj:j<l.length):∃h':i+j<s.size,(s[i+j]'h').toNat=l[j]:=by
 subst h;simp[ax] at hj
 refine⟨by omega,?_⟩;rw[yx];simp
theorem FN{d:ByteArray}(h0:d.size=0):d=⟨#[]⟩:=by
 cases d with
 |mk a=>exact congrArg ByteArray.mk (Array.eq_empty_of_size_eq_zero h0)
theorem Bh{d:ByteArray}(h0:¬d.size=0):d.toList.isEmpty=false:=by
 rw[ByteArray.toList_eq,List.isEmpty_eq_false_iff];intro h;exact h0 (by have:=congrArg List.length h;simpa using this)
def ay(l:List UInt8):ByteArray:=⟨l.toArray⟩
theorem bU(l:List UInt8):(ay l).data.toList=l:=rfl
theorem vL(s:ByteArray):s=ay s.data.toList:=by cases s;rfl
theorem kg{a b:ByteArray}(h:a.data.toList=b.data.toList):a=b:=by rw[vL a,vL b,h]
theorem au(s:ByteArray):s.size=s.data.toList.length:=by cases s;rfl
theorem aX(l:List UInt8):(ay l).size=l.length:=by rw[au];rfl
theorem iU{s:ByteArray}{i:Nat}(h:i<s.size):s[i]'h=s.data.toList[i]'(by rw[<-au];exact h):=rfl
theorem eQ(s:ByteArray)(a b:Nat):(s.extract a b).data.toList=(s.data.toList.take b).drop a:=by
 rw[ByteArray.data_extract,Array.toList_extract,List.extract_eq_take_drop,List.drop_take]
theorem yE(s t:ByteArray):(s++t).data.toList=s.data.toList++t.data.toList:=by rw[ByteArray.data_append,Array.toList_append]
theorem iQ{a b:Bool}(h:a=b):Ending.returned (.bool a)=.returned (.bool b):=by rw[h]
theorem dW{k:IntKind}{a b:Int}(h:a=b):Ending.returned (.int k a)=.returned (.int k b):=by rw[h]
def ae(w:World)(g:Nat)(cs:Array Value)(t:TypeId):Prop:=w.heap[g]?=some (.cells cs t (0,0))
section
variable {w w':World} {g:Nat} {cs:Array Value} {t:TypeId}
theorem ae.lt(h:ae w g cs t):g<w.heap.size:=(Array.getElem?_eq_some_iff.1 h).1
theorem ae.cell(h:ae w g cs t)(j:Nat)(v:Value)(hj:cs[j]?=some v):w.cell? ⟨g,j,none⟩=some v:=by
 rw[cell_of_row w g _ cs t (0,0) h];exact hj
theorem ae.frozen(h:ae w g cs t)(j:Nat):w.frozen? ⟨g,j,none⟩=false:=by simp[World.frozen?,show w.heap[g]?=_ from h]
theorem ae.m11{w:World}{g:Nat}{cs:Array Value}{t:TypeId}{x0 x1 x2 x3 x4 x5 x6 x7 x8 x9 x10:Value}{r:List Value}(h:ae w g cs t)(e:cs.toList=x0::x1::x2::x3::x4::x5::x6::x7::x8::x9::x10::r):w.cell? ⟨g,0,none⟩=some x0 ∧ w.cell? ⟨g,1,none⟩=some x1 ∧ w.cell? ⟨g,2,none⟩=some x2 ∧ w.cell? ⟨g,3,none⟩=some x3 ∧ w.cell? ⟨g,4,none⟩=some x4 ∧ w.cell? ⟨g,5,none⟩=some x5 ∧ w.cell? ⟨g,6,none⟩=some x6 ∧ w.cell? ⟨g,7,none⟩=some x7 ∧ w.cell? ⟨g,8,none⟩=some x8 ∧ w.cell? ⟨g,9,none⟩=some x9 ∧ w.cell? ⟨g,10,none⟩=some x10:=
 have q:∀(j:Nat) (v:Value),(x0::x1::x2::x3::x4::x5::x6::x7::x8::x9::x10::r)[j]?=some v->cs[j]?=some v:=fun j v hj=>by rw[<-Array.getElem?_toList,e];exact hj
 ⟨h.cell 0 _ (q 0 _ rfl),h.cell 1 _ (q 1 _ rfl),h.cell 2 _ (q 2 _ rfl),h.cell 3 _ (q 3 _ rfl),h.cell 4 _ (q 4 _ rfl),h.cell 5 _ (q 5 _ rfl),h.cell 6 _ (q 6 _ rfl),h.cell 7 _ (q 7 _ rfl),h.cell 8 _ (q 8 _ rfl),h.cell 9 _ (q 9 _ rfl),h.cell 10 _ (q 10 _ rfl)⟩
theorem ae.m2{w:World}{g:Nat}{cs:Array Value}{t:TypeId}{x0 x1:Value}{r:List Value}(h:ae w g cs t)(e:cs.toList=x0::x1::r):w.cell? ⟨g,0,none⟩=some x0 ∧ w.cell? ⟨g,1,none⟩=some x1:=
 have q:∀(j:Nat) (v:Value),(x0::x1::r)[j]?=some v->cs[j]?=some v:=fun j v hj=>by rw[<-Array.getElem?_toList,e];exact hj
 ⟨h.cell 0 _ (q 0 _ rfl),h.cell 1 _ (q 1 _ rfl)⟩
theorem ae.m3{w:World}{g:Nat}{cs:Array Value}{t:TypeId}{x0 x1 x2:Value}{r:List Value}(h:ae w g cs t)(e:cs.toList=x0::x1::x2::r):w.cell? ⟨g,0,none⟩=some x0 ∧ w.cell? ⟨g,1,none⟩=some x1 ∧ w.cell? ⟨g,2,none⟩=some x2:=
 have q:∀(j:Nat) (v:Value),(x0::x1::x2::r)[j]?=some v->cs[j]?=some v:=fun j v hj=>by rw[<-Array.getElem?_toList,e];exact hj
 ⟨h.cell 0 _ (q 0 _ rfl),h.cell 1 _ (q 1 _ rfl),h.cell 2 _ (q 2 _ rfl)⟩
theorem ae.m5{w:World}{g:Nat}{cs:Array Value}{t:TypeId}{x0 x1 x2 x3 x4:Value}{r:List Value}(h:ae w g cs t)(e:cs.toList=x0::x1::x2::x3::x4::r):w.cell? ⟨g,0,none⟩=some x0 ∧ w.cell? ⟨g,1,none⟩=some x1 ∧ w.cell? ⟨g,2,none⟩=some x2 ∧ w.cell? ⟨g,3,none⟩=some x3 ∧ w.cell? ⟨g,4,none⟩=some x4:=
 have q:∀(j:Nat) (v:Value),(x0::x1::x2::x3::x4::r)[j]?=some v->cs[j]?=some v:=fun j v hj=>by rw[<-Array.getElem?_toList,e];exact hj
 ⟨h.cell 0 _ (q 0 _ rfl),h.cell 1 _ (q 1 _ rfl),h.cell 2 _ (q 2 _ rfl),h.cell 3 _ (q 3 _ rfl),h.cell 4 _ (q 4 _ rfl)⟩
theorem ae.m7{w:World}{g:Nat}{cs:Array Value}{t:TypeId}{x0 x1 x2 x3 x4 x5 x6:Value}{r:List Value}(h:ae w g cs t)(e:cs.toList=x0::x1::x2::x3::x4::x5::x6::r):w.cell? ⟨g,0,none⟩=some x0 ∧ w.cell? ⟨g,1,none⟩=some x1 ∧ w.cell? ⟨g,2,none⟩=some x2 ∧ w.cell? ⟨g,3,none⟩=some x3 ∧ w.cell? ⟨g,4,none⟩=some x4 ∧ w.cell? ⟨g,5,none⟩=some x5 ∧ w.cell? ⟨g,6,none⟩=some x6:=
 have q:∀(j:Nat) (v:Value),(x0::x1::x2::x3::x4::x5::x6::r)[j]?=some v->cs[j]?=some v:=fun j v hj=>by rw[<-Array.getElem?_toList,e];exact hj
 ⟨h.cell 0 _ (q 0 _ rfl),h.cell 1 _ (q 1 _ rfl),h.cell 2 _ (q 2 _ rfl),h.cell 3 _ (q 3 _ rfl),h.cell 4 _ (q 4 _ rfl),h.cell 5 _ (q 5 _ rfl),h.cell 6 _ (q 6 _ rfl)⟩
theorem ae.m8{w:World}{g:Nat}{cs:Array Value}{t:TypeId}{x0 x1 x2 x3 x4 x5 x6 x7:Value}{r:List Value}(h:ae w g cs t)(e:cs.toList=x0::x1::x2::x3::x4::x5::x6::x7::r):w.cell? ⟨g,0,none⟩=some x0 ∧ w.cell? ⟨g,1,none⟩=some x1 ∧ w.cell? ⟨g,2,none⟩=some x2 ∧ w.cell? ⟨g,3,none⟩=some x3 ∧ w.cell? ⟨g,4,none⟩=some x4 ∧ w.cell? ⟨g,5,none⟩=some x5 ∧ w.cell? ⟨g,6,none⟩=some x6 ∧ w.cell? ⟨g,7,none⟩=some x7:=
 have q:∀(j:Nat) (v:Value),(x0::x1::x2::x3::x4::x5::x6::x7::r)[j]?=some v->cs[j]?=some v:=fun j v hj=>by rw[<-Array.getElem?_toList,e];exact hj
 ⟨h.cell 0 _ (q 0 _ rfl),h.cell 1 _ (q 1 _ rfl),h.cell 2 _ (q 2 _ rfl),h.cell 3 _ (q 3 _ rfl),h.cell 4 _ (q 4 _ rfl),h.cell 5 _ (q 5 _ rfl),h.cell 6 _ (q 6 _ rfl),h.cell 7 _ (q 7 _ rfl)⟩
theorem ae.n1{w:World}{g:Nat}{cs:Array Value}{t:TypeId}{x0:Value}{r:List Value}(h:ae w g cs t)(e:cs.toList=x0::r):w.cell? ⟨g,0,none⟩=some x0 ∧ w.frozen? ⟨g,0,none⟩=false:=
 have q:∀(j:Nat) (v:Value),(x0::r)[j]?=some v->cs[j]?=some v:=fun j v hj=>by rw[<-Array.getElem?_toList,e];exact hj
 ⟨h.cell 0 _ (q 0 _ rfl),h.frozen 0⟩
theorem ae.n11{w:World}{g:Nat}{cs:Array Value}{t:TypeId}{x0 x1 x2 x3 x4 x5 x6 x7 x8 x9 x10:Value}{r:List Value}(h:ae w g cs t)(e:cs.toList=x0::x1::x2::x3::x4::x5::x6::x7::x8::x9::x10::r):w.cell? ⟨g,0,none⟩=some x0 ∧ w.frozen? ⟨g,0,none⟩=false ∧ w.cell? ⟨g,1,none⟩=some x1 ∧ w.frozen? ⟨g,1,none⟩=false ∧ w.cell? ⟨g,2,none⟩=some x2 ∧ w.frozen? ⟨g,2,none⟩=false ∧ w.cell? ⟨g,3,none⟩=some x3 ∧ w.frozen? ⟨g,3,none⟩=false ∧ w.cell? ⟨g,4,none⟩=some x4 ∧ w.frozen? ⟨g,4,none⟩=false ∧ w.cell? ⟨g,5,none⟩=some x5 ∧ w.frozen? ⟨g,5,none⟩=false ∧ w.cell? ⟨g,6,none⟩=some x6 ∧ w.frozen? ⟨g,6,none⟩=false ∧ w.cell? ⟨g,7,none⟩=some x7 ∧ w.frozen? ⟨g,7,none⟩=false ∧ w.cell? ⟨g,8,none⟩=some x8 ∧ w.frozen? ⟨g,8,none⟩=false ∧ w.cell? ⟨g,9,none⟩=some x9 ∧ w.frozen? ⟨g,9,none⟩=false ∧ w.cell? ⟨g,10,none⟩=some x10 ∧ w.frozen? ⟨g,10,none⟩=false:=
 have q:∀(j:Nat) (v:Value),(x0::x1::x2::x3::x4::x5::x6::x7::x8::x9::x10::r)[j]?=some v->cs[j]?=some v:=fun j v hj=>by rw[<-Array.getElem?_toList,e];exact hj
 ⟨h.cell 0 _ (q 0 _ rfl),h.frozen 0,h.cell 1 _ (q 1 _ rfl),h.frozen 1,h.cell 2 _ (q 2 _ rfl),h.frozen 2,h.cell 3 _ (q 3 _ rfl),h.frozen 3,h.cell 4 _ (q 4 _ rfl),h.frozen 4,h.cell 5 _ (q 5 _ rfl),h.frozen 5,h.cell 6 _ (q 6 _ rfl),h.frozen 6,h.cell 7 _ (q 7 _ rfl),h.frozen 7,h.cell 8 _ (q 8 _ rfl),h.frozen 8,h.cell 9 _ (q 9 _ rfl),h.frozen 9,h.cell 10 _ (q 10 _ rfl),h.frozen 10⟩
theorem ae.n2{w:World}{g:Nat}{cs:Array Value}{t:TypeId}{x0 x1:Value}{r:List Value}(h:ae w g cs t)(e:cs.toList=x0::x1::r):w.cell? ⟨g,0,none⟩=some x0 ∧ w.frozen? ⟨g,0,none⟩=false ∧ w.cell? ⟨g,1,none⟩=some x1 ∧ w.frozen? ⟨g,1,none⟩=false:=
 have q:∀(j:Nat) (v:Value),(x0::x1::r)[j]?=some v->cs[j]?=some v:=fun j v hj=>by rw[<-Array.getElem?_toList,e];exact hj
 ⟨h.cell 0 _ (q 0 _ rfl),h.frozen 0,h.cell 1 _ (q 1 _ rfl),h.frozen 1⟩
theorem ae.n3{w:World}{g:Nat}{cs:Array Value}{t:TypeId}{x0 x1 x2:Value}{r:List Value}(h:ae w g cs t)(e:cs.toList=x0::x1::x2::r):w.cell? ⟨g,0,none⟩=some x0 ∧ w.frozen? ⟨g,0,none⟩=false ∧ w.cell? ⟨g,1,none⟩=some x1 ∧ w.frozen? ⟨g,1,none⟩=false ∧ w.cell? ⟨g,2,none⟩=some x2 ∧ w.frozen? ⟨g,2,none⟩=false:=
 have q:∀(j:Nat) (v:Value),(x0::x1::x2::r)[j]?=some v->cs[j]?=some v:=fun j v hj=>by rw[<-Array.getElem?_toList,e];exact hj
 ⟨h.cell 0 _ (q 0 _ rfl),h.frozen 0,h.cell 1 _ (q 1 _ rfl),h.frozen 1,h.cell 2 _ (q 2 _ rfl),h.frozen 2⟩
theorem ae.n4{w:World}{g:Nat}{cs:Array Value}{t:TypeId}{x0 x1 x2 x3:Value}{r:List Value}(h:ae w g cs t)(e:cs.toList=x0::x1::x2::x3::r):w.cell? ⟨g,0,none⟩=some x0 ∧ w.frozen? ⟨g,0,none⟩=false ∧ w.cell? ⟨g,1,none⟩=some x1 ∧ w.frozen? ⟨g,1,none⟩=false ∧ w.cell? ⟨g,2,none⟩=some x2 ∧ w.frozen? ⟨g,2,none⟩=false ∧ w.cell? ⟨g,3,none⟩=some x3 ∧ w.frozen? ⟨g,3,none⟩=false:=
 have q:∀(j:Nat) (v:Value),(x0::x1::x2::x3::r)[j]?=some v->cs[j]?=some v:=fun j v hj=>by rw[<-Array.getElem?_toList,e];exact hj
 ⟨h.cell 0 _ (q 0 _ rfl),h.frozen 0,h.cell 1 _ (q 1 _ rfl),h.frozen 1,h.cell 2 _ (q 2 _ rfl),h.frozen 2,h.cell 3 _ (q 3 _ rfl),h.frozen 3⟩
theorem ae.n5{w:World}{g:Nat}{cs:Array Value}{t:TypeId}{x0 x1 x2 x3 x4:Value}{r:List Value}(h:ae w g cs t)(e:cs.toList=x0::x1::x2::x3::x4::r):w.cell? ⟨g,0,none⟩=some x0 ∧ w.frozen? ⟨g,0,none⟩=false ∧ w.cell? ⟨g,1,none⟩=some x1 ∧ w.frozen? ⟨g,1,none⟩=false ∧ w.cell? ⟨g,2,none⟩=some x2 ∧ w.frozen? ⟨g,2,none⟩=false ∧ w.cell? ⟨g,3,none⟩=some x3 ∧ w.frozen? ⟨g,3,none⟩=false ∧ w.cell? ⟨g,4,none⟩=some x4 ∧ w.frozen? ⟨g,4,none⟩=false:=
 have q:∀(j:Nat) (v:Value),(x0::x1::x2::x3::x4::r)[j]?=some v->cs[j]?=some v:=fun j v hj=>by rw[<-Array.getElem?_toList,e];exact hj
 ⟨h.cell 0 _ (q 0 _ rfl),h.frozen 0,h.cell 1 _ (q 1 _ rfl),h.frozen 1,h.cell 2 _ (q 2 _ rfl),h.frozen 2,h.cell 3 _ (q 3 _ rfl),h.frozen 3,h.cell 4 _ (q 4 _ rfl),h.frozen 4⟩
theorem ae.n7{w:World}{g:Nat}{cs:Array Value}{t:TypeId}{x0 x1 x2 x3 x4 x5 x6:Value}{r:List Value}(h:ae w g cs t)(e:cs.toList=x0::x1::x2::x3::x4::x5::x6::r):w.cell? ⟨g,0,none⟩=some x0 ∧ w.frozen? ⟨g,0,none⟩=false ∧ w.cell? ⟨g,1,none⟩=some x1 ∧ w.frozen? ⟨g,1,none⟩=false ∧ w.cell? ⟨g,2,none⟩=some x2 ∧ w.frozen? ⟨g,2,none⟩=false ∧ w.cell? ⟨g,3,none⟩=some x3 ∧ w.frozen? ⟨g,3,none⟩=false ∧ w.cell? ⟨g,4,none⟩=some x4 ∧ w.frozen? ⟨g,4,none⟩=false ∧ w.cell? ⟨g,5,none⟩=some x5 ∧ w.frozen? ⟨g,5,none⟩=false ∧ w.cell? ⟨g,6,none⟩=some x6 ∧ w.frozen? ⟨g,6,none⟩=false:=
 have q:∀(j:Nat) (v:Value),(x0::x1::x2::x3::x4::x5::x6::r)[j]?=some v->cs[j]?=some v:=fun j v hj=>by rw[<-Array.getElem?_toList,e];exact hj
 ⟨h.cell 0 _ (q 0 _ rfl),h.frozen 0,h.cell 1 _ (q 1 _ rfl),h.frozen 1,h.cell 2 _ (q 2 _ rfl),h.frozen 2,h.cell 3 _ (q 3 _ rfl),h.frozen 3,h.cell 4 _ (q 4 _ rfl),h.frozen 4,h.cell 5 _ (q 5 _ rfl),h.frozen 5,h.cell 6 _ (q 6 _ rfl),h.frozen 6⟩
theorem ae.kept{row:Option Nat}(h:ae w g cs t)(hg:w.grownBy w' row)(hne:some g≠row):ae w' g cs t:=(hg.block g h.lt hne).trans h
theorem ae.below{B:Nat}(h:ae w g cs t)(hb:Below B w w')(hB:g<B):ae w' g cs t:=(hb.block g hB).trans h
theorem ae.alloc(h:ae w g cs t)(o:Obj):ae (w.alloc o) g cs t:=h.kept (World.grownBy_alloc w o none) (by simp)
theorem ae.drew(h:ae w g cs t):ae w.drew g cs t:=h
theorem ae.drewN(h:ae w g cs t)(n:Nat):ae (w.drewN n) g cs t:=h
theorem ae.set(h:ae w g cs t)(j:Nat)(hj:j<cs.size)(v:Value):ae (w.setCell ⟨g,j,none⟩ v) g (cs.set j v hj) t:=by
 obtain⟨Aa,hk⟩:=Array.getElem?_eq_some_iff.1 h;show (w.heap.modify g _)[g]?=_;rw[Array.getElem?_eq_getElem (by rw[Array.size_modify];exact Aa),Array.getElem_modify_self,hk];simp[Array.setIfInBounds,hj]
theorem ae.new(w:World)(cs:Array Value)(t:TypeId):ae (w.alloc (.cells cs t)) w.heap.size cs t:=by
 show (w.heap.push _)[w.heap.size]?=_;simp
theorem ae.shape(h:ae w g cs t):w.shape? g=some (t,cs.size):=by simp[World.shape?,show w.heap[g]?=_ from h]
theorem ae.setOther(h:ae w g cs t)(x:Addr)(u:Value)(hne:x.block≠g):ae (w.setCell x u) g cs t:=
 (Below.heap_setCell _ _ _ _ (fun e=>hne e.symm)).trans h
end
theorem yZ(W:World)(b j:Nat)(v:Value):W.grownBy (W.setCell ⟨b,j,none⟩ v) (some b):=
 ⟨rfl,rfl,rfl,by simp[World.setCell],fun k _ hk=>Below.heap_setCell _ _ _ k (fun e=>hk (by rw[e]))⟩
theorem _root_.Go.Tab.RowOf.shape{α:Type}{f:α->Value}{w:World}{v:Value}{l:List α}(h:RowOf f w v l):∃a n cap,v=.slice a n cap/\n=l.length:=by
 obtain⟨a,cap,h1,_⟩:=h;exact⟨a,_,cap,h1,rfl⟩
theorem lL{α:Type}{f:α->Value}{E:TypeId}{base:Nat}{w:World}{v:Value}{l:List α}{g:Nat}{cs:Array Value}{t:TypeId}(h:aT f E base w v l)(hc:ae w g cs t)(ht:t≠E):v.ownBlock≠some g:=by
 rcases h.2 with ⟨rfl,_⟩|⟨b,cap,cur,rfl,_,hg,_⟩
 ·simp[Value.ownBlock]
 ·intro he
  simp only[Value.ownBlock,Option.some.injEq] at he;subst he;have Aa:w.heap[b]?=some (.cells cs t (0,0)):=hc;rw[hg] at Aa;simp only[Option.some.injEq,Obj.cells.injEq] at Aa;exact ht Aa.2.1.symm
def bD(E:TypeId)(g:Nat)(w w':World):Prop:=
 w.heap.size<=w'.heap.size/\∀k o,k≠g->w.heap[k]?=some o->(∀cs fr,o≠.cells cs E fr)->w'.heap[k]?=some o
theorem bD.refl{E:TypeId}{g:Nat}{w:World}:bD E g w w:=⟨Nat.le_refl _,fun _ _ _ h _=>h⟩
theorem bD.trans{E:TypeId}{g:Nat}{w w' w'':World}(h:bD E g w w')(h2:bD E g w' w''):bD E g w w'':=
 ⟨Nat.le_trans h.1 h2.1,fun k o hk ho hn=>h2.2 k o hk (h.2 k o hk ho hn) hn⟩
theorem bD.alloc{E:TypeId}{g:Nat}{w w':World}(h:bD E g w w')(o:Obj):bD E g w (w'.alloc o):=
 h.trans ⟨by simp,fun k o' _ ho _=>((World.grownBy_alloc w' o none).block k (Array.getElem?_eq_some_iff.1 ho).1 (by simp)).trans ho⟩
theorem bD.setCell{E:TypeId}{g:Nat}{w w':World}(h:bD E g w w')(j:Nat)(v:Value):bD E g w (w'.setCell ⟨g,j,none⟩ v):=
 h.trans ⟨by simp[World.setCell],fun k o' hk ho _=>by rw[Below.heap_setCell _ _ _ _ hk];exact ho⟩
theorem bD.grown{E:TypeId}{g:Nat}{w w' w'':World}{row:Option Nat}(h:bD E g w w')(hg:w'.grownBy w'' row)(hr:∀k,row=some k->k=g\/∃cs fr,w'.heap[k]?=some (.cells cs E fr)):bD E g w w'':=
 h.trans ⟨hg.size,fun k o hk ho hn=>by
  refine (hg.block k (Array.getElem?_eq_some_iff.1 ho).1 ?_).trans ho;intro e;rcases hr k e.symm with rfl|⟨cs,fr,hc⟩
  ·exact hk rfl
  ·rw[ho] at hc;cases hc;exact hn _ _ rfl⟩
theorem bD.cells{E:TypeId}{g:Nat}{w w':World}(h:bD E g w w'){k:Nat}{cs:Array Value}{t:TypeId}(hc:ae w k cs t)(hk:k≠g)(ht:t≠E):ae w' k cs t:=
 h.2 k _ hk hc (fun cs' fr e=>by cases e;exact ht rfl)
theorem rG{α:Type}{f:α->Value}{E:TypeId}{base:Nat}{w:World}{v:Value}{l:List α}(h:aT f E base w v l):∀k,v.ownBlock=some k->∃cs fr,w.heap[k]?=some (.cells cs E fr):=by
 intro k hk;rcases h.2 with ⟨rfl,_⟩|⟨b,cap,cur,rfl,_,hg,_⟩
 ·simp[Value.ownBlock] at hk
 ·simp only[Value.ownBlock,Option.some.injEq] at hk
  subst hk;exact⟨_,_,hg⟩
def Jm(c:Nat):Bool:=decide (48<=c/\c<=57)
def oM(neg:Bool)(d:ByteArray)(e:Int):Bool:=
 if d.size=0 then !neg&&decide (e=0) else
 if 1000<d.size\/e < -10000\/10000<e then false else
 (bs d).all Jm&&(decide ((bs d)[0]?≠some 48)&&decide ((bs d)[d.size-1]?≠some 48))
theorem xz{neg:Bool}{d:ByteArray}{e:Int}(h:d.size=0):oM neg d e=(!neg&&decide (e=0)):=by rw[oM,if_pos h]
theorem rH{neg:Bool}{d:ByteArray}{e:Int}(h:d.size≠0)(h1:1000<d.size\/e < -10000\/10000<e):oM neg d e=false:=by rw[oM,if_neg h,if_pos h1]
theorem Df{neg:Bool}{d:ByteArray}{e:Int}{k:Nat}(h:k<d.size)(h1:¬(48<=(d[k]'h).toNat/\(d[k]'h).toNat<=57)):oM neg d e=false:=by
 have hm:(bs d)[k]'(by rw[ax];exact h)∈bs d:=List.getElem_mem _;rw[<-yx h] at hm
 have h2:(bs d).all Jm=false:=by
  rw[Bool.eq_false_iff];intro h3;have:=List.all_eq_true.1 h3 _ hm;simp only[Jm,decide_eq_true_eq] at this;exact h1 this
 rw[oM,if_neg (by omega),h2];simp
theorem De{neg:Bool}{d:ByteArray}{e:Int}(h0:0<d.size)(h1:¬(1000<d.size\/e < -10000\/10000<e))(h:∀k (hk:k<d.size),48<=(d[k]'hk).toNat/\(d[k]'hk).toNat<=57) :
  oM neg d e=(decide ((d[0]'h0).toNat≠48)&&decide ((d[d.size-1]'(by omega)).toNat≠48)):=by
 have h2:(bs d).all Jm=true:=by
  rw[List.all_eq_true];intro x hx;obtain⟨k,hk,rfl⟩:=List.getElem_of_mem hx;rw[ax] at hk;rw[<-yx hk]
  simpa [Jm] using h k hk
 rw[oM,if_neg (by omega),if_neg h1,h2,Bool.true_and,List.getElem?_eq_getElem (by rw[ax];exact h0),List.getElem?_eq_getElem (by rw[ax];omega),<-yx h0,<-yx (by omega)];simp
theorem Be(neg:Bool)(d:ByteArray)(e:Int)(w:World)(hd:d.size<=1048576) :
  Calls Tryz.prog 180 #[.agg #[.bool neg,.string d,.int .i64 e]] w fun r w'=>r=.returned (.bool (oM neg d e))/\Below w.heap.size w w':=by
 have Am:=ae.new w #[.bool neg,.string d,.int .i64 e] 122;have Ab:Below w.heap.size w (w.alloc (.cells #[.bool neg,.string d,.int .i64 e] 122)):=(Below.refl _ w).alloc lz _
 by_cases h0:d.size=0
 ·have hR:=Hh (xz (neg:=neg) (e:=e) h0)
  cases neg
  all_goals
   go_enter Tryz.func180,Tryz.ntmps180;go_wp2;go_ret;refine⟨?_,Ab⟩;rw[hR.out];first|rfl|(congr 2;by_cases he:e=0<;>simp[he])
 ·by_cases h1:1000<d.size\/e < -10000\/10000<e
  ·have hR:=Hh (rH (neg:=neg) h0 h1)
   have Al:1000<d.size\/(d.size<=1000/\e < -10000)\/(d.size<=1000/\-10000<=e/\10000<e):=by omega
   clear h1;have q0:((d.size:Int)==0)=false:=by rw[beq_eq_false_iff_ne];omega
   have q1:decide ((1000:Int)<(d.size:Int))=decide (1000<d.size):=by congr 1;apply propext;omega
   have q2:decide (e < -10000)=decide (e < -10000):=rfl;rcases Al with h1|⟨h1,h2⟩|⟨h1,h2,h3⟩
   all_goals
    go_enter Tryz.func180,Tryz.ntmps180;go_wp2;go_ret;refine⟨?_,Ab⟩;rw[hR.out];try rfl
  ·have H1:=Hh h1
   have h2:d.size<=1000/\-10000<=e/\e<=10000:=by omega
   clear h1;have hp:0<d.size:=by omega
   go_enter Tryz.func180,Tryz.ntmps180;go_wp2_with fail;go_loop [31] (fun i=>∃k:Nat,k<=d.size/\i=.int .i64 (k:Int)/\∀j (hj:j<d.size),j<k->48<=(d[j]'hj).toNat/\(d[j]'hj).toNat<=57) (fun i=>d.size-(intOf i).toNat)
   case atStart=>exact⟨0,Nat.zero_le _,rfl,fun j _ h=>by omega⟩
   case round=>
    obtain⟨k,hk,rfl,Aa⟩:=hrel;have HA:=Hh Aa;clear Aa;obtain⟨Ad,Ag,Ae,Ah,Af,Ai⟩:=Am.n3 rfl
    by_cases hkl:k<d.size
    ·by_cases hdg:48<=(d[k]'hkl).toNat/\(d[k]'hkl).toNat<=57
     ·have Ak:Hid (∀j (hj:j<d.size),j<k+1->48<=(d[j]'hj).toNat/\(d[j]'hj).toNat<=57):=Hh (fun j hj h=>by
       by_cases hjk:j=k
       ·subst hjk;exact hdg
       ·exact HA.out j hj (by omega))
      clear HA;go_wp2;go_round
      case rel=>exact⟨k+1,by omega,by go_num,Ak.out⟩
      case measure=>simp[intOf];omega
     ·have hR:=Hh (Df (neg:=neg) (e:=e) hkl hdg)
      have Ac:(d[k]'hkl).toNat<48\/(48<=(d[k]'hkl).toNat/\57<(d[k]'hkl).toNat):=by omega
      clear hdg;rcases Ac with hdg|hdg
      all_goals
       go_wp2;go_ret;refine⟨?_,Ab⟩;rw[hR.out];try rfl
    ·obtain rfl:k=d.size:=by omega
     have hR:=Hh (De (neg:=neg) hp H1.out (fun j hj=>HA.out j hj hj))
     by_cases hz:(d[0]'hp).toNat=48
     ·go_wp2
      go_ret;refine⟨?_,Ab⟩;rw[hR.out];simp[hz]
     ·go_wp2
      go_ret;refine⟨?_,Ab⟩;rw[hR.out];have Aj:¬(((d[0]'hp).toNat:Int)=48):=by omega
      by_cases hy:(d[d.size-1]'(by omega)).toNat=48
      ·simp[hz,Aj,hy,bne]
      ·have An:¬(((d[d.size-1]'(by omega)).toNat:Int)=48):=by omega
       simp[hz,Aj,hy,An,bne]
end Go.Proofs.YtbcdaaobbebooaaGreatDoor
namespace Go.Proofs.YtbcdaaobbebooaaGreatDoor
abbrev Bs:=List UInt8
def dg(c:UInt8):Bool:=Jm c.toNat
def bC:Bs->Nat
 |[]=>0
 |c::l=>if dg c then bC l+1 else 0
theorem kr:∀l:Bs,bC l<=l.length
 |[]=>Nat.le_refl _
 | c::l=>by
  have:=kr l;simp only[bC,List.length_cons];split<;>omega
theorem pM:∀(a b:Bs),a.all dg=true->bC (a++b)=a.length+bC b
 |[],b,_=>by simp
 | c::a,b,h=>by
  rw[List.all_cons,Bool.and_eq_true] at h;rw[List.cons_append,bC,if_pos h.1,pM a b h.2,List.length_cons];omega
theorem qw:∀l:Bs,(l.take (bC l)).all dg=true
 |[]=>rfl
 | c::l=>by
  rw[bC];split
  ·next h=>rw[List.take_succ_cons,List.all_cons,h,qw l];rfl
  ·rfl
theorem uL:∀(l:Bs),(∀c,l.head?=some c->dg c=false)->bC l=0
 |[],_=>rfl
 |c::l,h=>by rw[bC,h c rfl];rfl
def bX:Bs->Nat
 |[]=>0
 |p::l=>if p=46/\bC l≠0 then 1+bC l else 0
def mQ:Bs->Nat
 |[]=>0
 |c::_=>if c=43\/c=45 then 1 else 0
def iF:Bs->Nat
 |[]=>0
 |m::t=>if (m=101\/m=69)/\bC (t.drop (mQ t))≠0 then 1+mQ t+bC (t.drop (mQ t)) else 0
def eF:Bs->Nat
 |[]=>0
 |c::l=>if c=48 then 1 else bC (c::l)
def lQ:Bs->Nat
 |[]=>0
 |c::_=>if c=45 then 1 else 0
def fT(l:Bs):Nat:=bX l+iF (l.drop (bX l))
def cB(l:Bs):Nat:=
 if eF (l.drop (lQ l))=0 then 0 else lQ l+eF (l.drop (lQ l))+fT (l.drop (lQ l+eF (l.drop (lQ l))))
def ib(c:UInt8):Nat:=if c=45 then 0 else if c=43 then 1 else if c=48 then 2 else if 49<=c.toNat/\c.toNat<=57 then 3 else if c=46 then 4 else if c=101\/c=69 then 5 else 6
def aR:List Nat:=[1,9,2,3,9,9,9, 9,9,2,3,9,9,9, 9,9,9,9,4,6,9, 9,9,3,3,4,6,9, 9,9,5,5,9,9,9, 9,9,5,5,9,6,9, 7,7,8,8,9,9,9, 9,9,8,8,9,9,9, 9,9,8,8,9,9,9]
def bn(st sg:Nat):Nat:=aR.getD (7*st+sg) 9
def dn(st:Nat):Bool:=st==2 || (st==3 || (st==5 || st==8))
def nO:Nat->Nat->Nat->Bs->Nat
 |_,_,L,[]=>L
 |st,i,L,c::l=>if bn st (ib c)=9 then L else nO (bn st (ib c)) (i+1) (if dn (bn st (ib c)) then i+1 else L) l
inductive u6(c:UInt8):Prop
 |minus:c=45->dg c=false->ib c=0->u6 c
 |plus:c=43->dg c=false->ib c=1->u6 c
 |nought:c=48->dg c=true->ib c=2->u6 c
 |digit:dg c=true->c≠48->c≠45->c≠43->c≠46->c≠101->c≠69->ib c=3->u6 c
 |point:c=46->dg c=false->ib c=4->u6 c
 |mark:(c=101\/c=69)->c≠46->c≠45->c≠43->c≠48->dg c=false->ib c=5->u6 c
 |other:c≠45->c≠43->c≠48->dg c=false->c≠46->c≠101->c≠69->ib c=6->u6 c
theorem qL(c:UInt8):u6 c:=by
 by_cases h1:c=45
 ·subst h1;exact .minus rfl rfl rfl
 by_cases h2:c=43
 ·subst h2;exact .plus rfl rfl rfl
 by_cases h3:c=48
 ·subst h3;exact .nought rfl rfl rfl
 by_cases h4:49<=c.toNat/\c.toNat<=57
 ·refine .digit (by simp only[dg,Jm,decide_eq_true_eq];omega) h3 h1 h2 ?_ ?_ ?_ (by rw[ib,if_neg h1,if_neg h2,if_neg h3,if_pos h4])<;>(rintro rfl;revert h4;decide)
 have hd:dg c=false:=by
  rw[Bool.eq_false_iff];intro h;simp only[dg,Jm,decide_eq_true_eq] at h;have:c.toNat≠48:=fun e=>h3 (UInt8.toNat_inj.1 e);omega
 by_cases h5:c=46
 ·subst h5;exact .point rfl rfl rfl
 by_cases h6:c=101\/c=69
 ·exact .mark h6 h5 h1 h2 h3 hd (by rw[ib,if_neg h1,if_neg h2,if_neg h3,if_neg h4,if_neg h5,if_pos h6])
 ·exact .other h1 h2 h3 hd h5 (fun h=>h6 (.inl h)) (fun h=>h6 (.inr h)) (by rw[ib,if_neg h1,if_neg h2,if_neg h3,if_neg h4,if_neg h5,if_neg h6])
theorem gL(st i L:Nat)(c:UInt8)(l:Bs):nO st i L (c::l)=if bn st (ib c)=9 then L else nO (bn st (ib c)) (i+1) (if dn (bn st (ib c)) then i+1 else L) l:=rfl
theorem LK:∀(l:Bs) (i:Nat),nO 8 i i l=i+bC l
 |[],i=>rfl
 | c::l,i=>by
  have ih:=LK l (i+1);rw[gL,bC];cases qL c<;>simp_all [bn,aR,dn]<;>omega
theorem O7(l:Bs)(i L:Nat):nO 7 i L l=if bC l=0 then L else i+bC l:=by
 cases l with
 |nil=>rfl
 |cons c l=>
  have ih:=LK l (i+1);rw[gL,bC];cases qL c<;>simp_all [bn,aR,dn]<;>omega
theorem LM(m:UInt8)(l:Bs)(i:Nat)(hm:m=101\/m=69):nO 6 (i+1) i l=i+iF (m::l):=by
 rw[iF];simp only[hm,true_and]
 cases l with
 |nil=>rfl
 |cons c l=>
  have ih:=LK l (i+2);have i7:=O7 l (i+2) i;rw[gL,mQ]
  cases qL c with
  | minus h h2 h3=>
   subst h;simp[bn,aR,dn,h3,i7]
   split<;>omega
  |plus h h2 h3=>
   subst h;simp[bn,aR,dn,h3,i7]
   split<;>omega
  |nought h h2 h3=>
   subst h;simp[bn,aR,dn,h3,ih,bC,h2]
   omega
  |digit h h1 h2 h4 h5 h6 h7 h3=>
   simp[bn,aR,dn,h3,ih,bC,h,h2,h4]
   omega
  |point h h2 h3=>
   subst h;simp[bn,aR,h3,bC,h2]
  |mark h h1 h2 h4 h5 h6 h3=>
   simp[bn,aR,h3,bC,h2,h4,h6]
  |other h h1 h2 h4 h5 h6 h7 h3=>
   simp[bn,aR,h3,bC,h,h1,h4]
theorem NH:∀(l:Bs) (i:Nat),nO 5 i i l=i+bC l+iF (l.drop (bC l))
 |[],i=>rfl
 | c::l,i=>by
  have ih:=NH l (i+1);have i6:=LM c l i;rw[gL,bC]
  cases qL c with
  |minus h h2 h3=>subst h;simp[bn,aR,h3,h2,iF]
  |plus h h2 h3=>subst h;simp[bn,aR,h3,h2,iF]
  |nought h h2 h3=>subst h;simp[bn,aR,dn,h3,h2,ih];omega
  |digit h h1 h2 h4 h5 h6 h7 h3=>simp[bn,aR,dn,h3,h,ih];omega
  |point h h2 h3=>subst h;simp[bn,aR,h3,h2,iF]
  |mark h h1 h2 h4 h5 h6 h3=>simp[bn,aR,dn,h3,h6,i6 h]
  |other h h1 h2 h4 h5 h6 h7 h3=>simp[bn,aR,h3,h4,iF,h6,h7]
theorem NI(l:Bs)(i:Nat):nO 4 (i+1) i l=i+fT (46::l):=by
 cases l with
 |nil=>rfl
 |cons c l=>
  have ih:=NH l (i+2);rw[gL,fT,bX,bC];have hp:∀x,iF (46::x)=0:=fun x=>by simp[iF]
  cases qL c with
  |minus h h2 h3=>subst h;simp[bn,aR,h3,h2,hp]
  |plus h h2 h3=>subst h;simp[bn,aR,h3,h2,hp]
  |nought h h2 h3=>subst h;simp[bn,aR,dn,h3,h2,ih,Nat.add_comm 1];omega
  |digit h h1 h2 h4 h5 h6 h7 h3=>simp[bn,aR,dn,h3,h,ih,Nat.add_comm 1];omega
  |point h h2 h3=>subst h;simp[bn,aR,h3,h2,hp]
  |mark h h1 h2 h4 h5 h6 h3=>simp[bn,aR,h3,h6,hp]
  |other h h1 h2 h4 h5 h6 h7 h3=>simp[bn,aR,h3,h4,hp]
theorem NJ(l:Bs)(i:Nat):nO 2 i i l=i+fT l:=by
 cases l with
 |nil=>rfl
 |cons c l=>
  have i4:=NI l i;have i6:=LM c l i;rw[gL]
  cases qL c with
  |minus h h2 h3=>subst h;simp[bn,aR,h3,fT,bX,iF]
  |plus h h2 h3=>subst h;simp[bn,aR,h3,fT,bX,iF]
  |nought h h2 h3=>subst h;simp[bn,aR,h3,fT,bX,iF]
  |digit h h1 h2 h4 h5 h6 h7 h3=>simp[bn,aR,h3,fT,bX,iF,h5,h6,h7]
  |point h h2 h3=>subst h;simp[bn,aR,dn,h3,i4]
  |mark h h1 h2 h4 h5 h6 h3=>simp[bn,aR,dn,h3,i6 h,fT,bX,h1]
  |other h h1 h2 h4 h5 h6 h7 h3=>simp[bn,aR,h3,fT,bX,iF,h5,h6,h7]
theorem LQ:∀(l:Bs) (i:Nat),nO 3 i i l=i+bC l+fT (l.drop (bC l))
 |[],i=>rfl
 | c::l,i=>by
  have ih:=LQ l (i+1);have i4:=NI l i;have i6:=LM c l i;rw[gL,bC]
  cases qL c with
  |minus h h2 h3=>subst h;simp[bn,aR,h3,h2,fT,bX,iF]
  |plus h h2 h3=>subst h;simp[bn,aR,h3,h2,fT,bX,iF]
  |nought h h2 h3=>subst h;simp[bn,aR,dn,h3,h2,ih];omega
  |digit h h1 h2 h4 h5 h6 h7 h3=>simp[bn,aR,dn,h3,h,ih];omega
  |point h h2 h3=>subst h;simp[bn,aR,dn,h3,h2,i4]
  |mark h h1 h2 h4 h5 h6 h3=>simp[bn,aR,dn,h3,i6 h,fT,bX,h1,h6]
  |other h h1 h2 h4 h5 h6 h7 h3=>simp[bn,aR,h3,h4,fT,bX,iF,h5,h6,h7]
theorem O8(l:Bs)(i:Nat):nO 1 i 0 l=if eF l=0 then 0 else i+eF l+fT (l.drop (eF l)):=by
 cases l with
 |nil=>rfl
 |cons c l=>
  have i2:=NJ l (i+1);have i3:=LQ l (i+1);rw[gL,eF]
  cases qL c with
  |minus h h2 h3=>subst h;simp[bn,aR,h3,h2,bC]
  |plus h h2 h3=>subst h;simp[bn,aR,h3,h2,bC]
  |nought h h2 h3=>subst h;simp[bn,aR,dn,h3,i2]
  |digit h h1 h2 h4 h5 h6 h7 h3=>simp[bn,aR,dn,h3,h,i3,h1,bC];omega
  |point h h2 h3=>subst h;simp[bn,aR,h3,h2,bC]
  |mark h h1 h2 h4 h5 h6 h3=>simp[bn,aR,h3,h5,h6,bC]
  |other h h1 h2 h4 h5 h6 h7 h3=>simp[bn,aR,h3,h2,h4,bC]
theorem Jy(l:Bs):nO 0 0 0 l=cB l:=by
 cases l with
 |nil=>rfl
 |cons c l=>
  have i1:=O8 l 1;have i2:=NJ l 1;have i3:=LQ l 1;rw[gL,cB,lQ]
  cases qL c with
  |minus h h2 h3=>subst h;simp[bn,aR,dn,h3,i1,Nat.add_comm 1,Nat.add_assoc]
  |plus h h2 h3=>subst h;simp[bn,aR,h3,h2,eF,bC]
  |nought h h2 h3=>subst h;simp[bn,aR,dn,h3,i2,eF]
  |digit h h1 h2 h4 h5 h6 h7 h3=>simp[bn,aR,dn,h3,h,i3,h1,h2,bC,eF];omega
  |point h h2 h3=>subst h;simp[bn,aR,h3,h2,eF,bC]
  |mark h h1 h2 h4 h5 h6 h3=>simp[bn,aR,h3,h5,h6,h2,eF,bC]
  |other h h1 h2 h4 h5 h6 h7 h3=>simp[bn,aR,h3,h,h2,h4,eF,bC]
end Go.Proofs.YtbcdaaobbebooaaGreatDoor
namespace Go.Proofs.YtbcdaaobbebooaaGreatDoor
structure bg(l:Bs)(neg:Bool)(ip fr mk sg pw:Bs):Prop where
 eq:l=(if neg then [45] else [])++(ip++((if fr=[] then [] else 46::fr)++(mk++(sg++pw))))
 dip:ip.all dg=true
 dfr:fr.all dg=true
 dpw:pw.all dg=true
 ip0:ip≠[]
 lead:ip.head?=some 48->ip.length=1
 exp:(mk=[]/\sg=[]/\pw=[])\/((mk=[101]\/mk=[69])/\(sg=[]\/sg=[43]\/sg=[45])/\pw≠[])
theorem pR{l:Bs}(h:l.all dg=true){c:UInt8}(hc:l.head?=some c):dg c=true:=by
 cases l with
 |nil=>simp at hc
 |cons a l=>simp at hc;subst hc;rw[List.all_cons,Bool.and_eq_true] at h;exact h.1
theorem qQ{c:UInt8}(h:dg c=true):48<=c.toNat/\c.toNat<=57:=by simpa [dg,Jm] using h
theorem qP{c:UInt8}(h:dg c=true){d:UInt8}(hd:dg d=false):c≠d:=by rintro rfl;rw[h] at hd;cases hd
theorem Lr(l:Bs)(h:l.all dg=true):bC l=l.length:=by
 have:=pM l [] h;rw[List.append_nil] at this;rw[this];rfl
theorem om{l:Bs}(h:l≠[]):l.length≠0:=fun e=>h (List.eq_nil_of_length_eq_zero e)
section
variable {l:Bs} {neg:Bool} {ip fr mk sg pw:Bs}
theorem bg.pow(h:bg l neg ip fr mk sg pw):iF (mk++(sg++pw))=(mk++(sg++pw)).length:=by
 rcases h.exp with ⟨rfl,rfl,rfl⟩|⟨hm,hs,hp⟩
 ·rfl
 ·have hl:bC pw=pw.length:=Lr pw h.dpw
  have Ab:=om hp
  have hh:sg=[]->mQ pw=0:=fun _=>by
   cases pw with
   |nil=>exact absurd rfl hp
   |cons c p=>
    have hc:=pR h.dpw (c:=c) rfl;rw[mQ,if_neg];intro e;rcases e with rfl|rfl<;>revert hc<;>decide
  have Aa:mQ (sg++pw)=sg.length/\(sg++pw).drop (mQ (sg++pw))=pw:=by
   rcases hs with rfl|rfl|rfl
   ·rw[List.nil_append,hh rfl];exact⟨rfl,rfl⟩
   ·exact⟨rfl,rfl⟩
   ·exact⟨rfl,rfl⟩
  have Ac:∃m,mk=[m]/\(m=101\/m=69):=by rcases hm with rfl|rfl<;>simp
  obtain⟨m,rfl,Ad⟩:=Ac;rw[List.singleton_append,iF,Aa.2,hl,if_pos ⟨Ad,Ab⟩,Aa.1,List.length_cons,List.length_append];omega
theorem bg.pow_head(h:bg l neg ip fr mk sg pw){c:UInt8}(hc:(mk++(sg++pw)).head?=some c):dg c=false/\c≠46:=by
 rcases h.exp with ⟨rfl,rfl,rfl⟩|⟨hm,hs,hp⟩
 ·simp at hc
 ·rcases hm with rfl|rfl<;>(simp at hc;subst hc;decide)
theorem bg.tail(h:bg l neg ip fr mk sg pw):fT ((if fr=[] then [] else 46::fr)++(mk++(sg++pw)))=((if fr=[] then [] else 46::fr)++(mk++(sg++pw))).length:=by
 have hp:=h.pow;have hh:=fun c=>h.pow_head (c:=c);generalize mk++(sg++pw)=r at hp hh ⊢
 by_cases hf:fr=[]
 ·rw[if_pos hf,List.nil_append,fT]
  have:bX r=0:=by
   cases r with
   |nil=>rfl
   |cons c r=>rw[bX,if_neg];intro e;exact (hh c rfl).2 e.1
  rw[this,List.drop_zero,hp,Nat.zero_add]
 ·rw[if_neg hf,fT,List.cons_append]
  have hd:bC (fr++r)=fr.length:=by rw[pM _ _ h.dfr,uL r (fun c hc=>(hh c hc).1)];rfl
  have:bX (46::(fr++r))=1+fr.length:=by
   rw[bX,hd,if_pos ⟨rfl,om hf⟩]
  rw[this,Nat.add_comm 1,List.drop_succ_cons,List.drop_left,hp,List.length_cons,List.length_append];omega
theorem bg.int(h:bg l neg ip fr mk sg pw):eF (ip++((if fr=[] then [] else 46::fr)++(mk++(sg++pw))))=ip.length:=by
 have hr:∀c,((if fr=[] then [] else 46::fr)++(mk++(sg++pw))).head?=some c->dg c=false:=by
  intro c hc
  by_cases hf:fr=[]
  ·rw[if_pos hf,List.nil_append] at hc;exact (h.pow_head hc).1
  ·rw[if_neg hf] at hc;simp at hc;subst hc;decide
 generalize (if fr=[] then [] else 46::fr)++(mk++(sg++pw))=r at hr;have hi:=h.ip0;have hl:=h.lead;have hd:=h.dip;have hx:bC (ip++r)=ip.length:=by rw[pM _ _ hd,uL r hr];rfl
 cases ip with
 |nil=>exact absurd rfl hi
 |cons c p=>
  rw[List.cons_append,eF];split
  ·next e=>subst e;exact (hl rfl).symm
  ·rw[<-List.cons_append,hx]
theorem bg.mn(h:bg l neg ip fr mk sg pw):lQ l=(if neg then 1 else 0)/\l.drop (lQ l)=ip++((if fr=[] then [] else 46::fr)++(mk++(sg++pw))):=by
 have he:=h.eq;have hi:=h.ip0;have hd:=h.dip;generalize (if fr=[] then [] else 46::fr)++(mk++(sg++pw))=r at he
 cases neg with
 |true=>subst he;exact⟨rfl,rfl⟩
 |false=>
  subst he
  have:lQ (ip++r)=0:=by
   cases ip with
   |nil=>exact absurd rfl hi
   |cons c p=>
    have hc:=pR hd (c:=c) rfl;rw[List.cons_append,lQ,if_neg];rintro rfl
    revert hc;decide
  refine⟨?_,?_⟩
  ·simpa using this
  ·show (ip++r).drop (lQ (ip++r))=_
   rw[this];rfl
theorem bg.scan(h:bg l neg ip fr mk sg pw):cB l=l.length/\l≠[]:=by
 have hi:=om h.ip0;have hm:=h.mn
 have hl:l.length=lQ l+(l.drop (lQ l)).length:=by
  have:=congrArg List.length h.eq;rw[hm.2,hm.1,this,List.length_append];cases neg<;>rfl
 refine⟨?_,fun e=>by subst e;have:=h.eq;cases neg<;>simp at this;exact h.ip0 this.1⟩;rw[hm.2,List.length_append] at hl;rw[cB,hm.2,h.int,if_neg hi,<-List.drop_drop,hm.2,List.drop_left,h.tail,hl];omega
end
theorem IB(l:Bs)(h:iF l=l.length):∃mk sg pw,l=mk++(sg++pw)/\pw.all dg=true/\((mk=[]/\sg=[]/\pw=[])\/((mk=[101]\/mk=[69])/\(sg=[]\/sg=[43]\/sg=[45])/\pw≠[])):=by
 cases l with
 |nil=>exact⟨[],[],[],rfl,rfl,.inl ⟨rfl,rfl,rfl⟩⟩
 |cons m t=>
  rw[iF] at h;split at h
  ·next hc=>
   obtain⟨hm,hd⟩:=hc;rw[List.length_cons] at h
   have hs:mQ t<=t.length:=by
    cases t with
    |nil=>exact Nat.le_refl _
    |cons c t=>rw[mQ];split<;>simp
   have hl:(t.drop (mQ t)).length=t.length-mQ t:=by simp
   have Aa:(t.drop (mQ t)).all dg=true:=by
    have:=qw (t.drop (mQ t));rw[show bC (t.drop (mQ t))=(t.drop (mQ t)).length by omega,List.take_length] at this;exact this
   refine⟨[m],t.take (mQ t),t.drop (mQ t),by rw[List.take_append_drop];rfl,Aa,.inr ⟨by rcases hm with rfl|rfl<;>simp,?_,fun e=>hd (by rw[e];rfl)⟩⟩
   cases t with
   |nil=>exact .inl rfl
   |cons c t=>
    rw[mQ];split
    ·next hc=>rcases hc with rfl|rfl<;>simp
    ·simp
  ·simp at h
theorem FJ(l:Bs):∃fr,l.take (bX l)=(if fr=[] then [] else 46::fr)/\fr.all dg=true:=by
 cases l with
 |nil=>exact⟨[],rfl,rfl⟩
 |cons p l=>
  rw[bX];split
  ·next h=>
   obtain⟨rfl,hd⟩:=h
   have Aa:l.take (bC l)≠[]:=by
    intro e;have h1:=congrArg List.length e;have h2:=kr l;rw[List.length_take,Nat.min_eq_left h2] at h1;exact hd (by simpa using h1)
   exact⟨l.take (bC l),by rw[if_neg Aa,Nat.add_comm 1,List.take_succ_cons],qw l⟩
  ·exact⟨[],rfl,rfl⟩
theorem qN(l:Bs)(h:cB l=l.length)(h0:l≠[]):∃neg ip fr mk sg pw,bg l neg ip fr mk sg pw:=by
 rw[cB] at h;have Ah:=om h0;split at h
 ·omega
 ·next hi=>
  have Ai:lQ l<=l.length:=by
   cases l with
   |nil=>exact Nat.le_refl _
   |cons c l=>rw[lQ];split<;>simp
  have Ad:∀l:Bs,eF l<=l.length:=by
   intro l
   cases l with
   |nil=>exact Nat.le_refl _
   |cons c l=>rw[eF];split;(· simp);(· exact kr _)
  have Af:=Ad (l.drop (lQ l));rw[<-List.drop_drop] at h;have e1:l=l.take (lQ l)++l.drop (lQ l):=(List.take_append_drop _ _).symm
  have e2:l.take (lQ l)=(if decide (lQ l=1) then [45] else []):=by
   cases l with
   |nil=>rfl
   |cons c l=>
    rw[lQ];split
    ·next e=>subst e;rfl
    ·rfl
  have Ae:(l.drop (lQ l)).length=l.length-lQ l:=by simp
  generalize l.drop (lQ l)=a at *;have e3:a=a.take (eF a)++a.drop (eF a):=(List.take_append_drop _ _).symm;have Aa:(a.drop (eF a)).length=a.length-eF a:=by simp
  have d3:(a.take (eF a)).all dg=true/\(a.take (eF a)≠[])/\((a.take (eF a)).head?=some 48->(a.take (eF a)).length=1):=by
   cases a with
   |nil=>exact absurd rfl hi
   |cons c a=>
    rw[eF] at hi ⊢;split
    ·next e=>subst e;exact⟨rfl,by simp,fun _=>rfl⟩
    ·next e=>
     rw[if_neg e] at hi;refine⟨qw _,fun e2=>?_,fun e2=>?_⟩
     ·have h1:=congrArg List.length e2
      have h2:=kr (c::a);rw[List.length_take,Nat.min_eq_left h2] at h1;exact hi (by simpa using h1)
     ·have:∃k,bC (c::a)=k+1:=⟨bC (c::a)-1,by omega⟩
      obtain⟨k,hk⟩:=this;rw[hk,List.take_succ_cons] at e2;simp at e2
      exact absurd e2 e
  generalize a.take (eF a)=ip at *;generalize a.drop (eF a)=b at *;have hb:fT b=b.length:=by omega
  rw[fT] at hb;have e4:b=b.take (bX b)++b.drop (bX b):=(List.take_append_drop _ _).symm;obtain⟨fr,hf,Ac⟩:=FJ b
  have Ag:bX b<=b.length:=by
   cases b with
   |nil=>exact Nat.le_refl _
   |cons c b=>rw[bX];have:=kr b;split<;>simp;omega
  have Ab:(b.drop (bX b)).length=b.length-bX b:=by simp
  obtain⟨mk,sg,pw,h5,h6,h7⟩:=IB (b.drop (bX b)) (by omega);refine⟨decide (lQ l=1),ip,fr,mk,sg,pw,⟨?_,d3.1,Ac,h6,d3.2.1,d3.2.2,h7⟩⟩;rw[<-h5,<-hf,<-e4,<-e3,<-e2];exact e1
def iM(ip fr:Bs):Bs:=Lib.trimLeftB (ip++fr) 48
def gF(ip fr:Bs):Bs:=Lib.trimRightB (iM ip fr) 48
def BZ(ip fr:Bs)(p:Int):Int:=p-fr.length+((iM ip fr).length-(gF ip fr).length:Nat)
def gq(neg:Bool)(ip fr:Bs)(p:Int):(Bool×Bs×Int)×Int:=
 if gF ip fr=[] then ((false,[],0),0) else if oM neg ⟨(gF ip fr).toArray⟩ (BZ ip fr p) then ((neg,gF ip fr,BZ ip fr p),0) else ((false,[],0),4)
def jJ(n:Nat)(c:UInt8):Nat:=min (n*10+(c.toNat-48)) 1099511627776
def qH(n:Nat)(c:UInt8):Nat:=if n<1000000000 then n*10+(c.toNat-48) else n
def NS(sg:Bs)(n:Nat):Int:=if sg=[45] then -(n:Int) else n
def nX(sg pw:Bs):Int:=NS sg (pw.foldl jJ 0)
def vz(sg pw:Bs):Int:=NS sg (pw.foldl qH 0)
theorem CU:∀(pw:Bs) (a b:Nat),pw.all dg=true->(a=b/\a<1000000000\/1000000000<=a/\1000000000<=b)->(pw.foldl jJ a=pw.foldl qH b/\pw.foldl jJ a<1000000000\/1000000000<=pw.foldl jJ a/\1000000000<=pw.foldl qH b)
 |[],_,_,_,h=>h
 | c::pw,a,b,hd,h=>by
  rw[List.all_cons,Bool.and_eq_true] at hd;have hc:=qQ hd.1;rw[List.foldl_cons,List.foldl_cons];refine CU pw _ _ hd.2 ?_;unfold jJ qH;rcases h with ⟨rfl,h⟩|⟨h1,h2⟩
  ·rw[if_pos h];omega
  ·rw[if_neg (by omega)];omega
theorem Cb(l:Bs):(Lib.trimRightB l 48).length<=l.length:=by
 rw[Lib.trimRightB,List.length_reverse];have:=(List.dropWhile_sublist (fun x=>x==(48:UInt8)) (l:=l.reverse)).length_le
 simpa using this
theorem ww(l:Bs):(Lib.trimLeftB l 48).length<=l.length:=(List.dropWhile_sublist _).length_le
theorem KD{neg:Bool}{d:ByteArray}{e:Int}(h0:d.size≠0)(h:e < -10000\/10000<e):oM neg d e=false:=rH h0 (.inr h)
theorem Dc(neg:Bool)(ip fr sg pw:Bs)(hd:pw.all dg=true)(hl:ip.length+fr.length<=100000000):gq neg ip fr (nX sg pw)=gq neg ip fr (vz sg pw):=by
 rcases CU pw 0 0 hd (.inl ⟨rfl,by omega⟩) with ⟨h,_⟩|⟨h1,h2⟩
 ·rw[nX,vz,h]
 ·unfold gq
  by_cases hc:gF ip fr=[]
  ·rw[if_pos hc,if_pos hc]
  ·have h3:(iM ip fr).length<=ip.length+fr.length:=by rw[<-List.length_append];exact ww _
   have hz:(⟨(gF ip fr).toArray⟩:ByteArray).size≠0:=by
    show (gF ip fr).toArray.size≠0
    simpa using hc
   have f:∀n:Nat,1000000000<=n->oM neg ⟨(gF ip fr).toArray⟩ (BZ ip fr (NS sg n))=false:=by
    intro n hn;refine KD hz ?_;unfold BZ NS;split<;>omega
   rw[if_neg hc,if_neg hc,nX,vz,f _ h1,f _ h2];rfl
end Go.Proofs.YtbcdaaobbebooaaGreatDoor
namespace Go.Proofs.YtbcdaaobbebooaaGreatDoor
def j4(c:Nat):Bool:=decide (c<=1114111)&&(decide (c<55296) || decide (57343<c))
def pY(c:Nat):Nat:=if c<128 then 1 else if c<2048 then 2 else if c<65536 then 3 else 4
def fM(c:Nat):List Nat:=
 if c<128 then [c] else if c<2048 then [192+c / 64,128+c % 64] else if c<65536 then [224+c / 4096,128+c / 64 % 64,128+c % 64]
 else [240+c / 262144,128+c / 4096 % 64,128+c / 64 % 64,128+c % 64]
def gm(c:Nat):List UInt8:=(fM c).map UInt8.ofNat
theorem jm(c:Nat):(gm c).length=pY c:=by
 unfold gm fM pY;split
 ·rfl
 split
 ·rfl
 split<;>rfl
def dV(b:Nat):Nat:=if b<128 then 1 else if b<192 then 0 else if b<224 then 2 else if b<240 then 3 else if b<248 then 4 else 0
def aF:List Nat->Nat×Nat
 |[]=>(0,0)
 |a::r=>
  if a<128 then (a,1)
  else if a<192 then (0,0)
  else if a<224 then match r with
   |b::_=>if b / 64=2/\128<=(a-192)*64+(b-128) then ((a-192)*64+(b-128),2) else (0,0)
   |_=>(0,0)
  else if a<240 then match r with
   |b::c::_=>if b / 64=2/\c / 64=2/\2048<=((a-224)*64+(b-128))*64+(c-128)/\j4 (((a-224)*64+(b-128))*64+(c-128)) then (((a-224)*64+(b-128))*64+(c-128),3) else (0,0)
   |_=>(0,0)
  else if a<248 then match r with
   |b::c::d::_=>if b / 64=2/\c / 64=2/\d / 64=2/\65536<=(((a-240)*64+(b-128))*64+(c-128))*64+(d-128)/\j4 ((((a-240)*64+(b-128))*64+(c-128))*64+(d-128)) then ((((a-240)*64+(b-128))*64+(c-128))*64+(d-128),4) else (0,0)
   |_=>(0,0)
  else (0,0)
theorem dm{c:Nat}:j4 c=true↔c<=1114111/\(c<55296\/57343<c):=by simp[j4]
theorem Da{c:Nat}(h:j4 c=true)(more:List Nat):aF (fM c++more)=(c,pY c):=by
 rw[dm] at h;unfold fM pY
 by_cases h1:c<128
 ·simp[h1,aF]
 by_cases h2:c<2048
 ·rw[if_neg h1,if_pos h2,if_neg h1,if_pos h2]
  simp only[List.cons_append,List.nil_append,aF];rw[if_neg (by omega),if_neg (by omega),if_pos (by omega),if_pos (by omega)];exact congrArg (fun x=>(x,2)) (by omega)
 by_cases h3:c<65536
 ·rw[if_neg h1,if_neg h2,if_pos h3,if_neg h1,if_neg h2,if_pos h3]
  simp only[List.cons_append,List.nil_append,aF,dm];rw[if_neg (by omega),if_neg (by omega),if_neg (by omega),if_pos (by omega),if_pos (by omega)];exact congrArg (fun x=>(x,3)) (by omega)
 ·rw[if_neg h1,if_neg h2,if_neg h3,if_neg h1,if_neg h2,if_neg h3]
  simp only[List.cons_append,List.nil_append,aF,dm];rw[if_neg (by omega),if_neg (by omega),if_neg (by omega),if_neg (by omega),if_pos (by omega),if_pos (by omega)];exact congrArg (fun x=>(x,4)) (by omega)
theorem kw{l:List Nat}{c n:Nat}(hl:∀x∈l,x<256)(h:aF l=(c,n))(hn:n≠0):j4 c=true/\pY c=n/\fM c=l.take n/\n<=l.length:=by
 match l with
 |[]=>simp[aF] at h;omega
 |a::r=>
  have ha:=hl a (by simp);simp only[aF] at h
  by_cases h1:a<128
  ·rw[if_pos h1] at h
   simp only[Prod.mk.injEq] at h;obtain⟨rfl,rfl⟩:=h;rw[dm];simp[pY,fM,h1];omega
  rw[if_neg h1] at h
  by_cases h2:a<192
  ·rw[if_pos h2] at h;simp at h;omega
  rw[if_neg h2] at h
  by_cases h3:a<224
  ·rw[if_pos h3] at h
   match r with
   |[]=>simp at h;omega
   |b::r'=>
    simp only at h
    by_cases hc:b / 64=2/\128<=(a-192)*64+(b-128)
    ·rw[if_pos hc] at h
     simp only[Prod.mk.injEq] at h;obtain⟨h5,rfl⟩:=h;have Ab:c<2048:=by omega
     have Aa:¬c<128:=by omega
     rw[dm];refine⟨by omega,by simp[pY,Aa,Ab],?_,by simp⟩;simp only[fM,if_neg Aa,if_pos Ab,List.take_succ_cons,List.take_zero,List.cons.injEq,and_true];omega
    ·rw[if_neg hc] at h;simp at h;omega
  rw[if_neg h3] at h
  by_cases h4:a<240
  ·rw[if_pos h4] at h
   match r with
   |[]=>simp at h;omega
   |[b]=>simp at h;omega
   |b::d::r'=>
    simp only[dm] at h
    by_cases hc:b / 64=2/\d / 64=2/\2048<=((a-224)*64+(b-128))*64+(d-128)/\((a-224)*64+(b-128))*64+(d-128)<=1114111/\(((a-224)*64+(b-128))*64+(d-128)<55296\/57343<((a-224)*64+(b-128))*64+(d-128))
    ·rw[if_pos hc] at h
     simp only[Prod.mk.injEq] at h;obtain⟨h5,rfl⟩:=h;have Ac:c<65536:=by omega
     have Ab:¬c<2048:=by omega
     have Aa:¬c<128:=by omega
     rw[dm];refine⟨by omega,by simp[pY,Aa,Ab,Ac],?_,by simp⟩;simp only[fM,if_neg Aa,if_neg Ab,if_pos Ac,List.take_succ_cons,List.take_zero,List.cons.injEq,and_true];omega
    ·rw[if_neg hc] at h;simp at h;omega
  rw[if_neg h4] at h
  by_cases h5:a<248
  ·rw[if_pos h5] at h
   match r with
   |[]=>simp at h;omega
   |[b]=>simp at h;omega
   |[b,d]=>simp at h;omega
   |b::d::f::r'=>
    simp only[dm] at h
    by_cases hc:b / 64=2/\d / 64=2/\f / 64=2/\65536<=(((a-240)*64+(b-128))*64+(d-128))*64+(f-128)/\(((a-240)*64+(b-128))*64+(d-128))*64+(f-128)<=1114111/\((((a-240)*64+(b-128))*64+(d-128))*64+(f-128)<55296\/57343<(((a-240)*64+(b-128))*64+(d-128))*64+(f-128))
    ·rw[if_pos hc] at h
     simp only[Prod.mk.injEq] at h;obtain⟨h6,rfl⟩:=h;have Ac:¬c<65536:=by omega
     have Ab:¬c<2048:=by omega
     have Aa:¬c<128:=by omega
     rw[dm];refine⟨by omega,by simp[pY,Aa,Ab,Ac],?_,by simp⟩;simp only[fM,if_neg Aa,if_neg Ab,if_neg Ac,List.take_succ_cons,List.take_zero,List.cons.injEq,and_true];omega
    ·rw[if_neg hc] at h;simp at h;omega
  ·rw[if_neg h5] at h;simp at h;omega
theorem wX(c:Nat):(fM c).length=pY c:=by rw[<-jm];simp[gm]
theorem pX(c:Nat):1<=pY c/\pY c<=4:=by
 unfold pY;split
 ·omega
 split
 ·omega
 split<;>omega
theorem ko(l:List Nat)(hl:∀x∈l,x<256):(aF l).2<=l.length/\(aF l).2<=4:=by
 obtain⟨c,n,h⟩:∃c n,aF l=(c,n):=⟨_,_,rfl⟩;rw[h]
 by_cases hn:n=0
 ·subst hn;simp
 ·obtain⟨_,h2,_,h4⟩:=kw hl h hn
  have:=pX c;exact⟨h4,by simp only;omega⟩
theorem zJ{l:List Nat}{c n:Nat}(h:aF l=(c,n))(hn:n=0):c=0:=by
 subst hn;unfold aF at h;repeat' (first|(simp only[Prod.mk.injEq] at h;omega)|split at h)
def qG(c:Nat):List Nat->Option Nat
 |[]=>some c
 |b::r=>if b / 64=2 then qG (c*64+b % 64) r else none
def jh(a n:Nat):Nat:=if n=2 then a % 32 else if n=3 then a % 16 else a % 8
theorem IK{a n:Nat}{r:List Nat}(hb:∀x∈a::r,x<256)(hn:dV a=n)(h2:2<=n) :
  aF (a::r)=if r.length<n-1 then (0,0) else match qG (jh a n) (r.take (n-1)) with
   |none=>(0,0)
   |some C=>if j4 C=true/\pY C=n then (C,n) else (0,0):=by
 unfold dV at hn
 by_cases h1:a<128
 ·rw[if_pos h1] at hn;omega
 rw[if_neg h1] at hn
 by_cases h3:a<192
 ·rw[if_pos h3] at hn;omega
 rw[if_neg h3] at hn
 have w2:∀C,C<2048->((j4 C=true/\pY C=2)↔128<=C):=by
  intro C hC;rw[dm];unfold pY
  by_cases h:C<128
  ·simp[h]
  ·simp[h,hC];omega
 have w3:∀C,C<65536->((j4 C=true/\pY C=3)↔(2048<=C/\j4 C=true)):=by
  intro C hC;unfold pY
  by_cases h:C<128
  ·simp[h];omega
  ·by_cases h':C<2048
   ·simp[h,h'];omega
   ·simp[h,h',hC];omega
 have w4:∀C,((j4 C=true/\pY C=4)↔(65536<=C/\j4 C=true)):=by
  intro C;unfold pY
  by_cases h:C<128
  ·simp[h];omega
  ·by_cases h':C<2048
   ·simp[h,h'];omega
   ·by_cases h'':C<65536
    ·simp[h,h',h''];omega
    ·simp[h,h',h''];omega
 by_cases h4:a<224
 ·rw[if_pos h4] at hn
  subst hn;simp only[aF,if_neg h1,if_neg h3,if_pos h4]
  match r with
  |[]=>simp
  |b::r'=>
   have Aa:=hb b (by simp)
   by_cases hc:b / 64=2
   ·have e:jh a 2*64+b % 64=(a-192)*64+(b-128):=by simp[jh];omega
    simp only[List.take_succ_cons,List.take_zero,qG,hc,if_true,true_and,e,List.length_cons];rw[if_neg (show ¬(r'.length+1<2-1) by omega)];simp only[w2 _ (show (a-192)*64+(b-128)<2048 by omega)]
   ·simp[qG,hc]
 rw[if_neg h4] at hn
 by_cases h5:a<240
 ·rw[if_pos h5] at hn
  subst hn;simp only[aF,if_neg h1,if_neg h3,if_neg h4,if_pos h5]
  match r with
  |[]=>simp
  |[b]=>simp
  |b::d::r'=>
   have Aa:=hb b (by simp);have Ab:=hb d (by simp)
   by_cases hc:b / 64=2
   ·by_cases hd:d / 64=2
    ·have e:(jh a 3*64+b % 64)*64+d % 64=((a-224)*64+(b-128))*64+(d-128):=by simp[jh];omega
     simp only[List.take_succ_cons,List.take_zero,qG,hc,hd,if_true,true_and,e,List.length_cons];rw[if_neg (show ¬(r'.length+1+1<3-1) by omega)];simp only[w3 _ (show ((a-224)*64+(b-128))*64+(d-128)<65536 by omega)]
    ·simp[qG,hc,hd]
   ·simp[qG,hc]
 rw[if_neg h5] at hn
 by_cases h6:a<248
 ·rw[if_pos h6] at hn
  subst hn;simp only[aF,if_neg h1,if_neg h3,if_neg h4,if_neg h5,if_pos h6]
  match r with
  |[]=>simp
  |[b]=>simp
  |[b,d]=>simp
  |b::d::f::r'=>
   have Aa:=hb b (by simp);have Ab:=hb d (by simp);have Ac:=hb f (by simp)
   by_cases hc:b / 64=2
   ·by_cases hd:d / 64=2
    ·by_cases hf:f / 64=2
     ·have e:((jh a 4*64+b % 64)*64+d % 64)*64+f % 64=(((a-240)*64+(b-128))*64+(d-128))*64+(f-128):=by simp[jh];omega
      simp only[List.take_succ_cons,List.take_zero,qG,hc,hd,hf,if_true,true_and,e,List.length_cons];rw[if_neg (show ¬(r'.length+1+1+1<4-1) by omega)];simp only[w4]
     ·simp[qG,hc,hd,hf]
    ·simp[qG,hc,hd]
   ·simp[qG,hc]
 ·rw[if_neg h6] at hn;omega
theorem yQ(a:Nat):dV a=0\/dV a=1\/dV a=2\/dV a=3\/dV a=4:=by
 unfold dV;repeat' (first|omega|split)
theorem IJ{a:Nat}{r:List Nat}(h:dV a=0):aF (a::r)=(0,0):=by
 unfold dV at h;simp only[aF]
 by_cases h1:a<128
 ·rw[if_pos h1] at h;omega
 rw[if_neg h1] at h ⊢
 by_cases h2:a<192
 ·rw[if_pos h2]
 rw[if_neg h2] at h ⊢
 by_cases h3:a<224
 ·rw[if_pos h3] at h;omega
 rw[if_neg h3] at h ⊢
 by_cases h4:a<240
 ·rw[if_pos h4] at h;omega
 rw[if_neg h4] at h ⊢
 by_cases h5:a<248
 ·rw[if_pos h5] at h;omega
 rw[if_neg h5]
theorem Cm{a:Nat}(h:dV a=1):a<128:=by
 unfold dV at h
 by_cases h1:a<128
 ·exact h1
 rw[if_neg h1] at h;repeat' (first|omega|split at h)
def qM:Nat->List Nat->Nat->List (Nat×Nat)×Option Nat
 |0,_,_=>([],none)
 | k+1,l,a=>if l=[] then ([],none) else if (aF l).2=0 then ([],some a) else
  ((a,(aF l).1)::(qM k (l.drop (aF l).2) (a+(aF l).2)).1,(qM k (l.drop (aF l).2) (a+(aF l).2)).2)
theorem wJ:∀(k j:Nat) (l:List Nat) (a:Nat),l.length<=k->l.length<=j->qM k l a=qM j l a
 |0,0,_,_,_,_=>rfl
 | 0,j+1,l,a,h,_=>by
  have:l=[]:=List.eq_nil_of_length_eq_zero (by omega);subst this;simp[qM]
 | k+1,0,l,a,_,h=>by
  have:l=[]:=List.eq_nil_of_length_eq_zero (by omega);subst this;simp[qM]
 | k+1,j+1,l,a,h1,h2=>by
  by_cases hl:l=[]
  ·subst hl;simp[qM]
  ·have hp:=List.length_pos_iff.2 hl
   simp only[qM,if_neg hl]
   by_cases he:(aF l).2=0
   ·simp[he]
   ·rw[wJ k j _ _ (by simp;omega) (by simp;omega)]
def scan(l:List Nat)(a:Nat):List (Nat×Nat)×Option Nat:=qM l.length l a
theorem sF(a:Nat):scan [] a=([],none):=rfl
theorem iy{l:List Nat}(hl:l≠[])(a:Nat):scan l a=if (aF l).2=0 then ([],some a) else
  ((a,(aF l).1)::(scan (l.drop (aF l).2) (a+(aF l).2)).1,(scan (l.drop (aF l).2) (a+(aF l).2)).2):=by
 unfold scan;obtain⟨k,hk⟩:∃k,l.length=k+1:=⟨l.length-1,by have:=List.length_pos_iff.2 hl;omega⟩;rw[hk];simp only[qM,if_neg hl]
 by_cases he:(aF l).2=0
 ·simp[he]
 ·rw[wJ k (l.drop (aF l).2).length _ _ (by simp;omega) lz]
theorem nk{l:List Nat}(hl:l≠[]){a:Nat}(h:(aF l).2=0):scan l a=([],some a):=by rw[iy hl,if_pos h]
theorem Ia{l:List Nat}(hl:l≠[]){a c n:Nat}(h:aF l=(c,n))(hn:n≠0):scan l a=((a,c)::(scan (l.drop n) (a+n)).1,(scan (l.drop n) (a+n)).2):=by
 rw[iy hl,h,if_neg hn]
theorem Co:∀(k:Nat) (l:List Nat) (a:Nat),l.length<=k->(scan l a).1.length<=l.length
 | k,l,a,hk=>by
  by_cases h0:l=[]
  ·subst h0;simp[sF]
  by_cases hn:(aF l).2=0
  ·rw[nk h0 hn];simp
  ·have hp:=List.length_pos_iff.2 h0
   cases k with
   |zero=>omega
   |succ k=>
    have ih:=Co k (l.drop (aF l).2) (a+(aF l).2) (by simp;omega);rw[iy h0,if_neg hn];simp at ih ⊢;omega
end Go.Proofs.YtbcdaaobbebooaaGreatDoor
namespace Go.Proofs.YtbcdaaobbebooaaGreatDoor
def mI(c:Nat):Option Nat:=if 48<=c/\c<=57 then some (c-48) else if 97<=c/\c<=102 then some (c-87) else if 65<=c/\c<=70 then some (c-55) else none
def gY:Nat->Nat->List Nat->Nat×Nat
 |0,n,_=>(n,0)
 |_+1,_,[]=>(0,2)
 | k+1,n,c::r=>match mI c with
  |none=>(0,3)
  |some d=>gY k (n*16+d) r
def aJ(l:List Nat):Nat×Nat:=gY 4 0 l
abbrev nR:=List Nat×Nat×Nat
def aD(e:Nat):nR:=([],0,e)
def iR(n:Nat):List Nat->nR
 |[]=>aD 2
 | c::t=>if c≠92 then aD 3 else match t with
  |[]=>aD 2
  | d::u=>if d≠117 then aD 3 else if (aJ u).2≠0 then aD (aJ u).2 else
   if (aJ u).1<56320\/57343<(aJ u).1 then aD 3 else (fM (65536+(n-55296)*1024+((aJ u).1-56320)),12,0)
def aN(r:List Nat):nR:=
 if (aJ r).2≠0 then aD (aJ r).2 else
 if 56320<=(aJ r).1/\(aJ r).1<=57343 then aD 3 else
 if (aJ r).1<55296\/57343<(aJ r).1 then (fM (aJ r).1,6,0) else iR (aJ r).1 (r.drop 4)
def yf(c:Nat):Option Nat:=
 if c=34\/c=92\/c=47 then some c else if c=98 then some 8 else if c=102 then some 12 else if c=110 then some 10 else if c=114 then some 13 else if c=116 then some 9 else none
def lW:List Nat->nR
 |[]=>aD 2
 | c::r=>match yf c with
  |some b=>([b],2,0)
  |none=>if c=117 then aN r else aD 3
def av:List Nat->nR
 |[]=>aD 2
 |c::r=>if c<32 then aD 3 else if c=92 then lW r else if (aF (c::r)).2=0 then aD 7 else ((c::r).take (aF (c::r)).2,(aF (c::r)).2,0)
theorem zl:∀(k n:Nat) (l:List Nat),(gY k n l).2=0->k<=l.length/\(gY k n l).1<(n+1)*16 ^ k
 |0,n,l,_=>by simp[gY]
 |k+1,n,[],h=>by simp[gY] at h
 | k+1,n,c::r,h=>by
  simp only[gY] at h ⊢
  cases hc:mI c with
  |none=>rw[hc] at h;simp at h
  |some d=>
   rw[hc] at h;simp only at h
   have hd:d<16:=by
    unfold mI at hc;split at hc
    ·cases hc;omega
    split at hc
    ·cases hc;omega
    split at hc
    ·cases hc;omega
    ·cases hc
   obtain⟨h1,h2⟩:=zl k _ r h;refine⟨by simp;omega,Nat.lt_of_lt_of_le h2 ?_⟩;have:n*16+d+1<=(n+1)*16:=by omega
   calc (n*16+d+1)*16 ^ k<=((n+1)*16)*16 ^ k:=Nat.mul_le_mul_right _ this
    _=(n+1)*16 ^ (k+1):=by rw[Nat.pow_succ];ac_rfl
theorem jl{l:List Nat}(h:(aJ l).2=0):4<=l.length/\(aJ l).1<65536:=by
 have:=zl 4 0 l h;exact⟨this.1,by have:=this.2;simpa [aJ] using this⟩
theorem sW{n:Nat}{l:List Nat}(hn:55296<=n/\n<=56319)(h:(iR n l).2.2=0):∃c,j4 c=true/\(iR n l).1=fM c/\(iR n l).2.1=12/\6<=l.length:=by
 unfold iR at h ⊢
 match l with
 |[]=>simp[aD] at h
 |[c]=>by_cases hc:c=92<;>simp[aD,hc] at h
 |c::d::u=>
  simp only at h ⊢
  by_cases hc:c=92
  ·by_cases hd:d=117
   ·rw[if_neg (by simp[hc]),if_neg (by simp[hd])] at h ⊢
    by_cases hu:(aJ u).2=0
    ·rw[if_neg (by simp[hu])] at h ⊢
     by_cases hr:(aJ u).1<56320\/57343<(aJ u).1
     ·rw[if_pos hr] at h;simp[aD] at h
     ·rw[if_neg hr]
      obtain⟨v1,v2⟩:=jl hu;obtain⟨x,hx⟩:=exq (65536+(n-55296)*1024+((aJ u).1-56320));rw[<-hx];have hs:j4 x=true:=by rw[dm];omega
      exact⟨x,hs,rfl,rfl,by simp only[List.length_cons];omega⟩
    ·rw[if_pos (by simpa using hu)] at h;exact absurd h hu
   ·rw[if_neg (by simp[hc]),if_pos (by simpa using hd)] at h;simp[aD] at h
  ·rw[if_pos (by simpa using hc)] at h;simp[aD] at h
theorem Ai{r:List Nat}(h:(aN r).2.2=0):∃c,j4 c=true/\(aN r).1=fM c/\1<=(aN r).2.1/\(aN r).2.1<=r.length+2:=by
 unfold aN at h ⊢
 by_cases hu:(aJ r).2=0
 ·rw[if_neg (by simp[hu])] at h ⊢
  have hv:=jl hu
  by_cases h1:56320<=(aJ r).1/\(aJ r).1<=57343
  ·rw[if_pos h1] at h;simp[aD] at h
  ·rw[if_neg h1] at h ⊢
   by_cases h2:(aJ r).1<55296\/57343<(aJ r).1
   ·rw[if_pos h2]
    exact⟨_,by rw[dm];omega,rfl,by simp,by simp;omega⟩
   ·rw[if_neg h2] at h ⊢
    obtain⟨c,q1,q2,q3,q4⟩:=sW (by omega) h;simp at q4
    exact⟨c,q1,q2,by omega,by omega⟩
 ·rw[if_pos (by simpa using hu)] at h;exact absurd h hu
theorem ky{l:List Nat}(hl:∀x∈l,x<256)(h:(av l).2.2=0):∃c,j4 c=true/\(av l).1=fM c/\1<=(av l).2.1/\(av l).2.1<=l.length:=by
 match l with
 |[]=>simp[av,aD] at h
 |c::r=>
  simp only[av] at h ⊢
  by_cases h1:c<32
  ·rw[if_pos h1] at h;simp[aD] at h
  rw[if_neg h1] at h ⊢
  by_cases h2:c=92
  ·rw[if_pos h2] at h ⊢
   match r with
   |[]=>simp[lW,aD] at h
   |d::t=>
    simp only[lW] at h ⊢
    cases hd:yf d with
    |some b=>
     have hb:b<128:=by
      unfold yf at hd;repeat' (split at hd)
      all_goals first|(cases hd;omega)|cases hd
     exact⟨b,by rw[dm];omega,by simp[fM,hb],by simp,by simp⟩
    |none=>
     rw[hd] at h;simp only at h ⊢
     by_cases h3:d=117
     ·rw[if_pos h3] at h ⊢
      obtain⟨c,q1,q2,q3,q4⟩:=Ai h;exact⟨c,q1,q2,q3,by simp;omega⟩
     ·rw[if_neg h3] at h;simp[aD] at h
  ·rw[if_neg h2] at h ⊢
   by_cases h3:(aF (c::r)).2=0
   ·rw[if_pos h3] at h;simp[aD] at h
   ·rw[if_neg h3]
    obtain⟨q1,q2,q3,q4⟩:=kw hl rfl h3;exact⟨_,q1,q3.symm,by simp only;omega,q4⟩
def mG:Nat->List Nat->nR
 |0,_=>aD 2
 | k+1,l=>if l.head?=some 34 then ([],1,0) else if (av l).2.2≠0 then aD (av l).2.2 else
  if (mG k (l.drop (av l).2.1)).2.2≠0 then aD (mG k (l.drop (av l).2.1)).2.2 else
  ((av l).1++(mG k (l.drop (av l).2.1)).1,(av l).2.1+(mG k (l.drop (av l).2.1)).2.1,0)
def bY(l:List Nat):nR:=mG (l.length+1) l
def vI(l:List Nat):Prop:=∀x∈l,x<256
theorem vI.drop{l:List Nat}(h:vI l)(k:Nat):vI (l.drop k):=fun x hx=>h x (List.mem_of_mem_drop hx)
theorem yB:∀(k j:Nat) (l:List Nat),vI l->l.length<k->l.length<j->mG k l=mG j l
 |0,_,_,_,h,_=>by omega
 |_+1,0,_,_,_,h=>by omega
 | k+1,j+1,l,hl,h1,h2=>by
  simp only[mG];split
  ·rfl
  by_cases h3:(av l).2.2=0
  ·obtain⟨_,_,_,q3,q4⟩:=ky hl h3
   rw[yB k j _ (hl.drop _) (by simp;omega) (by simp;omega)]
  ·rw[if_pos (by simpa using h3),if_pos (by simpa using h3)]
theorem dP{l:List Nat}(hl:vI l):bY l=if l.head?=some 34 then ([],1,0) else if (av l).2.2≠0 then aD (av l).2.2 else
  if (bY (l.drop (av l).2.1)).2.2≠0 then aD (bY (l.drop (av l).2.1)).2.2 else
  ((av l).1++(bY (l.drop (av l).2.1)).1,(av l).2.1+(bY (l.drop (av l).2.1)).2.1,0):=by
 unfold bY;rw[mG];split
 ·rfl
 by_cases h3:(av l).2.2=0
 ·obtain⟨_,_,_,q3,q4⟩:=ky hl h3
  rw[yB l.length ((l.drop (av l).2.1).length+1) _ (hl.drop _) (by simp;omega) (by simp)]
 ·rw[if_pos (by simpa using h3),if_pos (by simpa using h3)]
def gQ(pre:List Nat)(k:Nat)(q:nR):nR:=if q.2.2≠0 then aD q.2.2 else (pre++q.1,k+q.2.1,0)
def aV:List Nat->nR
 |[]=>aD 2
 |c::r=>if c≠34 then aD 3 else gQ [] 1 (bY r)
theorem zT{pre:List Nat}{k e:Nat}:gQ pre k (aD e)=if e≠0 then aD e else (pre,k,0):=by simp[gQ,aD]
theorem zU{l:List Nat}(hl:vI l){pre:List Nat}{k:Nat}(h:l.head?=some 34):gQ pre k (bY l)=(pre,k+1,0):=by
 rw[dP hl,if_pos h];simp[gQ]
theorem zV{l:List Nat}(hl:vI l){pre:List Nat}{k:Nat}(h:l.head?≠some 34)(he:(av l).2.2≠0):gQ pre k (bY l)=aD (av l).2.2:=by
 rw[dP hl,if_neg h,if_pos he,zT,if_pos he]
theorem xR{l:List Nat}(hl:vI l){pre:List Nat}{k:Nat}(h:l.head?≠some 34)(he:(av l).2.2=0) :
  gQ pre k (bY l)=gQ (pre++(av l).1) (k+(av l).2.1) (bY (l.drop (av l).2.1)):=by
 rw[dP hl,if_neg h,if_neg (by simp[he])]
 by_cases h2:(bY (l.drop (av l).2.1)).2.2=0
 ·rw[if_neg (by simp[h2])];simp[gQ,h2,Nat.add_assoc]
 ·rw[if_pos h2,zT,if_pos h2];simp[gQ,h2]
end Go.Proofs.YtbcdaaobbebooaaGreatDoor
