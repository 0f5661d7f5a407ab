/- The walk of Copy (layer 8). -/
import Derived.Test.YtpcfhiipkbpmkaaDoorTreJ
import Derived.Test.YtpcfhiipkbpmkaaDoorTreK
namespace Go.Proofs.YtpcfhiipkbpmkaaDoor
open Go.RowKit Go.Tab

theorem Tryd.infoStr : (Tryd.prog.info? 9).map (fun i => (i.zero, i.size, i.bytes)) = some (some (.string ⟨#[]⟩), 1, 16) := by kernel_rfl
theorem oneStr : ∀ x : ByteArray, (Value.string x).oneCell' = true := fun _ => rfl
theorem three_new {w w2 : World} {c1 c2 c3 : Array Value} {T : TypeId} (hg : (((w.alloc (.cells c1 T)).alloc (.cells c2 T)).alloc (.cells c3 T)).grownBy w2 none) :
    Cells w2 w.heap.size c1 T ∧ Cells w2 (w.heap.size + 1) c2 T ∧ Cells w2 (w.heap.size + 1 + 1) c3 T ∧ w.heap.size + 3 ≤ w2.heap.size := by
  have hs := hg.size
  simp only [World.size_alloc] at hs
  refine ⟨(((Cells.new w c1 T).alloc _).alloc _).kept hg (by simp), ?_, ?_, by omega⟩
  · have h := ((Cells.new (w.alloc (.cells c1 T)) c2 T).alloc (.cells c3 T)).kept hg (by simp)
    simpa using h
  · have h := (Cells.new ((w.alloc (.cells c1 T)).alloc (.cells c2 T)) c3 T).kept hg (by simp)
    simpa using h
/-- A copy: the same value, in memory of its own. -/
def CopyP (t : Tree) (w : World) (e : Ending) (w' : World) : Prop := (∃ cs, e = .returned (valV cs) ∧ ValIn (fun k => w.heap.size ≤ k) w' t cs) ∧ Below w.heap.size w w'

section
variable {P : Program} {w : World} {ops : Array Oper} {rest : List Oper} {o : Oper} {a : Act} {Q : Exit → Act → World → Prop}
/-- 'make([]T, n)', whatever T is. -/
theorem wpList_make_all (hgd : Region.wanted o (yielded ops a.tmps) = true) (l c : Operand) (t : TypeId) (hop : o.op = .makeSlice t l c)
    (e : TypeId) (bytes size : Nat) (z : Value) (ht : P.underlying t = some (.slice e)) (hi : (P.info? e).map (fun i => (i.zero, i.size, i.bytes)) = some (some z, size, bytes))
    (kl kc : IntKind) (n : Nat) (hl : a.eval l = .int kl (n : Int)) (hc : a.eval c = .int kc (n : Int)) (hby : bytes * n ≤ 281474976710656) (hm : n ≤ maxLen)
    (hK : ∀ (M : Array Value) (w' : World), M.size = n * size → w' = w.alloc (.cells M e) → wpList P ops Q rest (a.put o.dst (.slice (some ⟨w.heap.size, 0, none⟩) n n)) w') : wpList P ops Q (o :: rest) a w := by
  obtain ⟨i, hi1, hi2⟩ := Option.map_eq_some_iff.1 hi
  simp only [Prod.mk.injEq] at hi2
  obtain ⟨hz, hs, hb⟩ := hi2
  refine wpList_want hgd fun K hK' => ?_
  have hb' : (i.bytes : Int) * (n : Int) ≤ 281474976710656 := by
    have h : ((i.bytes * n : Nat) : Int) ≤ 281474976710656 := by rw [hb]; omega
    rwa [Int.natCast_mul] at h
  have hr := run_make (P := P) w t e i z ht hi1 hz kl kc n n (by omega) (Int.le_refl _) hb' (by simp [maxLen] at hm; omega)
  simp only [Int.toNat_natCast, hs] at hr
  unfold Oper.wp
  simp [execOp, hop, hl, hc, hr, Result.andThen]
  exact hK' _ _ (hK _ _ (size_madeCells _ _) rfl)
end
theorem Tryd.infoVal : (Tryd.prog.info? 27).map (fun i => (i.zero, i.size, i.bytes)) = some (some (.agg #[.int .i64 0, .bool false, .bool false, .string ⟨#[]⟩, .int .i64 0, .string ⟨#[]⟩, .slice none 0 0, .slice none 0 0]), 8, 112) := by kernel_rfl

/-- Block B is being filled with copies of the kids: the first k are there. -/
def Filling (T : TypeId) (B : Nat) (kids : List Tree) (k : Nat) (w : World) : Prop := ∃ arr, Cells w B arr T ∧ arr.size = kids.length * 8 ∧
  ∀ j (h : j < kids.length), j < k → ∃ cs, (∀ i u, cs[i]? = some u → arr[j * 8 + i]? = some u) ∧ ValIn (fun m => B < m) w kids[j] cs
theorem Filling.below {T : TypeId} {B k : Nat} {kids : List Tree} {w w' : World} (h : Filling T B kids k w) (hb : Below w.heap.size w w') : Filling T B kids k w' := by
  obtain ⟨arr, h1, h2, h3⟩ := h
  refine ⟨arr, h1.below hb h1.lt, h2, fun j hj hjk => ?_⟩
  obtain ⟨cs, g1, g2⟩ := h3 j hj hjk
  exact ⟨cs, g1, ValIn.below hb _ _ g2⟩
def setAll (w : World) (B : Nat) : Nat → List Value → World
  | _, [] => w
  | o, v :: r => setAll (w.setCell ⟨B, o, none⟩ v) B (o + 1) r
def putAll : Array Value → Nat → List Value → Array Value
  | arr, _, [] => arr
  | arr, o, v :: r => putAll (arr.setIfInBounds o v) (o + 1) r
theorem putAll_size : ∀ (cs : List Value) (arr : Array Value) (o : Nat), (putAll arr o cs).size = arr.size
  | [], _, _ => rfl
  | v :: r, arr, o => by rw [putAll, putAll_size r]; simp
theorem putAll_out : ∀ (cs : List Value) (arr : Array Value) (o j : Nat), j < o ∨ o + cs.length ≤ j → (putAll arr o cs)[j]? = arr[j]?
  | [], _, _, _, _ => rfl
  | v :: r, arr, o, j, h => by
    simp only [List.length_cons] at h
    rw [putAll, putAll_out r _ _ _ (by omega), Array.getElem?_setIfInBounds_ne (by omega)]
theorem putAll_in : ∀ (cs : List Value) (arr : Array Value) (o i : Nat) (u : Value), o + cs.length ≤ arr.size → cs[i]? = some u → (putAll arr o cs)[o + i]? = some u
  | v :: r, arr, o, 0, u, h, hu => by
    simp only [List.length_cons] at h
    simp at hu
    subst hu
    rw [putAll, putAll_out r _ _ _ (by omega)]
    simp only [Nat.add_zero]
    rw [Array.getElem?_setIfInBounds_self_of_lt (by omega)]
  | v :: r, arr, o, i + 1, u, h, hu => by
    simp only [List.length_cons] at h
    rw [putAll, show o + (i + 1) = o + 1 + i by omega]
    exact putAll_in r _ _ _ _ (by simp; omega) (by simpa using hu)
theorem Cells.setI {w : World} {B : Nat} {arr : Array Value} {T : TypeId} (h : Cells w B arr T) (o : Nat) (v : Value) : Cells (w.setCell ⟨B, o, none⟩ v) B (arr.setIfInBounds o v) T := by
  obtain ⟨hlt, hk⟩ := Array.getElem?_eq_some_iff.1 h
  show (w.heap.modify B _)[B]? = _
  rw [Array.getElem?_eq_getElem (by rw [Array.size_modify]; exact hlt), Array.getElem_modify_self, hk]
  simp
theorem Cells.put {B : Nat} {T : TypeId} : ∀ (cs : List Value) (o : Nat) {w : World} {arr : Array Value}, Cells w B arr T → Cells (setAll w B o cs) B (putAll arr o cs) T
  | [], _, _, _, h => h
  | v :: r, o, _, _, h => Cells.put r (o + 1) (h.setI o v)
theorem setAll_other (B : Nat) : ∀ (cs : List Value) (o : Nat) (w : World) (k : Nat), k ≠ B → (setAll w B o cs).heap[k]? = w.heap[k]?
  | [], _, _, _, _ => rfl
  | v :: r, o, w, k, h => by
    rw [setAll, setAll_other B r _ _ _ h]
    exact Below.heap_setCell _ _ _ _ h
theorem setAll_size (B : Nat) : ∀ (cs : List Value) (o : Nat) (w : World), (setAll w B o cs).heap.size = w.heap.size
  | [], _, _ => rfl
  | v :: r, o, w => by rw [setAll, setAll_size B r]; simp [World.setCell]
theorem setAll_below (B L : Nat) (hL : L ≤ B) : ∀ (cs : List Value) (o : Nat) (w w' : World), Below L w w' → Below L w (setAll w' B o cs)
  | [], _, _, _, h => h
  | v :: r, o, w, w', h => setAll_below B L hL r _ _ _ (h.setCell (by exact hL) _)
theorem ValIn.len8 {P : Nat → Prop} {w : World} {t : Tree} {cs : List Value} (h : ValIn P w t cs) : cs.length = 8 := by
  cases t
  simp only [ValIn] at h
  obtain ⟨kv, a, cap, rfl, -⟩ := h
  rfl
theorem ValIn.shape {P : Nat → Prop} {w : World} {t : Tree} {cs : List Value} (h : ValIn P w t cs) :
    ∃ kind is neg digits exp str ka kn kc sa sn sc, cs = [.int .i64 kind, .bool is, .bool neg, .string digits, .int .i64 exp, .string str, .slice ka kn kc, .slice sa sn sc] := by
  cases t
  simp only [ValIn] at h
  obtain ⟨kv, a, cap, rfl, h2, -⟩ := h
  obtain ⟨ka, kc, rfl, -⟩ := h2.1.len
  exact ⟨_, _, _, _, _, _, _, _, _, _, _, _, rfl⟩
theorem Filling.step {T : TypeId} {B k : Nat} {kids : List Tree} {w : World} (h : Filling T B kids k w) (hk : k < kids.length) {cs : List Value} (hcs : cs.length = 8) (hv : ValIn (fun m => B < m) w kids[k] cs) :
    Filling T B kids (k + 1) (setAll w B (k * 8) cs) := by
  obtain ⟨arr, h1, h2, h3⟩ := h
  have hmove : ∀ (t : Tree) (cs' : List Value), ValIn (fun m => B < m) w t cs' → ValIn (fun m => B < m) (setAll w B (k * 8) cs) t cs' := fun t cs' hv' =>
    ValIn.move (Nat.le_of_eq (setAll_size B _ _ _).symm) (fun m hm _ => setAll_other B _ _ _ m (by omega)) (fun _ h _ => h) t cs' hv'
  refine ⟨_, h1.put cs (k * 8), by rw [putAll_size]; exact h2, fun j hj hjk => ?_⟩
  by_cases hjk' : j = k
  · subst hjk'
    exact ⟨cs, fun i u hu => putAll_in cs arr (j * 8) i u (by omega) hu, hmove _ _ hv⟩
  · obtain ⟨cs', g1, g2⟩ := h3 j hj (by omega)
    have hl8 := ValIn.len8 g2
    refine ⟨cs', fun i u hu => ?_, hmove _ _ g2⟩
    rw [putAll_out]
    · exact g1 i u hu
    · have := (List.getElem?_eq_some_iff.1 hu).1
      left
      omega
theorem Filling.done {T : TypeId} {B base : Nat} {kids : List Tree} {w : World} (h : Filling T B kids kids.length w) (hb : base ≤ B) : KidsIn (fun m => base ≤ m) w B 0 kids := by
  obtain ⟨arr, h1, h2, h3⟩ := h
  refine KidsIn.make kids 0 (fun k hk => ?_)
  obtain ⟨cs, g1, g2⟩ := h3 k hk hk
  exact ⟨cs, fun j u hu => h1.cell _ _ (by rw [Nat.zero_add]; exact g1 j u hu), ValIn.move (Nat.le_refl _) (fun _ _ _ => rfl) (fun m hm _ => by omega) _ _ g2⟩

theorem Cells.setAllOther {w : World} {B g o : Nat} {cs : Array Value} {T : TypeId} {l : List Value} (h : Cells w g cs T) (hne : g ≠ B) : Cells (setAll w B o l) g cs T := (setAll_other B l o w g hne).trans h
/-- The copy as it lies in the result's cell. -/
theorem copy_done {kind : Int} {is neg : Bool} {digits : ByteArray} {exp : Int} {str : ByteArray} {keys : List ByteArray} {kids : List Tree} {w wr : World} {kv : Value} {a : Option Addr} (hown : OwnOf Value.string 9 (w.heap.size + 3) wr kv keys)
    (hm : kids.length ≤ maxLen) (hk : ∀ x, a = some x → kids ≠ [] → x.spot = none ∧ (x.block < wr.heap.size ∧ w.heap.size + 3 ≤ x.block ∧ ∀ off, wr.frozen? ⟨x.block, off, none⟩ = false) ∧ KidsIn (fun m => w.heap.size + 3 ≤ m) wr x.block x.off kids) (hn : a = none → kids.length = 0) (l : List Value) :
    ValIn (fun m => w.heap.size ≤ m) (setAll wr (w.heap.size + 1) 0 l) (.mk kind is neg digits exp str keys kids) [.int .i64 kind, .bool is, .bool neg, .string digits, .int .i64 exp, .string str, kv, .slice a kids.length kids.length] := by
  refine ValIn.move (P := fun m => w.heap.size + 3 ≤ m) (w := wr) (Nat.le_of_eq (setAll_size _ _ _ _).symm) (fun m hm _ => setAll_other _ _ _ _ m (by omega)) (fun m hm _ => by omega) _ _ ?_
  simp only [ValIn]
  exact ⟨kv, a, kids.length, rfl, ⟨hown.row, fun b hb hne => ⟨hown.own_ge b hb, fun off => by obtain ⟨g, cap, rfl, -⟩ := hown.shape hne; simp [Value.ownBlock] at hb; subst hb; exact hown.frozenAt off⟩⟩, Nat.le_refl _, hm, hn, hk⟩

set_option maxHeartbeats 4000000 in
set_option maxRecDepth 100000 in
theorem Copy_step (n : Nat) (IH : ∀ (t : Tree), t.bulk ≤ n → t.bulk ≤ 1048576 → ∀ (w : World) (cs : List Value), ValAt w t cs → Calls Tryd.prog 23 #[valV cs] w (CopyP t w))
    (kind : Int) (is neg : Bool) (digits : ByteArray) (exp : Int) (str : ByteArray) (keys : List ByteArray) (kids : List Tree)
    (h : (Tree.mk kind is neg digits exp str keys kids).bulk ≤ n + 1) (hmax : (Tree.mk kind is neg digits exp str keys kids).bulk ≤ 1048576)
    (w : World) (cs : List Value) (hv : ValAt w (.mk kind is neg digits exp str keys kids) cs) :
    Calls Tryd.prog 23 #[valV cs] w (CopyP (.mk kind is neg digits exp str keys kids) w) := by
  have hkb : bulkAll kids ≤ n ∧ 1 + digits.size + str.size + ksBulk keys + bulkAll kids ≤ 1048576 := by simp only [Tree.bulk] at h hmax; omega
  simp only [ValAt] at hv
  obtain ⟨kv, a, cap, rfl, hk, hl, hm, hnil, hx⟩ := hv
  obtain ⟨ka, kc, rfl, hkl0, hkm0, -⟩ := hk.len
  have hll := len_bulk kids
  have hlk := len_ks keys
  unfold maxLen at hm hkm0
  simp only [valV]
  clear h hmax
  go_enter Tryd.func23, Tryd.ntmps23
  go_wp2_with (with_reducible first | refine stop_append ?_ | refine stop_make ?_ | refine stop_slice ?_ | refine stop_copy ?_); refine Stop.out ?_
  refine wpList_append_row (f := Value.string) rfl _ _ 24 rfl (w.heap.size + 3) 9 16 _ Tryd.underlying24 Tryd.infoStr rfl oneStr [] keys (by exact OwnOf.nil) (by exact ((hk.alloc _).alloc _).alloc _) (by unfold maxLen; simp; omega) (by simp; omega) (by simp) _ (Below.refl _ _) ?_
  intro v1 w1 hown1 hb1' hg1
  have hb1 : Below w.heap.size w w1 := by
    refine Below.trans ?_ (hb1'.mono (by omega))
    (repeat' (first | (with_reducible refine Below.setCell ?_ ?_ _) | (with_reducible refine Below.alloc ?_ ?_ _) | (with_reducible refine Below.drew ?_) | (with_reducible assumption) | (with_reducible exact Below.refl _ _) | (simp only [World.size_alloc, World.size_setCell, World.size_drew]; done) | (simp only [World.size_alloc, World.size_setCell, World.size_drew]; omega) | omega))
  clear hb1'
  simp only [List.nil_append] at hown1
  obtain ⟨a1, c1, rfl, hl1, hm1, -⟩ := hown1.row.len
  obtain ⟨hc0, hc1, hc2, hz1⟩ := three_new (c1 := #[.int .i64 kind, .bool is, .bool neg, .string digits, .int .i64 exp, .string str, .slice ka keys.length kc, .slice a kids.length cap]) hg1
  clear hg1
  have hz0 : w.heap.size < w1.heap.size := by omega
  have hz2 : w.heap.size + 1 < w1.heap.size := by omega
  have hz3 : w.heap.size + 1 + 1 < w1.heap.size := by omega
  have hc0c0 := hc0.cell 0 _ rfl
  have hc0f0 := hc0.frozen 0
  have hc0c1 := hc0.cell 1 _ rfl
  have hc0f1 := hc0.frozen 1
  have hc0c2 := hc0.cell 2 _ rfl
  have hc0f2 := hc0.frozen 2
  have hc0c3 := hc0.cell 3 _ rfl
  have hc0f3 := hc0.frozen 3
  have hc0c4 := hc0.cell 4 _ rfl
  have hc0f4 := hc0.frozen 4
  have hc0c5 := hc0.cell 5 _ rfl
  have hc0f5 := hc0.frozen 5
  have hc0c6 := hc0.cell 6 _ rfl
  have hc0f6 := hc0.frozen 6
  have hc0c7 := hc0.cell 7 _ rfl
  have hc0f7 := hc0.frozen 7
  have hc1c0 := hc1.cell 0 _ rfl
  have hc1f0 := hc1.frozen 0
  have hc1c1 := hc1.cell 1 _ rfl
  have hc1f1 := hc1.frozen 1
  have hc1c2 := hc1.cell 2 _ rfl
  have hc1f2 := hc1.frozen 2
  have hc1c3 := hc1.cell 3 _ rfl
  have hc1f3 := hc1.frozen 3
  have hc1c4 := hc1.cell 4 _ rfl
  have hc1f4 := hc1.frozen 4
  have hc1c5 := hc1.cell 5 _ rfl
  have hc1f5 := hc1.frozen 5
  have hc1c6 := hc1.cell 6 _ rfl
  have hc1f6 := hc1.frozen 6
  have hc1c7 := hc1.cell 7 _ rfl
  have hc1f7 := hc1.frozen 7
  have hc2c0 := hc2.cell 0 _ rfl
  have hc2f0 := hc2.frozen 0
  have hc2c1 := hc2.cell 1 _ rfl
  have hc2f1 := hc2.frozen 1
  have hc2c2 := hc2.cell 2 _ rfl
  have hc2f2 := hc2.frozen 2
  have hc2c3 := hc2.cell 3 _ rfl
  have hc2f3 := hc2.frozen 3
  have hc2c4 := hc2.cell 4 _ rfl
  have hc2f4 := hc2.frozen 4
  have hc2c5 := hc2.cell 5 _ rfl
  have hc2f5 := hc2.frozen 5
  have hc2c6 := hc2.cell 6 _ rfl
  have hc2f6 := hc2.frozen 6
  have hc2c7 := hc2.cell 7 _ rfl
  have hc2f7 := hc2.frozen 7
  have hB : w.heap.size < w1.heap.size := hz0
  have hown1 := Lib.hid hown1
  by_cases hne : kids = []
  · subst hne
    clear hx
    go_wp2_with fail
    go_loopw [24] (fun i wr => i = .int .i64 0 ∧ Cells wr (w.heap.size + 1) #[.int .i64 0, .bool false, .bool false, .string ⟨#[]⟩, .int .i64 0, .string ⟨#[]⟩, .slice none 0 0, .slice none 0 0] 27 ∧ Cells wr (w.heap.size + 1 + 1) #[.int .i64 kind, .bool is, .bool neg, .string digits, .int .i64 exp, .string str, .slice a1 keys.length c1, .slice none 0 0] 27 ∧
      OwnOf Value.string 9 (w.heap.size + 3) wr (.slice a1 keys.length c1) keys ∧ Below w.heap.size w wr) (fun i _ => 1 - (intOf i).toNat)
    case atStart =>
      refine ⟨rfl, (hc1.setOther _ _ (by show w.heap.size + 1 + 1 ≠ _; omega)).setOther _ _ (by show w.heap.size + 1 + 1 ≠ _; omega), (hc2.setI 6 _).setI 7 _,
        (hown1.out.setOther _ _ (own_ne_box hown1.out hc2 (by decide))).setOther _ _ (own_ne_box hown1.out hc2 (by decide)), ?_⟩
      (repeat' (first | (with_reducible refine Below.setCell ?_ ?_ _) | (with_reducible refine Below.alloc ?_ ?_ _) | (with_reducible refine Below.drew ?_) | (with_reducible assumption) | (with_reducible exact Below.refl _ _) | (simp only [World.size_alloc, World.size_setCell, World.size_drew]; done) | (simp only [World.size_alloc, World.size_setCell, World.size_drew]; omega) | omega))
    case round =>
      clear hc0c0 hc0c1 hc0c2 hc0c3 hc0c4 hc0c5 hc0c6 hc0c7 hc0f0 hc0f1 hc0f2 hc0f3 hc0f4 hc0f5 hc0f6 hc0f7 hc1c0 hc1c1 hc1c2 hc1c3 hc1c4 hc1c5 hc1c6 hc1c7 hc1f0 hc1f1 hc1f2 hc1f3 hc1f4 hc1f5 hc1f6 hc1f7 hc2c0 hc2c1 hc2c2 hc2c3 hc2c4 hc2c5 hc2c6 hc2c7 hc2f0 hc2f1 hc2f2 hc2f3 hc2f4 hc2f5 hc2f6 hc2f7 hc0 hc1 hc2
      obtain ⟨rfl, hd1, hd2, hown, hbl⟩ := hrel
      have hy1 := hd1.lt
      have hy2 := hd2.lt
      have HOWN := Lib.hid hown
      have HBL := Lib.hid hbl
      clear hown hbl
      have hd1c0 := hd1.cell 0 _ rfl
      have hd1f0 := hd1.frozen 0
      have hd1c1 := hd1.cell 1 _ rfl
      have hd1f1 := hd1.frozen 1
      have hd1c2 := hd1.cell 2 _ rfl
      have hd1f2 := hd1.frozen 2
      have hd1c3 := hd1.cell 3 _ rfl
      have hd1f3 := hd1.frozen 3
      have hd1c4 := hd1.cell 4 _ rfl
      have hd1f4 := hd1.frozen 4
      have hd1c5 := hd1.cell 5 _ rfl
      have hd1f5 := hd1.frozen 5
      have hd1c6 := hd1.cell 6 _ rfl
      have hd1f6 := hd1.frozen 6
      have hd1c7 := hd1.cell 7 _ rfl
      have hd1f7 := hd1.frozen 7
      have hd2c0 := hd2.cell 0 _ rfl
      have hd2f0 := hd2.frozen 0
      have hd2c1 := hd2.cell 1 _ rfl
      have hd2f1 := hd2.frozen 1
      have hd2c2 := hd2.cell 2 _ rfl
      have hd2f2 := hd2.frozen 2
      have hd2c3 := hd2.cell 3 _ rfl
      have hd2f3 := hd2.frozen 3
      have hd2c4 := hd2.cell 4 _ rfl
      have hd2f4 := hd2.frozen 4
      have hd2c5 := hd2.cell 5 _ rfl
      have hd2f5 := hd2.frozen 5
      have hd2c6 := hd2.cell 6 _ rfl
      have hd2f6 := hd2.frozen 6
      have hd2c7 := hd2.cell 7 _ rfl
      have hd2f7 := hd2.frozen 7
      clear hd1 hd2
      go_wp2_with fail
      refine bodyPost_ret (v := .agg #[.int .i64 kind, .bool is, .bool neg, .string digits, .int .i64 exp, .string str, .slice a1 keys.length c1, .slice none 0 0]) (by simp [results, Tryd.results23, go_sem, *]) rfl ?_
      exact ⟨⟨[.int .i64 kind, .bool is, .bool neg, .string digits, .int .i64 exp, .string str, .slice a1 keys.length c1, .slice none 0 0], rfl, copy_done (kids := []) HOWN.out (by decide) (fun x h => by cases h) (fun _ => rfl) [.int .i64 kind, .bool is, .bool neg, .string digits, .int .i64 exp, .string str, .slice a1 keys.length c1, .slice none 0 0]⟩, setAll_below _ _ (by omega) [.int .i64 kind, .bool is, .bool neg, .string digits, .int .i64 exp, .string str, .slice a1 keys.length c1, .slice none 0 0] 0 _ _ HBL.out⟩
  · have hn0 : 0 < kids.length := by rcases kids with _ | ⟨_, _⟩ <;> simp_all
    cases a with
    | none => have := hnil rfl; omega
    | some x =>
    obtain ⟨bb, off, sp⟩ := x
    obtain ⟨rfl, hlt, hkids⟩ := hx _ rfl hne
    simp only at hlt hkids
    clear hx hnil
    go_wp2_with (with_reducible first | refine stop_append ?_ | refine stop_make ?_ | refine stop_slice ?_ | refine stop_copy ?_); refine Stop.out ?_
    refine wpList_make_all rfl _ _ _ rfl 27 112 8 _ Tryd.underlying25 Tryd.infoVal _ _ kids.length rfl rfl (by omega) (by unfold maxLen; omega) ?_
    intro M w2 hM hw2
    have hd0 : Cells w2 w.heap.size #[.int .i64 kind, .bool is, .bool neg, .string digits, .int .i64 exp, .string str, .slice ka keys.length kc, .slice (some ⟨bb, off, none⟩) kids.length cap] 27 := by
      rw [hw2]; exact ((hc0.setOther _ _ (by show w.heap.size + 1 + 1 ≠ _; omega)).setOther _ _ (by show w.heap.size + 1 + 1 ≠ _; omega)).alloc _
    have hd1 : Cells w2 (w.heap.size + 1) #[.int .i64 0, .bool false, .bool false, .string ⟨#[]⟩, .int .i64 0, .string ⟨#[]⟩, .slice none 0 0, .slice none 0 0] 27 := by
      rw [hw2]; exact ((hc1.setOther _ _ (by show w.heap.size + 1 + 1 ≠ _; omega)).setOther _ _ (by show w.heap.size + 1 + 1 ≠ _; omega)).alloc _
    have hd2 : Cells w2 (w.heap.size + 1 + 1) #[.int .i64 kind, .bool is, .bool neg, .string digits, .int .i64 exp, .string str, .slice a1 keys.length c1, .slice none 0 0] 27 := by
      rw [hw2]; exact ((hc2.setI 6 _).setI 7 _).alloc _
    have hdB : Cells w2 w1.heap.size M 27 := by
      rw [hw2]
      have := Cells.new ((w1.setCell { block := w.heap.size + 1 + 1, off := 6 } (Value.slice a1 keys.length c1)).setCell { block := w.heap.size + 1 + 1, off := 7 } (Value.slice none 0 0)) M 27
      simpa [World.size_setCell] using this
    have hb2 : Below w.heap.size w w2 := by
      rw [hw2]; (repeat' (first | (with_reducible refine Below.setCell ?_ ?_ _) | (with_reducible refine Below.alloc ?_ ?_ _) | (with_reducible refine Below.drew ?_) | (with_reducible assumption) | (with_reducible exact Below.refl _ _) | (simp only [World.size_alloc, World.size_setCell, World.size_drew]; done) | (simp only [World.size_alloc, World.size_setCell, World.size_drew]; omega) | omega))
    have hown2 : OwnOf Value.string 9 (w.heap.size + 3) w2 (.slice a1 keys.length c1) keys := by
      rw [hw2]
      exact ((hown1.out.setOther _ _ (own_ne_box hown1.out hc2 (by decide))).setOther _ _ (own_ne_box hown1.out hc2 (by decide))).alloc _
    have hz4 : w2.heap.size = w1.heap.size + 1 := by rw [hw2]; simp [World.size_setCell]
    simp only [World.size_setCell]
    clear hw2 hc0c0 hc0c1 hc0c2 hc0c3 hc0c4 hc0c5 hc0c6 hc0c7 hc0f0 hc0f1 hc0f2 hc0f3 hc0f4 hc0f5 hc0f6 hc0f7 hc1c0 hc1c1 hc1c2 hc1c3 hc1c4 hc1c5 hc1c6 hc1c7 hc1f0 hc1f1 hc1f2 hc1f3 hc1f4 hc1f5 hc1f6 hc1f7 hc2c0 hc2c1 hc2c2 hc2c3 hc2c4 hc2c5 hc2c6 hc2c7 hc2f0 hc2f1 hc2f2 hc2f3 hc2f4 hc2f5 hc2f6 hc2f7
    have hd0c0 := hd0.cell 0 _ rfl
    have hd0f0 := hd0.frozen 0
    have hd0c1 := hd0.cell 1 _ rfl
    have hd0f1 := hd0.frozen 1
    have hd0c2 := hd0.cell 2 _ rfl
    have hd0f2 := hd0.frozen 2
    have hd0c3 := hd0.cell 3 _ rfl
    have hd0f3 := hd0.frozen 3
    have hd0c4 := hd0.cell 4 _ rfl
    have hd0f4 := hd0.frozen 4
    have hd0c5 := hd0.cell 5 _ rfl
    have hd0f5 := hd0.frozen 5
    have hd0c6 := hd0.cell 6 _ rfl
    have hd0f6 := hd0.frozen 6
    have hd0c7 := hd0.cell 7 _ rfl
    have hd0f7 := hd0.frozen 7
    have hd2c0 := hd2.cell 0 _ rfl
    have hd2f0 := hd2.frozen 0
    have hd2c1 := hd2.cell 1 _ rfl
    have hd2f1 := hd2.frozen 1
    have hd2c2 := hd2.cell 2 _ rfl
    have hd2f2 := hd2.frozen 2
    have hd2c3 := hd2.cell 3 _ rfl
    have hd2f3 := hd2.frozen 3
    have hd2c4 := hd2.cell 4 _ rfl
    have hd2f4 := hd2.frozen 4
    have hd2c5 := hd2.cell 5 _ rfl
    have hd2f5 := hd2.frozen 5
    have hd2c6 := hd2.cell 6 _ rfl
    have hd2f6 := hd2.frozen 6
    have hd2c7 := hd2.cell 7 _ rfl
    have hd2f7 := hd2.frozen 7
    have hfill : Filling 27 w1.heap.size kids 0 w2 := ⟨M, hdB, hM, fun j _ h => by omega⟩
    have hB3 : w.heap.size + 3 ≤ w1.heap.size := hz1
    generalize w1.heap.size = B at *
    go_wp2_with fail
    go_loopw [24] (fun i wr => ∃ k : Nat, k ≤ kids.length ∧ i = .int .i64 (k : Int) ∧ Cells wr w.heap.size #[.int .i64 kind, .bool is, .bool neg, .string digits, .int .i64 exp, .string str, .slice ka keys.length kc, .slice (some ⟨bb, off, none⟩) kids.length cap] 27 ∧ Cells wr (w.heap.size + 1) #[.int .i64 0, .bool false, .bool false, .string ⟨#[]⟩, .int .i64 0, .string ⟨#[]⟩, .slice none 0 0, .slice none 0 0] 27 ∧ Cells wr (w.heap.size + 1 + 1) #[.int .i64 kind, .bool is, .bool neg, .string digits, .int .i64 exp, .string str, .slice a1 keys.length c1, .slice (some ⟨B, 0, none⟩) kids.length kids.length] 27 ∧
      Filling 27 B kids k wr ∧ OwnOf Value.string 9 (w.heap.size + 3) wr (.slice a1 keys.length c1) keys ∧ Below w.heap.size w wr) (fun i _ => kids.length - (intOf i).toNat)
    case atStart =>
      refine ⟨0, Nat.zero_le _, rfl, hd0.setOther _ _ (by show w.heap.size + 1 + 1 ≠ _; omega), hd1.setOther _ _ (by show w.heap.size + 1 + 1 ≠ _; omega), hd2.setI 7 _, ?_, hown2.setOther _ _ (own_ne_box hown2 hd2 (by decide)), ?_⟩
      · obtain ⟨arr, f1, f2, f3⟩ := hfill
        exact ⟨arr, f1.setOther _ _ (by show w.heap.size + 1 + 1 ≠ _; omega), f2, fun j _ h => by omega⟩
      · (repeat' (first | (with_reducible refine Below.setCell ?_ ?_ _) | (with_reducible refine Below.alloc ?_ ?_ _) | (with_reducible refine Below.drew ?_) | (with_reducible assumption) | (with_reducible exact Below.refl _ _) | (simp only [World.size_alloc, World.size_setCell, World.size_drew]; done) | (simp only [World.size_alloc, World.size_setCell, World.size_drew]; omega) | omega))
    case round =>
      clear hd0c0 hd0c1 hd0c2 hd0c3 hd0c4 hd0c5 hd0c6 hd0c7 hd0f0 hd0f1 hd0f2 hd0f3 hd0f4 hd0f5 hd0f6 hd0f7 hd2c0 hd2c1 hd2c2 hd2c3 hd2c4 hd2c5 hd2c6 hd2c7 hd2f0 hd2f1 hd2f2 hd2f3 hd2f4 hd2f5 hd2f6 hd2f7 hd0 hd1 hd2 hdB hfill hown2
      obtain ⟨k, hk, rfl, hd0, hd1, hd2, hfill, hown, hbl⟩ := hrel
      have hy0 := hd0.lt
      have hy1 := hd1.lt
      have hy2 := hd2.lt
      by_cases hkl : k < kids.length
      · obtain ⟨kc0, hkc, hkv⟩ := KidsAt.get (KidsAt.below hbl hlt kids _ hkids) k hkl
        obtain ⟨kkind, kis, kneg, kdig, kexp, kstr, kka, kkn, kkc, ksa, ksn, ksc, rfl, m0, m1, m2, m3, m4, m5, m6, m7⟩ := kid_at hkv hkc
        have hr1 := Nat.lt_of_lt_of_le hlt hbl.size
        have hIH := IH kids[k] (by have := bulk_kid hkl; omega) (by have := bulk_kid hkl; omega)
        have hN := Cells.new wr #[.int .i64 kkind, .bool kis, .bool kneg, .string kdig, .int .i64 kexp, .string kstr, .slice kka kkn kkc, .slice ksa ksn ksc] 27
        have hd2a := hd2.alloc (.cells #[.int .i64 kkind, .bool kis, .bool kneg, .string kdig, .int .i64 kexp, .string kstr, .slice kka kkn kkc, .slice ksa ksn ksc] 27)
        have hfa : Filling 27 B kids k (wr.alloc (.cells #[.int .i64 kkind, .bool kis, .bool kneg, .string kdig, .int .i64 kexp, .string kstr, .slice kka kkn kkc, .slice ksa ksn ksc] 27)) := hfill.below ((Below.refl _ _).alloc (Nat.le_refl _) _)
        have hda0 := hd0.alloc (.cells #[.int .i64 kkind, .bool kis, .bool kneg, .string kdig, .int .i64 kexp, .string kstr, .slice kka kkn kkc, .slice ksa ksn ksc] 27)
        have hda1 := hd1.alloc (.cells #[.int .i64 kkind, .bool kis, .bool kneg, .string kdig, .int .i64 kexp, .string kstr, .slice kka kkn kkc, .slice ksa ksn ksc] 27)
        have howna := hown.alloc (.cells #[.int .i64 kkind, .bool kis, .bool kneg, .string kdig, .int .i64 kexp, .string kstr, .slice kka kkn kkc, .slice ksa ksn ksc] 27)
        have hbla := hbl.alloc hbl.size (.cells #[.int .i64 kkind, .bool kis, .bool kneg, .string kdig, .int .i64 kexp, .string kstr, .slice kka kkn kkc, .slice ksa ksn ksc] 27)
        have hkva := hkv.below_alloc (.cells #[.int .i64 kkind, .bool kis, .bool kneg, .string kdig, .int .i64 kexp, .string kstr, .slice kka kkn kkc, .slice ksa ksn ksc] 27)
        have hza : (wr.alloc (.cells #[.int .i64 kkind, .bool kis, .bool kneg, .string kdig, .int .i64 kexp, .string kstr, .slice kka kkn kkc, .slice ksa ksn ksc] 27)).heap.size = wr.heap.size + 1 := by simp
        have hBr : B < wr.heap.size := by obtain ⟨arr, f1, -⟩ := hfill; exact f1.lt
        have hd2c0 := hd2.cell 0 _ rfl
        have hd2f0 := hd2.frozen 0
        have hd2c1 := hd2.cell 1 _ rfl
        have hd2f1 := hd2.frozen 1
        have hd2c2 := hd2.cell 2 _ rfl
        have hd2f2 := hd2.frozen 2
        have hd2c3 := hd2.cell 3 _ rfl
        have hd2f3 := hd2.frozen 3
        have hd2c4 := hd2.cell 4 _ rfl
        have hd2f4 := hd2.frozen 4
        have hd2c5 := hd2.cell 5 _ rfl
        have hd2f5 := hd2.frozen 5
        have hd2c6 := hd2.cell 6 _ rfl
        have hd2f6 := hd2.frozen 6
        have hd2c7 := hd2.cell 7 _ rfl
        have hd2f7 := hd2.frozen 7
        go_wp2_with fail
        generalize wr.alloc (.cells #[.int .i64 kkind, .bool kis, .bool kneg, .string kdig, .int .i64 kexp, .string kstr, .slice kka kkn kkc, .slice ksa ksn ksc] 27) = wa at *
        have hC1 := hIH _ _ (ValAt.below (Below.refl _ wa).drew _ _ hkva)
        have hfad := Filling.below hfa (Below.refl _ wa).drew
        clear hIH hkv hkva hkc IH m0 m1 m2 m3 m4 m5 m6 m7 hd2c0 hd2c1 hd2c2 hd2c3 hd2c4 hd2c5 hd2c6 hd2c7 hd2f0 hd2f1 hd2f2 hd2f3 hd2f4 hd2f5 hd2f6 hd2f7 hd0 hd1 hd2 hfill hown hbl
        simp only [valV] at hC1
        have g7 := hd2a.cell 7 _ rfl
        have hn1 : ¬ B = w.heap.size + 1 + 1 := by omega
        have hn2 : ¬ w.heap.size + 1 + 1 = B := by omega
        have hn3 : ¬ B = wr.heap.size := by omega
        have hn4 : ¬ wr.heap.size = B := by omega
        have r0 := hN.cell 0 _ rfl
        have r1 := hN.cell 1 _ rfl
        have r2 := hN.cell 2 _ rfl
        have r3 := hN.cell 3 _ rfl
        have r4 := hN.cell 4 _ rfl
        have r5 := hN.cell 5 _ rfl
        have r6 := hN.cell 6 _ rfl
        have r7 := hN.cell 7 _ rfl
        go_region_held3 (fun w' => w'.cell? ⟨w.heap.size + 1 + 1, 7, none⟩ = some (.slice (some ⟨B, 0, none⟩) kids.length kids.length) ∧ w'.cell? ⟨wr.heap.size, 0, none⟩ = some (.int .i64 kkind) ∧ w'.cell? ⟨wr.heap.size, 1, none⟩ = some (.bool kis) ∧ w'.cell? ⟨wr.heap.size, 2, none⟩ = some (.bool kneg) ∧ w'.cell? ⟨wr.heap.size, 3, none⟩ = some (.string kdig) ∧ w'.cell? ⟨wr.heap.size, 4, none⟩ = some (.int .i64 kexp) ∧ w'.cell? ⟨wr.heap.size, 5, none⟩ = some (.string kstr) ∧ w'.cell? ⟨wr.heap.size, 6, none⟩ = some (.slice kka kkn kkc) ∧ w'.cell? ⟨wr.heap.size, 7, none⟩ = some (.slice ksa ksn ksc)) (first | (with_reducible exact ⟨g73, r03, r13, r23, r33, r43, r53, r63, r73⟩) | go_keep) (first | (go_at_call 23; refine hC1.mono ?_; rintro e w3 ⟨⟨cs3, rfl, hin⟩, hb3'⟩; obtain ⟨kind3, is3, neg3, dig3, exp3, str3, ka3, kn3, kc3, sa3, sn3, sc3, rfl⟩ := ValIn.shape hin; have hN3 := hN.drew.below hb3' hN.lt; have hd23 := hd2a.drew.below hb3' hd2a.lt; have g73 := hd23.cell 7 _ rfl; have r03 := hN3.cell 0 _ rfl; have r13 := hN3.cell 1 _ rfl; have r23 := hN3.cell 2 _ rfl; have r33 := hN3.cell 3 _ rfl; have r43 := hN3.cell 4 _ rfl; have r53 := hN3.cell 5 _ rfl; have r63 := hN3.cell 6 _ rfl; have r73 := hN3.cell 7 _ rfl; have HF3 := Lib.hid (Filling.below hfad hb3'); obtain ⟨arr3, ha3, hs3, -⟩ := HF3.out; have hlt3 := ha3.lt; have HIN := Lib.hid hin; clear hin; have HB3 := Lib.hid hb3'; clear hb3'; have HA3 := Lib.hid ha3; have HN3 := Lib.hid hN3; have HD23 := Lib.hid hd23; clear hN3 hd23; have z0 := ha3.cell (k * 8 + 0) _ (Array.getElem?_eq_getElem (by omega)); have y0 := ha3.frozen (k * 8 + 0); have z1 := ha3.cell (k * 8 + 1) _ (Array.getElem?_eq_getElem (by omega)); have y1 := ha3.frozen (k * 8 + 1); have z2 := ha3.cell (k * 8 + 2) _ (Array.getElem?_eq_getElem (by omega)); have y2 := ha3.frozen (k * 8 + 2); have z3 := ha3.cell (k * 8 + 3) _ (Array.getElem?_eq_getElem (by omega)); have y3 := ha3.frozen (k * 8 + 3); have z4 := ha3.cell (k * 8 + 4) _ (Array.getElem?_eq_getElem (by omega)); have y4 := ha3.frozen (k * 8 + 4); have z5 := ha3.cell (k * 8 + 5) _ (Array.getElem?_eq_getElem (by omega)); have y5 := ha3.frozen (k * 8 + 5); have z6 := ha3.cell (k * 8 + 6) _ (Array.getElem?_eq_getElem (by omega)); have y6 := ha3.frozen (k * 8 + 6); have z7 := ha3.cell (k * 8 + 7) _ (Array.getElem?_eq_getElem (by omega)); have y7 := ha3.frozen (k * 8 + 7); simp only [Nat.add_zero] at z0 y0; clear ha3; simp only [valV]))
        have HD0 := Lib.hid ((hda0.drew.below HB3.out hda0.lt).setAllOther (B := B) (o := k * 8) (l := [.int .i64 kind3, .bool is3, .bool neg3, .string dig3, .int .i64 exp3, .string str3, .slice ka3 kn3 kc3, .slice sa3 sn3 sc3]) (by omega))
        have HD1 := Lib.hid ((hda1.drew.below HB3.out hda1.lt).setAllOther (B := B) (o := k * 8) (l := [.int .i64 kind3, .bool is3, .bool neg3, .string dig3, .int .i64 exp3, .string str3, .slice ka3 kn3 kc3, .slice sa3 sn3 sc3]) (by omega))
        have HD2 := Lib.hid (HD23.out.setAllOther (B := B) (o := k * 8) (l := [.int .i64 kind3, .bool is3, .bool neg3, .string dig3, .int .i64 exp3, .string str3, .slice ka3 kn3 kc3, .slice sa3 sn3 sc3]) (by omega))
        have HF4 := Lib.hid (Filling.step HF3.out hkl (cs := [.int .i64 kind3, .bool is3, .bool neg3, .string dig3, .int .i64 exp3, .string str3, .slice ka3 kn3 kc3, .slice sa3 sn3 sc3]) rfl (ValIn.move (Nat.le_refl _) (fun _ _ _ => rfl) (fun m (hm : wa.heap.size ≤ m) _ => by show B < m; omega) _ _ HIN.out))
        have how3 := howna.drew.below HB3.out (Nat.le_refl _)
        have HOW := Lib.hid (how3.moved (w' := setAll w3 B (k * 8) [.int .i64 kind3, .bool is3, .bool neg3, .string dig3, .int .i64 exp3, .string str3, .slice ka3 kn3 kc3, .slice sa3 sn3 sc3]) (fun m hm => setAll_other B _ _ _ m (fun e => own_ne_box how3 HA3.out (by decide) (by rw [hm, e]))))
        have HBE := Lib.hid (setAll_below B w.heap.size (by omega) [.int .i64 kind3, .bool is3, .bool neg3, .string dig3, .int .i64 exp3, .string str3, .slice ka3 kn3 kc3, .slice sa3 sn3 sc3] (k * 8) _ _ (hbla.trans (Below.mono (B := wa.heap.size) ((Below.refl wa.heap.size wa).drew.trans HB3.out) hbla.size)))
        clear HF3 HIN HB3 HA3 HN3 HD23 how3 howna hda0 hda1 hd2a hN hfa hfad hbla hC1
        all_goals
          go_wp2_with fail
          go_roundw
          case rel => exact ⟨k + 1, hkl, by go_num, HD0.out, HD1.out, HD2.out, HF4.out, HOW.out, HBE.out⟩
          case measure => simp [intOf]; omega
      · obtain rfl : k = kids.length := by omega
        have HOWN := Lib.hid hown
        have HBL := Lib.hid hbl
        have HF := Lib.hid hfill
        clear hown hbl hfill IH hd0
        have hd1c0 := hd1.cell 0 _ rfl
        have hd1f0 := hd1.frozen 0
        have hd1c1 := hd1.cell 1 _ rfl
        have hd1f1 := hd1.frozen 1
        have hd1c2 := hd1.cell 2 _ rfl
        have hd1f2 := hd1.frozen 2
        have hd1c3 := hd1.cell 3 _ rfl
        have hd1f3 := hd1.frozen 3
        have hd1c4 := hd1.cell 4 _ rfl
        have hd1f4 := hd1.frozen 4
        have hd1c5 := hd1.cell 5 _ rfl
        have hd1f5 := hd1.frozen 5
        have hd1c6 := hd1.cell 6 _ rfl
        have hd1f6 := hd1.frozen 6
        have hd1c7 := hd1.cell 7 _ rfl
        have hd1f7 := hd1.frozen 7
        have hd2c0 := hd2.cell 0 _ rfl
        have hd2f0 := hd2.frozen 0
        have hd2c1 := hd2.cell 1 _ rfl
        have hd2f1 := hd2.frozen 1
        have hd2c2 := hd2.cell 2 _ rfl
        have hd2f2 := hd2.frozen 2
        have hd2c3 := hd2.cell 3 _ rfl
        have hd2f3 := hd2.frozen 3
        have hd2c4 := hd2.cell 4 _ rfl
        have hd2f4 := hd2.frozen 4
        have hd2c5 := hd2.cell 5 _ rfl
        have hd2f5 := hd2.frozen 5
        have hd2c6 := hd2.cell 6 _ rfl
        have hd2f6 := hd2.frozen 6
        have hd2c7 := hd2.cell 7 _ rfl
        have hd2f7 := hd2.frozen 7
        clear hd1 hd2
        go_wp2_with fail
        refine bodyPost_ret (v := .agg #[.int .i64 kind, .bool is, .bool neg, .string digits, .int .i64 exp, .string str, .slice a1 keys.length c1, .slice (some ⟨B, 0, none⟩) kids.length kids.length]) (by simp [results, Tryd.results23, go_sem, *]) rfl ?_
        refine ⟨⟨[.int .i64 kind, .bool is, .bool neg, .string digits, .int .i64 exp, .string str, .slice a1 keys.length c1, .slice (some ⟨B, 0, none⟩) kids.length kids.length], rfl, copy_done HOWN.out (by unfold maxLen; omega) (fun x hx _ => ?_) (fun h => by cases h) [.int .i64 kind, .bool is, .bool neg, .string digits, .int .i64 exp, .string str, .slice a1 keys.length c1, .slice (some ⟨B, 0, none⟩) kids.length kids.length]⟩, setAll_below _ _ (by omega) [.int .i64 kind, .bool is, .bool neg, .string digits, .int .i64 exp, .string str, .slice a1 keys.length c1, .slice (some ⟨B, 0, none⟩) kids.length kids.length] 0 _ _ HBL.out⟩
        cases hx
        have hBl : B < wr.heap.size := by obtain ⟨arr, f1, -⟩ := HF.out; exact f1.lt
        exact ⟨rfl, ⟨hBl, hB3, fun off => by obtain ⟨arr, f1, -⟩ := HF.out; exact f1.frozen off⟩, HF.out.done hB3⟩

theorem Copy_upto (n : Nat) : ∀ (t : Tree), t.bulk ≤ n → t.bulk ≤ 1048576 → ∀ (w : World) (cs : List Value), ValAt w t cs → Calls Tryd.prog 23 #[valV cs] w (CopyP t w) := by
  induction n with
  | zero => intro t h; have := bulk_pos t; omega
  | succ n IH =>
    intro t h hmax w cs hv
    cases t
    exact Copy_step n IH _ _ _ _ _ _ _ _ h hmax w cs hv
theorem Copy_any (t : Tree) (hb : t.bulk ≤ 1048576) (w : World) (cs : List Value) (hv : ValAt w t cs) : Calls Tryd.prog 23 #[valV cs] w (CopyP t w) :=
  Copy_upto t.bulk t (Nat.le_refl _) hb w cs hv
end Go.Proofs.YtpcfhiipkbpmkaaDoor
