/- strings.Builder, wherever it lies in a block of the call's own: copyCheck, WriteByte, WriteString, String. -/
import Derived.Test.YtgkgdmpbcneoiaaDoorBox
import Derived.Lib.Builder
import Derived.Lib.AppendStr
import Derived.Lib.UnsafeStr
import Derived.Laws.Externs
namespace Go.Proofs.YtgkgdmpbcneoiaaDoor
open Go.RowKit Go.Tab

abbrev OwnU := OwnOf byteV 5
theorem Tryd.uPB : Tryd.prog.underlying 40 = some (.pointer 43) := by kernel_rfl
theorem Tryd.uUP : Tryd.prog.underlying 68 = some .unsafePointer := by kernel_rfl
theorem Tryd.uBytes : Tryd.prog.underlying 41 = some (.slice 5) := by kernel_rfl
theorem Tryd.uStr : Tryd.prog.underlying 9 = some .string := by kernel_rfl
theorem Tryd.infoU8 : (Tryd.prog.info? 5).map (fun i => (i.zero, i.size, i.bytes)) = some (some (.int .u8 0), 1, 1) := by kernel_rfl
theorem Tryd.sizeBld : (Tryd.prog.info? 43).map (·.size) = some 2 := by kernel_rfl
theorem Tryd.cellsU8 : Tryd.prog.cellsOf 5 = 1 := by kernel_rfl
theorem oneU (x : UInt8) : (byteV x).oneCell' = true := rfl
/-- The literal of one byte. -/
theorem lit_one (w : World) (c : UInt8) (n : Int) (hn : n = (c.toNat : Int)) (t : TypeId) : RowOf byteV (w.alloc (.cells #[.int .u8 n] t)) (.slice (some ⟨w.heap.size, 0, none⟩) 1 1) [c] := by
  refine ⟨_, 1, rfl, Nat.le_refl _, by decide, (fun h => by cases h), fun x hx _ => ?_⟩
  cases hx
  subst hn
  refine ⟨rfl, by simp, fun j hj => ?_⟩
  obtain rfl : j = 0 := by simpa using hj
  rw [World.cell?_alloc_new]
  rfl

/-- The builder at ⟨g, o⟩ within a block of cells cs: it holds the bytes l. -/
structure Bld (T : TypeId) (base : Nat) (w : World) (g o : Nat) (cs : Array Value) (l : List UInt8) : Prop where
  cells : Cells w g cs T
  addr : cs[o]? = some (.pointer none) ∨ cs[o]? = some (.pointer (some ⟨g, o, none⟩))
  buf : ∃ v, cs[o + 1]? = some v ∧ OwnU base w v l
/-- Where it may lie. -/
structure BldIn (T : TypeId) (n o : Nat) : Prop where
  ne : T ≠ 5
  lies : liesAt Tryd.prog Tryd.prog.depth T (n / Tryd.prog.cellsOf T) o 43 1 = true
  lt : o + 1 < n
/-- cs' is cs but for the builder at o, which has been used. -/
def Used (g o : Nat) (cs cs' : Array Value) : Prop := cs'.size = cs.size ∧ (∀ j, j ≠ o → j ≠ o + 1 → cs'[j]? = cs[j]?) ∧ cs'[o]? = some (.pointer (some ⟨g, o, none⟩))

set_option maxHeartbeats 1000000 in
set_option maxRecDepth 100000 in
theorem copyCheck_any {T : TypeId} {base g o : Nat} {cs : Array Value} {l : List UInt8} (w : World) (h : Bld T base w g o cs l) (hI : BldIn T cs.size o) (hg : base ≤ g) :
    Calls Tryd.prog 33 #[.pointer (some ⟨g, o, none⟩)] w fun e w' => e = .returned (.tuple #[]) ∧ ∃ cs', Bld T base w' g o cs' l ∧ Used g o cs cs' ∧ (∀ v, cs[o + 1]? = some v → cs'[o + 1]? = some v) ∧ w.grownBy w' (some g) := by
  obtain ⟨hc, ha, v, hv, hown⟩ := h
  obtain ⟨j, hj, hjs⟩ := Option.map_eq_some_iff.1 Tryd.sizeBld
  rcases ha with ha | ha
  · have h0 := hc.cell o _ ha
    have hf := hc.frozen o
    have hsh := hc.shape
    have hlt := hI.lt
    have hu1 := Lib.run_to_unsafe w ⟨g, o, none⟩ Tryd.uPB Tryd.uUP hj (by rw [hjs]; decide) hsh (by show o < cs.size; omega)
    have hu2 := Lib.run_from_unsafe w ⟨g, o, none⟩ Tryd.uUP Tryd.uPB hj hsh hI.lies
    go_enter Tryd.func33, Tryd.ntmps33
    go_wp2
    rw [run_callFunc_extern Tryd.func41 (by kernel_rfl) (by kernel_rfl) (by kernel_rfl) (e := Extern.AbiNoEscape.same) (by kernel_rfl)]
    rw [Lib.run_noEscape]
    simp only [Result.andThen]
    rw [Oper.upon_value]
    go_wp2
    go_end0
    have hgs := grownBy_setAt w g o (.pointer (some ⟨g, o, none⟩))
    refine ⟨rfl, _, ⟨hc.set o (by omega) _, .inr (by simp), v, by rw [Array.getElem?_set_ne (by omega) (by omega)]; exact hv, hown.kept hgs (.inr (own_ne_box hown hc hI.ne))⟩, ⟨by simp, fun k h1 _ => by rw [Array.getElem?_set_ne (by omega) (fun e => h1 e.symm)], by simp⟩, fun u hu => by rw [Array.getElem?_set_ne (by omega) (by omega)]; exact hu, hgs⟩
  · have h0 := hc.cell o _ ha
    have hnq := Lib.run_neq_ptr_same w ⟨g, o, none⟩ Tryd.uPB hj
    go_enter Tryd.func33, Tryd.ntmps33
    go_wp2
    go_end0
    exact ⟨rfl, cs, ⟨hc, .inr ha, v, hv, hown⟩, ⟨rfl, fun _ _ _ => rfl, ha⟩, fun _ h => h, World.grownBy.refl _ _⟩

/-- The bytes' cell, once more. -/
theorem Used.trans {g o : Nat} {a b c : Array Value} (h : Used g o a b) (h2 : Used g o b c) : Used g o a c :=
  ⟨h2.1.trans h.1, fun j h3 h4 => (h2.2.1 j h3 h4).trans (h.2.1 j h3 h4), h2.2.2⟩

theorem Bld.put {T : TypeId} {base g o : Nat} {cs : Array Value} {l' : List UInt8} {w : World} {v' : Value} (h : Cells w g cs T) (hI : BldIn T cs.size o) (ha : cs[o]? = some (.pointer (some ⟨g, o, none⟩))) (hown : OwnU base w v' l') :
    ∃ cs', Bld T base (w.setCell ⟨g, o + 1, none⟩ v') g o cs' l' ∧ Used g o cs cs' := by
  have hlt := hI.lt
  refine ⟨_, ⟨h.set (o + 1) hlt v', .inr (by rw [Array.getElem?_set_ne hlt (by omega)]; exact ha), v', by simp, hown.setOther _ _ (fun e => own_ne_box hown h hI.ne e)⟩, by simp, fun j h1 h2 => by rw [Array.getElem?_set_ne hlt (fun e => h2 e.symm)], by rw [Array.getElem?_set_ne hlt (by omega)]; exact ha⟩

set_option maxHeartbeats 1000000 in
set_option maxRecDepth 100000 in
theorem WriteByte_any {T : TypeId} {base g o : Nat} {cs : Array Value} {l : List UInt8} (w : World) (c : UInt8) (n : Int) (hn : n = (c.toNat : Int)) (h : Bld T base w g o cs l) (hI : BldIn T cs.size o) (hg : base ≤ g) (hlen : l.length ≤ 1000000000) :
    Calls Tryd.prog 23 #[.pointer (some ⟨g, o, none⟩), .int .u8 n] w fun e w' => e = .returned .nilIface ∧ ∃ cs', Bld T base w' g o cs' (l ++ [c]) ∧ Used g o cs cs' ∧ Below base w w' ∧ Beside 5 g w w' := by
  have hb0 : base ≤ w.heap.size := by have := h.cells.lt; omega
  subst hn
  go_enter Tryd.func23, Tryd.ntmps23
  go_wp2_with fail
  refine (copyCheck_any w h hI hg).mono ?_
  rintro e w1 ⟨rfl, cs1, h1, hU, hbuf, hg1⟩
  have hb1 : Below base w w1 := grown_below hg1 hb0 (fun k hk => by cases hk; exact hg)
  have hz1 := hg1.size
  obtain ⟨hc1, ha1, v, hv, hown⟩ := h1
  have hk1 := hc1.cell (o + 1) _ hv
  go_wp2_with (with_reducible first | refine stop_append ?_ | refine stop_make ?_ | refine stop_slice ?_ | refine stop_copy ?_); refine Stop.out ?_
  refine wpList_append_row (f := byteV) rfl _ _ 41 rfl base 5 1 _ Tryd.uBytes Tryd.infoU8 rfl oneU l [c] (by exact hown.alloc _) (by exact lit_one w1 c _ rfl _) (by unfold maxLen; simp; omega) (by simp; omega) (by simp; omega) w (by exact hb1.alloc (by omega) _) ?_
  intro v2 w2 ho2 hb2 hg2
  obtain ⟨a2, n2, c2, rfl, -⟩ := ho2.row.shape
  have hc2 := (hc1.alloc (.cells #[.int .u8 (c.toNat : Int)] 5)).kept hg2 (fun e => (own_ne_box hown hc1 (by exact hI.ne)) e.symm)
  have hB2 : Beside 5 g w w2 := (((Beside.refl.grown hg1 (fun k hk => .inl (by cases hk; rfl))).alloc (.cells #[.int .u8 (c.toNat : Int)] 5)).grown hg2 (fun k hk => .inr (own_is_row (hown.alloc (.cells #[.int .u8 (c.toNat : Int)] 5)) k hk)))
  have hf2 := hc2.frozen (o + 1)
  have hd2 := hc2.cell (o + 1) _ hv
  have hsz : cs1.size = cs.size := hU.1
  obtain ⟨cs3, h3, hU3⟩ := Bld.put hc2 (by rw [hsz]; exact hI) hU.2.2 ho2
  have hb3 := hb2.setCell (p := ⟨g, o + 1, none⟩) hg (.slice a2 n2 c2)
  have hB3 := hB2.setCell (o + 1) (.slice a2 n2 c2)
  clear hB2
  go_wp2
  go_ret
  exact ⟨rfl, cs3, h3, hU.trans hU3, hb3, hB3⟩

theorem strCells_map (s : ByteArray) : Lib.strCells s = s.data.toList.map byteV := rfl
/-- 'append(v, s...)', s a string. -/
theorem wpList_append_str {P : Program} {w : World} {ops : Array Oper} {rest : List Oper} {o : Oper} {a : Act} {Q : Exit → Act → World → Prop} (hgd : o.guard = none) (sl x : Operand) (t u : TypeId)
    (ho : o.op = .call { callee := .builtin .append, args := #[sl, x], argTypes := #[t, u] }) (base : Nat) (e : TypeId) (ht : P.underlying t = some (.slice e)) (hu : P.underlying u = some .string)
    (hi : (P.info? e).map (fun i => (i.zero, i.size, i.bytes)) = some (some (.int .u8 0), 1, 1)) (l : List UInt8) (hown : OwnOf byteV e base w (a.eval sl) l) (s : ByteArray) (hx : a.eval x = .string s)
    (hlen : l.length + s.size ≤ 2000000000) (hbase : base ≤ w.heap.size) (w0 : World) (hb : Below base w0 w)
    (hK : ∀ v' w', OwnOf byteV e base w' v' (l ++ s.data.toList) → Below base w0 w' → w.grownBy w' (a.eval sl).ownBlock → wpList P ops Q rest (a.put o.dst v') w') : wpList P ops Q (o :: rest) a w := by
  obtain ⟨i, hi1, hi2, hi3, hi4⟩ := info_parts hi
  refine Lib.wpList_append_own_string w hgd sl x t u ho base e i ht hu hi1 hi2 hi3 hi4 (a.eval sl) l.length (l.map byteV) rfl hown s hx (by unfold maxLen; omega) (by omega) hbase ?_
  intro v' w' hown' hg _
  refine hK v' w' ?_ (hb.trans (grown_below hg hbase (fun k hk => (World.ownsRow.lt hown k hk).1))) hg
  unfold OwnOf
  rw [show (l ++ s.data.toList).length = l.length + s.size by rw [List.length_append]; rfl, List.map_append]
  exact hown'

set_option maxHeartbeats 1000000 in
set_option maxRecDepth 100000 in
theorem WriteString_any {T : TypeId} {base g o : Nat} {cs : Array Value} {l : List UInt8} (w : World) (s : ByteArray) (h : Bld T base w g o cs l) (hI : BldIn T cs.size o) (hg : base ≤ g) (hlen : l.length + s.size ≤ 1000000000) :
    Calls Tryd.prog 25 #[.pointer (some ⟨g, o, none⟩), .string s] w fun e w' => e = .returned (.tuple #[.int .i64 s.size, .nilIface]) ∧ ∃ cs', Bld T base w' g o cs' (l ++ s.data.toList) ∧ Used g o cs cs' ∧ Below base w w' ∧ Beside 5 g w w' := by
  have hb0 : base ≤ w.heap.size := by have := h.cells.lt; omega
  go_enter Tryd.func25, Tryd.ntmps25
  go_wp2_with fail
  refine (copyCheck_any w h hI hg).mono ?_
  rintro e w1 ⟨rfl, cs1, h1, hU, hbuf, hg1⟩
  have hb1 : Below base w w1 := grown_below hg1 hb0 (fun k hk => by cases hk; exact hg)
  have hz1 := hg1.size
  obtain ⟨hc1, ha1, v, hv, hown⟩ := h1
  have hk1 := hc1.cell (o + 1) _ hv
  go_wp2_with (with_reducible first | refine stop_append ?_ | refine stop_make ?_ | refine stop_slice ?_ | refine stop_copy ?_); refine Stop.out ?_
  refine wpList_append_str rfl _ _ 41 9 rfl base 5 Tryd.uBytes Tryd.uStr Tryd.infoU8 l (by exact hown) s rfl (by omega) (by omega) w (by exact hb1) ?_
  intro v2 w2 ho2 hb2 hg2
  obtain ⟨a2, n2, c2, rfl, -⟩ := ho2.row.shape
  have hc2 := hc1.kept hg2 (fun e => (own_ne_box hown hc1 (by exact hI.ne)) e.symm)
  have hB2 : Beside 5 g w w2 := ((Beside.refl.grown hg1 (fun k hk => .inl (by cases hk; rfl))).grown hg2 (fun k hk => .inr (own_is_row hown k hk)))
  have hf2 := hc2.frozen (o + 1)
  have hd2 := hc2.cell (o + 1) _ hv
  have hsz : cs1.size = cs.size := hU.1
  obtain ⟨cs3, h3, hU3⟩ := Bld.put hc2 (by rw [hsz]; exact hI) hU.2.2 ho2
  have hb3 := hb2.setCell (p := ⟨g, o + 1, none⟩) hg (.slice a2 n2 c2)
  have hB3 := hB2.setCell (o + 1) (.slice a2 n2 c2)
  clear hB2
  go_wp2
  go_ret2
  exact ⟨rfl, cs3, h3, hU.trans hU3, hb3, hB3⟩

theorem Tryd.uPU8 : Tryd.prog.underlying 60 = some (.pointer 5) := by kernel_rfl
theorem freeze_other (w : World) (p : Addr) (n k : Nat) (hk : k ≠ p.block) : (w.freeze p n).heap[k]? = w.heap[k]? := by
  unfold World.freeze
  split
  · rfl
  · simp only [Array.getElem?_modify]
    rw [if_neg (fun e => hk e.symm)]
set_option maxHeartbeats 1000000 in
set_option maxRecDepth 100000 in
theorem String_any {T : TypeId} {base g o : Nat} {cs : Array Value} {l : List UInt8} (w : World) (h : Bld T base w g o cs l) (hg : base ≤ w.heap.size) (hlen : l.length ≤ 1000000000) :
    Calls Tryd.prog 19 #[.pointer (some ⟨g, o, none⟩)] w fun e w' => e = .returned (.string ⟨l.toArray⟩) ∧ Below base w w' ∧ ∀ k o', k < w.heap.size → w.heap[k]? = some o' → (∀ cs fr, o' ≠ .cells cs 5 fr) → w'.heap[k]? = some o' := by
  obtain ⟨hc, ha, v, hv, hown⟩ := h
  have hUS : ∀ (W : World) (q : Option Addr), (Builtin.unsafeString_ #[60, 3] 9 #[.pointer q, .int .i64 0]).run Tryd.prog W = .ok (.string .empty) W := fun W q => Lib.run_unsafeString_none W _ _ _ q
  have c1 := hc.drew.cell (o + 1) _ hv
  rcases hown.2 with ⟨rfl, hl⟩ | ⟨b, cap, cur, rfl, hbb, hb, hnc, hcm, hcs, htake⟩
  · have hl0 : l = [] := List.eq_nil_of_length_eq_zero hl
    subst hl0
    have hSD : (Builtin.unsafeSliceData_ #[41] 60 #[.slice none 0 0]).run Tryd.prog w.drew = .ok (.pointer none) w.drew := rfl
    go_enter Tryd.func19, Tryd.ntmps19
    go_wp2
    go_region
    all_goals (go_wp2; go_ret; exact ⟨rfl, Below.drew (Below.refl base w), fun k o' _ h _ => h⟩)
  · by_cases hl0 : l = []
    · subst hl0
      clear hown htake
      by_cases hcap : cap = 0
      · subst hcap
        have hSD : (Builtin.unsafeSliceData_ #[41] 60 #[.slice (some ⟨b, 0, none⟩) 0 0]).run Tryd.prog w.drew = .ok (.pointer (some ⟨w.drew.heap.size, 0, none⟩)) (w.drew.alloc (.view ⟨b, 0, none⟩ 5)) :=
          Lib.run_unsafeSliceData_zero w.drew _ _ 5 Tryd.uPU8 ⟨b, 0, none⟩ 0 (5, cur.size) (by have hg' : w.drew.heap[b]? = some (.cells cur 5 (0, 0)) := hb; simp [World.shape?, hg'])
        have c2 := (hc.drew.alloc (.view ⟨b, 0, none⟩ 5)).cell (o + 1) _ hv
        have c3 : (w.alloc (.view ⟨b, 0, none⟩ 5)).drew.cell? ⟨g, o + 1, none⟩ = some (.slice (some ⟨b, 0, none⟩) 0 0) := c2
        have c4 := hc.cell (o + 1) _ hv
        simp only [List.length_nil] at c1 c2 c3 c4
        go_enter Tryd.func19, Tryd.ntmps19
        go_wp2
        go_region
        all_goals
          go_wp2
          go_ret
          exact ⟨rfl, (Below.drew (Below.refl base w)).alloc hg _, fun k o' hk h _ => ((World.grownBy_alloc w.drew (.view ⟨b, 0, none⟩ 5) none).block k hk (by simp)).trans h⟩
      · have hSD : (Builtin.unsafeSliceData_ #[41] 60 #[.slice (some ⟨b, 0, none⟩) 0 cap]).run Tryd.prog w.drew = .ok (.pointer (some ⟨b, 0, none⟩)) w.drew := Lib.run_unsafeSliceData_row _ _ _ _ _ _ hcap
        simp only [List.length_nil] at c1
        clear hcap
        go_enter Tryd.func19, Tryd.ntmps19
        go_wp2
        go_region
        all_goals (go_wp2; go_ret; exact ⟨rfl, Below.drew (Below.refl base w), fun k o' _ h _ => h⟩)
    · have hl1 : l.length ≠ 0 := by simpa using hl0
      have hSD : (Builtin.unsafeSliceData_ #[41] 60 #[.slice (some ⟨b, 0, none⟩) l.length cap]).run Tryd.prog w.drew = .ok (.pointer (some ⟨b, 0, none⟩)) w.drew := Lib.run_unsafeSliceData_row _ _ _ _ _ _ (by omega)
      have hUS2 : (Builtin.unsafeString_ #[60, 3] 9 #[.pointer (some ⟨b, 0, none⟩), .int .i64 l.length]).run Tryd.prog w.drew = .ok (.string ⟨l.toArray⟩) (w.drew.freeze ⟨b, 0, none⟩ l.length) := by
        refine Lib.run_unsafeString_row w.drew 60 3 9 5 Tryd.uPU8 Tryd.cellsU8 b cur.size (by have hg' : w.drew.heap[b]? = some (.cells cur 5 (0, 0)) := hb; simp [World.shape?, hg']) l hl0 (by omega) (by omega) ?_
        intro j x hx
        obtain ⟨hj, rfl⟩ := List.getElem?_eq_some_iff.1 hx
        have := hown.cellAt j hj
        rw [Addr.add_lit, Nat.zero_add]; exact this
      clear hown htake hl0 hl1
      go_enter Tryd.func19, Tryd.ntmps19
      go_wp2
      go_region
      all_goals
        go_wp2
        go_ret
        refine ⟨rfl, Lib.below_freeze (Below.drew (Below.refl base w)) (p := ⟨b, 0, none⟩) hbb _, fun k o' _ h hn => ?_⟩
        rw [freeze_other _ _ _ _ (by rintro rfl; rw [hb] at h; cases h; exact hn _ _ rfl)]
        exact h
end Go.Proofs.YtgkgdmpbcneoiaaDoor
