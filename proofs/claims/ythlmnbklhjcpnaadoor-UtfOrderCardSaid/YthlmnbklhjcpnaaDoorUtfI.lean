/- The walks of the reference's Bad, Valid and All (layer 2). -/
import Derived.Test.YthlmnbklhjcpnaaDoorUtfH
namespace Go.Proofs.YthlmnbklhjcpnaaDoor
open Go.RowKit Go.Tab

set_option maxHeartbeats 800000 in
set_option maxRecDepth 100000 in
theorem rBad_any (s : ByteArray) (w : World) (hs : s.size ≤ 1000000) :
    Calls Tryd.prog 16 #[.string s] w fun e w' => e = .returned (.int .i64 (badV (scan (bs s) 0).2)) ∧ Below w.heap.size w w' := by
  go_enter Tryd.func16, Tryd.ntmps16
  go_wp2_with fail
  go_loopw [3] (fun i wr => ∃ (k : Nat) (pre : List (Nat × Nat)), i = .int .i64 k ∧ k ≤ s.size ∧ Rest (bs s) k pre ∧ Below w.heap.size w wr) (fun i _ => s.size - (intOf i).toNat)
  case atStart => exact ⟨0, [], rfl, Nat.zero_le _, Rest.zero _, Below.refl _ _⟩
  case round =>
    obtain ⟨k, pre, rfl, hk, hr, hb⟩ := hrel
    have HR := Lib.hid hr
    have hz := hb.size
    clear hr
    by_cases h : k < s.size
    · obtain ⟨c, n, h1⟩ : ∃ c n, oneN ((bs s).drop k) = (c, n) := ⟨_, _, rfl⟩
      have hle := (oneN_le ((bs s).drop k) (fun x hx => bs_lt x (List.mem_of_mem_drop hx))).1
      have hF := One_any s k wr hs hk
      rw [h1] at hF hle
      simp only [List.length_drop, bs_length] at hle
      have H1 := Lib.hid h1
      clear h1
      by_cases hn : n = 0
      · subst hn
        have h2 := Lib.hid (HR.out.bad (by rw [bs_length]; exact h) (by rw [H1.out]))
        go_wp2_with fail
        refine hF.mono ?_
        clear hF
        rintro e w1 ⟨rfl, hb1⟩
        have hb2 := hb.trans (hb1.mono hz)
        go_wp2
        go_ret
        rw [h2.out]
        exact ⟨rfl, hb2⟩
      · have h2 := Lib.hid (HR.out.good (by rw [bs_length]; exact h) H1.out hn)
        have hbn : ((n : Int) == 0) = false := by rw [beq_eq_false_iff_ne]; omega
        have hn1 : 1 ≤ n := by omega
        clear hn
        go_wp2_with fail
        refine hF.mono ?_
        clear hF
        rintro e w1 ⟨rfl, hb1⟩
        have hb2 := hb.trans (hb1.mono hz)
        go_wp2
        go_roundw
        case rel => exact ⟨k + n, _, by go_num, by omega, h2.out, hb2⟩
        case measure => simp [intOf]; omega
    · have h2 := Lib.hid (HR.out.done (by rw [bs_length]; omega))
      go_wp2
      go_ret
      rw [h2.out]
      exact ⟨rfl, hb⟩

set_option maxHeartbeats 800000 in
set_option maxRecDepth 100000 in
theorem rValid_any (s : ByteArray) (w : World) (hs : s.size ≤ 1000000) :
    Calls Tryd.prog 12 #[.string s] w fun e w' => e = .returned (.bool (scan (bs s) 0).2.isNone) ∧ Below w.heap.size w w' := by
  go_enter Tryd.func12, Tryd.ntmps12
  go_wp2_with fail
  refine (rBad_any s w hs).mono ?_
  rintro e w1 ⟨rfl, hb⟩
  have h := badV_neg (scan (bs s) 0).2
  generalize badV (scan (bs s) 0).2 = b at *
  go_wp2
  go_ret
  exact ⟨rfl, hb⟩

/-- A scalar and its place, as two cells. -/
def pairC (p : Nat × Nat) : List Value := [.int .i64 (p.1 : Int), .int .i64 (p.2 : Int)]
def OwnP (base : Nat) (w : World) (v : Value) (l : List (Nat × Nat)) : Prop := w.ownsRow base 30 2 v l.length (l.flatMap pairC)
theorem OwnP.nil {base : Nat} {w : World} : OwnP base w (.slice none 0 0) [] := World.ownsRow_nil _ _ _ _
theorem OwnP.alloc {base : Nat} {w : World} {v : Value} {l : List (Nat × Nat)} (h : OwnP base w v l) (o : Obj) : OwnP base (w.alloc o) v l := World.ownsRow.alloc h o
theorem OwnP.below {base : Nat} {w w' : World} {v : Value} {l : List (Nat × Nat)} (h : OwnP base w v l) (hb : Below w.heap.size w w') : OwnP base w' v l := by
  obtain ⟨h1, h2⟩ := h
  refine ⟨h1, ?_⟩
  rcases h2 with h2 | ⟨g, cap, cur, rfl, hg0, hg, r⟩
  · exact .inl h2
  · refine .inr ⟨g, cap, cur, rfl, hg0, ?_, r⟩
    rw [hb.block g (Array.getElem?_eq_some_iff.1 hg).1]; exact hg
theorem OwnP.len {base : Nat} {w : World} {v : Value} {l : List (Nat × Nat)} (h : OwnP base w v l) : ∃ a cap, v = .slice a l.length cap := by
  obtain ⟨h1, h2⟩ := h
  rcases h2 with ⟨rfl, h3⟩ | ⟨g, cap, cur, rfl, _⟩
  · exact ⟨none, 0, by rw [h3]⟩
  · exact ⟨_, cap, rfl⟩
theorem Tryd.infoP : (Tryd.prog.info? 30).map (fun i => (i.zero, i.size, i.bytes)) = some (some (.agg #[.int .i64 0, .int .i64 0]), 2, 16) := by kernel_rfl

section
variable {w : World} {ops : Array Oper} {rest : List Oper} {o : Oper} {a : Act} {Q : Exit → Act → World → Prop}
/-- 'append(s, p)': p lies in a block of its own. -/
theorem wpList_append_pair (hgd : Region.wanted o (yielded ops a.tmps) = true) (s x : Operand)
    (ho : o.op = .call { callee := .builtin .append, args := #[s, x], argTypes := #[23, 23] })
    (base : Nat) (l : List (Nat × Nat)) (p : Nat × Nat) (hown : OwnP base w (a.eval s) l) (g : Nat) (hx : a.eval x = .slice (some ⟨g, 0, none⟩) 1 1)
    (hc0 : w.cell? ⟨g, 0, none⟩ = some (.int .i64 (p.1 : Int))) (hc1 : w.cell? ⟨g, 1, none⟩ = some (.int .i64 (p.2 : Int)))
    (hm : l.length ≤ 1000000) (hbase : base ≤ w.heap.size) (w0 : World) (hb : Below base w0 w)
    (hK : ∀ v' w', OwnP base w' v' (l ++ [p]) → Below base w0 w' → wpList Tryd.prog ops Q rest (a.put o.dst v') w') : wpList Tryd.prog ops Q (o :: rest) a w := by
  refine wpList_want hgd fun K hK' => ?_
  obtain ⟨i, hi1, hi2, hi3, hi4⟩ := info_parts Tryd.infoP
  refine wp_append_own w s x 23 ho base 30 i _ 2 16 Tryd.underlying23 hi1 hi2 hi3 hi4 rfl (by decide) (a.eval s) l.length (l.flatMap pairC) rfl hown ⟨g, 0, none⟩ 1 1 (pairC p) hx rfl ?_ ?_ (by unfold maxLen; omega) (by omega) hbase ?_
  · intro j u hu
    rw [Addr.add_lit]
    match j with
    | 0 => simp [pairC] at hu; subst hu; simpa using hc0
    | 1 => simp [pairC] at hu; subst hu; simpa using hc1
    | j + 2 => simp [pairC] at hu
  · intro u hu
    simp [pairC] at hu
    rcases hu with rfl | rfl <;> rfl
  · intro v' w' hown' hg _
    refine hK' _ _ (hK v' w' ?_ (hb.trans (grown_below hg hbase (fun k hk => (World.ownsRow.lt hown k hk).1))))
    unfold OwnP
    simpa using hown'
end
end Go.Proofs.YthlmnbklhjcpnaaDoor
