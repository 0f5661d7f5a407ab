/- Rows of scalars that are read; the walk of same (layer 2). -/
import Derived.Test.YthlmnbklhjcpnaaDoorUtfJ
namespace Go.Proofs.YthlmnbklhjcpnaaDoor
open Go.RowKit Go.Tab

theorem flat_pair : ∀ (l : List (Nat × Nat)) (j : Nat) (h : j < l.length), (l.flatMap pairC)[j * 2]? = some (.int .i64 (l[j].1 : Int)) ∧ (l.flatMap pairC)[j * 2 + 1]? = some (.int .i64 (l[j].2 : Int))
  | p :: l, 0, _ => by simp [pairC]
  | p :: l, j + 1, h => by
    have ih := flat_pair l j (by simpa using h)
    have e1 : (j + 1) * 2 = j * 2 + 2 := by omega
    rw [e1]
    simpa [pairC] using ih

/-- v reads as a row of scalars. -/
def PairsAt (w : World) (v : Value) (l : List (Nat × Nat)) : Prop :=
  ∃ a cap, v = .slice a l.length cap ∧ l.length ≤ cap ∧ cap ≤ maxLen ∧ (a = none → l = []) ∧
    ∀ x, a = some x → l ≠ [] → x.spot = none ∧ x.block < w.heap.size ∧ ∀ j (h : j < l.length), w.cell? ⟨x.block, x.off + j * 2, none⟩ = some (.int .i64 (l[j].1 : Int)) ∧ w.cell? ⟨x.block, x.off + j * 2 + 1, none⟩ = some (.int .i64 (l[j].2 : Int))
theorem OwnP.pairs {base : Nat} {w : World} {v : Value} {l : List (Nat × Nat)} (h : OwnP base w v l) : PairsAt w v l := by
  have hlt := World.ownsRow.lt h
  obtain ⟨h1, h2⟩ := h
  rcases h2 with ⟨rfl, h3⟩ | ⟨g, cap, cur, rfl, hb, hg, h3, h4, h5, h6⟩
  · have : l = [] := List.eq_nil_of_length_eq_zero h3
    subst this
    exact ⟨none, 0, rfl, Nat.le_refl _, Nat.zero_le _, fun _ => rfl, fun x hx => by cases hx⟩
  · refine ⟨_, cap, rfl, h3, h4, (fun h => by cases h), fun x hx _ => ?_⟩
    cases hx
    refine ⟨rfl, (hlt g rfl).2, fun j hj => ?_⟩
    obtain ⟨f1, f2⟩ := flat_pair l j hj
    rw [← h6, List.getElem?_take, if_pos (by omega)] at f1 f2
    refine ⟨?_, ?_⟩
    · rw [cell_of_row w g _ cur 30 (0, 0) hg]
      simpa using f1
    · rw [cell_of_row w g _ cur 30 (0, 0) hg]
      simpa using f2
theorem PairsAt.below {w w' : World} {v : Value} {l : List (Nat × Nat)} (h : PairsAt w v l) (hb : Below w.heap.size w w') : PairsAt w' v l := by
  obtain ⟨a, cap, rfl, h1, h2, h3, h4⟩ := h
  refine ⟨a, cap, rfl, h1, h2, h3, fun x hx hl => ?_⟩
  obtain ⟨g1, g2, g3⟩ := h4 x hx hl
  refine ⟨g1, Nat.lt_of_lt_of_le g2 hb.size, fun j hj => ?_⟩
  obtain ⟨g4, g5⟩ := g3 j hj
  exact ⟨(hb.cell (by exact g2)).trans g4, (hb.cell (by exact g2)).trans g5⟩
theorem PairsAt.at {w : World} {a : Option Addr} {n cap : Nat} {l : List (Nat × Nat)} (h : PairsAt w (.slice a n cap) l) {j : Nat} (hj : j < l.length) :
    ∃ b off, a = some ⟨b, off, none⟩ ∧ b < w.heap.size ∧ w.cell? ⟨b, off + j * 2, none⟩ = some (.int .i64 (l[j].1 : Int)) ∧ w.cell? ⟨b, off + j * 2 + 1, none⟩ = some (.int .i64 (l[j].2 : Int)) := by
  obtain ⟨a', cap', he, h1, h2, h3, h4⟩ := h
  cases he
  cases a with
  | none => have := h3 rfl; subst this; simp at hj
  | some x =>
    obtain ⟨b, off, sp⟩ := x
    obtain ⟨rfl, g2, g3⟩ := h4 _ rfl (by intro h0; subst h0; simp at hj)
    exact ⟨b, off, rfl, g2, g3 j hj⟩

set_option maxHeartbeats 2000000 in
set_option maxRecDepth 100000 in
theorem same_yes (v1 v2 : Value) (l : List (Nat × Nat)) (w : World) (h1 : PairsAt w v1 l) (h2 : PairsAt w v2 l) :
    Calls Tryd.prog 10 #[v1, v2] w fun e w' => e = .returned (.bool true) ∧ Below w.heap.size w w' := by
  have k1 := h1
  have k2 := h2
  obtain ⟨a1, c1, rfl, hl1, hm1, -⟩ := h1
  obtain ⟨a2, c2, rfl, hl2, hm2, -⟩ := h2
  unfold maxLen at hm1 hm2
  go_enter Tryd.func10, Tryd.ntmps10
  go_wp2_with fail
  go_loopw [13] (fun i wr => ∃ k : Nat, k ≤ l.length ∧ i = .int .i64 k ∧ Below w.heap.size w wr) (fun i _ => l.length - (intOf i).toNat)
  case atStart => exact ⟨0, Nat.zero_le _, rfl, Below.refl _ _⟩
  case round =>
    obtain ⟨k, hk, rfl, hb⟩ := hrel
    by_cases h : k < l.length
    · obtain ⟨b1, o1, rfl, g1, d1, e1⟩ := (k1.below hb).at h
      obtain ⟨b2, o2, rfl, g2, d2, e2⟩ := (k2.below hb).at h
      generalize l[k] = p at d1 e1 d2 e2
      go_wp2_with fail
      go_quiet (fail)
      go_wp2
      go_roundw
      case rel => exact ⟨k + 1, h, by go_num, hb.trans (below_draws _ _ _)⟩
      case measure => simp [intOf]; omega
    · obtain rfl : k = l.length := by omega
      go_wp2
      go_ret
      exact ⟨rfl, hb⟩
end Go.Proofs.YthlmnbklhjcpnaaDoor
