/- Rows of calls that came in, read as lists. -/
import Derived.Test.YtoccanppfdeggaaFrM
import Derived.Deep.SlicePairs
namespace Go.Proofs.Ytoccanppfdeggaa
open Go.RowKit Go.Tab Go.ChangeShapes Go.WideShapes

theorem Try.opsUnd : Try.prog.underlying 54 = some (.slice 60) := by kernel_rfl
theorem Try.opUnd : ∃ f0 f1 : Field, Try.prog.underlying 60 = some (.struct #[f0, f1]) ∧ f0.offset = 0 ∧ f1.offset = 1 ∧ f0.type = 5 ∧ f1.type = 3 := ⟨_, _, Try.underlying60, rfl, rfl, rfl, rfl⟩

theorem ops_open {H : Type} {enc : TypeId × Value → H} {W : World} {base : Nat} {spare : Nat → Bool} {held : Bool} {fuel : Nat} {cs : List Value} {x : DataW H × List MemPlace} {b : Option Addr} {len cap : Nat}
    (h : DataW.trod enc Try.prog W base spare held fuel 54 cs = some x) (hcs : cs = [.slice b len cap]) : ∃ l, OpsAt W (.slice b len cap) l := by
  obtain ⟨f0, f1, hu, o0, o1, t0, t1⟩ := Try.opUnd
  rcases Go.Deep.open_slice_pairs Try.opsUnd hu (by kernel_rfl) o0 o1 (by rw [t0]; kernel_rfl) (by rw [t1]; kernel_rfl) h with ⟨hc, hx⟩ | ⟨a, ln, cp, m, k, V0, V1, D0, D1, P0, P1, hc, _, hl, hm, hmm, hx, hall⟩
  · rw [hcs] at hc
    simp only [List.cons.injEq, and_true, Value.slice.injEq] at hc
    obtain ⟨rfl, rfl, rfl⟩ := hc
    exact ⟨[], ⟨none, 0, rfl, Nat.le_refl _, by decide, fun _ => rfl, fun x h => by cases h⟩, fun p hp => by cases hp⟩
  · rw [hcs] at hc
    simp only [List.cons.injEq, and_true, Value.slice.injEq] at hc
    obtain ⟨rfl, rfl, rfl⟩ := hc
    rw [t0, t1] at hall
    have hlm : len ≤ m := by rw [hmm]; split <;> omega
    have h0 : ∀ i, i < m → ∃ n : Int, V0 i = .int .u8 n ∧ 0 ≤ n ∧ n < 256 := fun i hi => by
      obtain ⟨Ni, h1, h2, h3⟩ := DataW.trod_int Try.underlying5 (hall i hi).2.2.1
      simp only [List.cons.injEq, and_true] at h1
      rw [Lit.wf, Bool.and_eq_true, decide_eq_true_eq, decide_eq_true_eq] at h3
      have e1 : IntKind.u8.min = 0 := rfl
      have e2 : IntKind.u8.max = 255 := rfl
      exact ⟨Ni, h1, by omega, by omega⟩
    have h1 : ∀ i, i < m → ∃ n : Int, V1 i = .int .i64 n ∧ -9223372036854775808 ≤ n ∧ n ≤ 9223372036854775807 := fun i hi => by
      obtain ⟨Ni, h1, h2, h3⟩ := DataW.trod_int Try.underlying3 (hall i hi).2.2.2
      simp only [List.cons.injEq, and_true] at h1
      rw [Lit.wf, Bool.and_eq_true, decide_eq_true_eq, decide_eq_true_eq] at h3
      have e1 : IntKind.i64.min = -9223372036854775808 := rfl
      have e2 : IntKind.i64.max = 9223372036854775807 := rfl
      exact ⟨Ni, h1, by omega, by omega⟩
    have pick : ∀ i : Fin len, ∃ p : Nat × Int, V0 i = .int .u8 (p.1 : Int) ∧ V1 i = .int .i64 p.2 ∧ p.1 < 256 ∧ -9223372036854775808 ≤ p.2 ∧ p.2 ≤ 9223372036854775807 := fun i => by
      obtain ⟨n0, e0, b0, b1⟩ := h0 i (by omega)
      obtain ⟨n1, e1, b2, b3⟩ := h1 i (by omega)
      exact ⟨(n0.toNat, n1), by rw [e0]; congr 1; simp; omega, e1, by simp; omega, b2, b3⟩
    refine ⟨List.ofFn fun i => (pick i).choose, ⟨some a, cap, by simp, by simpa using hl, hm, (fun h => by cases h), fun y hy hne => ?_⟩, fun p hp => ?_⟩
    · cases hy
      have hn0 : 0 < len := by
        rcases Nat.eq_zero_or_pos len with h | h
        · subst h; simp at hne
        · exact h
      have hc0 := (hall 0 (by omega)).1
      obtain ⟨bb, off, sp⟩ := a
      have hsp : sp = none := by simpa [Addr.add] using World.cell?_spot hc0
      subst hsp
      refine ⟨rfl, World.block_lt_of_cell? W _ hc0, fun j hj => ?_⟩
      simp at hj
      obtain ⟨g1, g2, _⟩ := hall j (by omega)
      obtain ⟨q1, q2, _⟩ := (pick ⟨j, hj⟩).choose_spec
      rw [Addr.add_lit] at g1 g2
      simp only [List.getElem_ofFn]
      exact ⟨by rw [g1, ← q1], by rw [← q2, ← g2, Nat.add_assoc]⟩
    · obtain ⟨i, hi⟩ := List.mem_ofFn.1 hp
      subst hi
      exact (pick i).choose_spec.2.2
end Go.Proofs.Ytoccanppfdeggaa
