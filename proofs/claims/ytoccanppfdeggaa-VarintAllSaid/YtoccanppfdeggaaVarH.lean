/- Contracts of same, List and the reference's All: the numbers of a list of bytes. -/
import Derived.Test.YtoccanppfdeggaaVarC
import Derived.Test.YtoccanppfdeggaaVarG
namespace Go.Proofs.Ytoccanppfdeggaa
open Go.RowKit Go.Tab

def numV (n : Nat) : Value := .int .u64 n
theorem oneN : ∀ x : Nat, (numV x).oneCell' = true := fun _ => rfl
theorem Try.infoN : (Try.prog.info? 24).map (fun i => (i.zero, i.size, i.bytes)) = some (some (.int .u64 0), 1, 8) := by kernel_rfl
abbrev OwnN := OwnOf numV 24

set_option maxHeartbeats 800000 in
set_option maxRecDepth 100000 in
theorem vsame_any (v1 v2 : Value) (l : List Nat) (m : Nat) (w : World) (h1 : RowOf numV w v1 (l.take m)) (h2 : RowOf numV w v2 l) :
    Calls Try.prog 19 #[v1, v2, .int .i64 m] w fun e w' => e = .returned (.bool true) ∧ ∃ n, w' = w.drewN n := by
  obtain ⟨a1, c1, hv1, hl1, hm1, -⟩ := h1.len
  obtain ⟨a2, c2, hv2, hl2, hm2, -⟩ := h2.len
  unfold maxLen at hm1 hm2
  have hlen : (l.take m).length = min m l.length := List.length_take
  have hat : ∀ k, k < (l.take m).length → ∃ b1 o1 b2 o2 x, a1 = some ⟨b1, o1, none⟩ ∧ a2 = some ⟨b2, o2, none⟩ ∧ b1 < w.heap.size ∧ b2 < w.heap.size ∧ w.cell? ⟨b1, o1 + k, none⟩ = some (.int .u64 (x : Nat)) ∧ w.cell? ⟨b2, o2 + k, none⟩ = some (.int .u64 (x : Nat)) := by
    intro k hk
    rw [hv1] at h1
    rw [hv2] at h2
    obtain ⟨b1, o1, e1, hb1, hc1⟩ := h1.at hk
    obtain ⟨b2, o2, e2, hb2, hc2⟩ := h2.at (j := k) (by rw [hlen] at hk; omega)
    refine ⟨b1, o1, b2, o2, l[k]'(by rw [hlen] at hk; omega), e1, e2, hb1, hb2, ?_, hc2 k _⟩
    have := hc1 k hk
    rw [this, List.getElem_take]; rfl
  subst hv1 hv2
  have HL := Lib.hid hlen
  clear hlen h1 h2
  have hle : (l.take m).length ≤ l.length := by rw [HL.out]; omega
  have hcase : (m < l.length ∧ (l.take m).length = m) ∨ (¬ m < l.length ∧ (l.take m).length = l.length) := by
    rw [HL.out]; omega
  generalize (l.take m).length = n1 at *
  generalize l.length = n2 at *
  clear HL
  rcases hcase with ⟨hmn, heq⟩ | ⟨hmn, heq⟩
  · have hne : ((n1 : Int) != (m : Int)) = false := by rw [bne_eq_false_iff_eq]; omega
    have HQ := Lib.hid heq
    clear heq
    go_enter Try.func19, Try.ntmps19
    go_wp2
    go_loopw [17] (fun i wr => ∃ k : Nat, k ≤ n1 ∧ i = .int .i64 k ∧ ∃ n, wr = w.drewN n) (fun i _ => n1 - (intOf i).toNat)
    case atStart => exact ⟨0, by omega, rfl, 0, rfl⟩
    case round =>
      obtain ⟨k, hk, rfl, n, rfl⟩ := hrel
      by_cases h : k < n1
      · obtain ⟨b1, o1, b2, o2, x, rfl, rfl, hb1, hb2, hc1, hc2⟩ := hat k h
        have hlt2 : k < n2 := by omega
        clear hat
        go_wp2
        go_quiet (fail)
        go_wp2
        go_roundw
        case rel => exact ⟨k + 1, by omega, by go_num, _, rfl⟩
        case measure => simp [intOf]; omega
      · obtain rfl : k = n1 := by omega
        clear hat
        go_wp2
        go_ret
        exact ⟨rfl, _, by first | rfl | exact World.drewN_drewN _ _ _⟩
  · have hne : ((n1 : Int) != (n2 : Int)) = false := by rw [bne_eq_false_iff_eq]; omega
    have HQ := Lib.hid heq
    clear heq
    go_enter Try.func19, Try.ntmps19
    go_wp2
    go_loopw [17] (fun i wr => ∃ k : Nat, k ≤ n1 ∧ i = .int .i64 k ∧ ∃ n, wr = w.drewN n) (fun i _ => n1 - (intOf i).toNat)
    case atStart => exact ⟨0, by omega, rfl, 0, rfl⟩
    case round =>
      obtain ⟨k, hk, rfl, n, rfl⟩ := hrel
      by_cases h : k < n1
      · obtain ⟨b1, o1, b2, o2, x, rfl, rfl, hb1, hb2, hc1, hc2⟩ := hat k h
        have hlt2 : k < n2 := by omega
        clear hat
        go_wp2
        go_quiet (fail)
        go_wp2
        go_roundw
        case rel => exact ⟨k + 1, by omega, by go_num, _, rfl⟩
        case measure => simp [intOf]; omega
      · obtain rfl : k = n1 := by omega
        clear hat
        go_wp2
        go_ret
        exact ⟨rfl, _, by first | rfl | exact World.drewN_drewN _ _ _⟩
end Go.Proofs.Ytoccanppfdeggaa
