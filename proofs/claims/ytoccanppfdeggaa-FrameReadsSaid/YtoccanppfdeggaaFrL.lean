/- The walk of the reader's Text (layer 5). -/
import Derived.Test.YtoccanppfdeggaaFrK
import Derived.Laws.IdiomStrings
import Derived.Lib.BufferRead
namespace Go.Proofs.Ytoccanppfdeggaa
open Go.RowKit Go.Tab

theorem Try.underStr : Try.prog.underlying 9 = some .string := by kernel_rfl
/-- Bytes that are read, as a string. -/
theorem conv_row {w : World} {v : Value} {l : List UInt8} (h : BytesAt w v l) : (convert 22 9 v).run Try.prog w = .ok (.string ⟨l.toArray⟩) w := by
  obtain ⟨a, cap, rfl, h2, h3, h4, h5⟩ := h
  cases a with
  | none =>
    have hc := h4 rfl
    have hl : l = [] := List.eq_nil_of_length_eq_zero (by omega)
    subst hl
    have := Go.Lib.run_convert_nil_bytes (P := Try.prog) w 22 9 5 cap Try.underlying22 Try.underlying5 Try.underStr
    exact this
  | some x =>
    refine run_convert_bytes_back (P := Try.prog) w 22 9 5 x cap l Try.underlying22 Try.underlying5 Try.underStr fun j hj => ?_
    obtain ⟨h6, h7, h8⟩ := h5 x rfl (by intro h0; subst h0; simp at hj)
    obtain ⟨b, off, sp⟩ := x
    simp only at h6
    subst h6
    rw [Addr.add_lit]
    exact h8 j hj

set_option maxHeartbeats 800000 in
set_option maxRecDepth 100000 in
theorem RText_any (g : Nat) (b : Option Nat) (l : List UInt8) (e : Nat) (w : World) (h : RdAt w g b l e) (hlen : l.length ≤ 1000000) :
    Calls Try.prog 36 #[.pointer (some ⟨g, 0, none⟩)] w fun x w' => x = .returned (.string ⟨(rdFrame 1048576 l e).1.toArray⟩) ∧ RdAt w' g b (rdFrame 1048576 l e).2.1 (rdFrame 1048576 l e).2.2 ∧ w.grownBy w' (some g) := by
  have hF := RFrame_any g b l e 1048576 w h hlen (by decide)
  generalize rdFrame 1048576 l e = r at *
  obtain ⟨t, l2, e2⟩ := r
  go_enter Try.func36, Try.ntmps36
  go_wp2_with fail
  refine hF.mono ?_
  rintro e3 w3 ⟨out, rfl, ho, hk, hg⟩
  have hcv := conv_row ho.row
  generalize hS : (⟨t.toArray⟩ : ByteArray) = S at *
  go_wp2
  go_ret
  exact ⟨by rw [hS]; rfl, hk, hg⟩
end Go.Proofs.Ytoccanppfdeggaa
