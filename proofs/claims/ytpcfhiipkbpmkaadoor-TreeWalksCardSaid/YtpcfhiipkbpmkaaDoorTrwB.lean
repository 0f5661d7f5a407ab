/- The walk of Walk (layer 8): a copy, and the function that tells it. -/
import Derived.Test.YtpcfhiipkbpmkaaDoorTreM
import Derived.Test.YtpcfhiipkbpmkaaDoorTrwA
namespace Go.Proofs.YtpcfhiipkbpmkaaDoor
open Go.RowKit Go.Tab

set_option maxHeartbeats 4000000 in
set_option maxRecDepth 100000 in
theorem Walk_any (t : Tree) (hb : t.bulk ≤ 1048576) (w : World) (cs : List Value) (hv : ValAt w t cs) :
    Calls Tryd.prog 17 #[valV cs] w fun e w' => (∃ X cs', e = .returned (.func (.func 48) #[] #[.pointer (some ⟨X, 0, none⟩)]) ∧ Cells w' X cs'.toArray 27 ∧ ValIn (fun k => w.heap.size ≤ k ∧ k < X) w' t cs' ∧ w.heap.size ≤ X) ∧ Below w.heap.size w w' := by
  have hv0 := hv
  obtain ⟨kind, is, neg, digits, exp, str, ka, kn, kc, sa, sn, sc, rfl⟩ : ∃ kind is neg digits exp str ka kn kc sa sn sc, cs = [.int .i64 kind, .bool is, .bool neg, .string digits, .int .i64 exp, .string str, .slice ka kn kc, .slice sa sn sc] := by
    cases t
    simp only [ValAt] at hv
    obtain ⟨kv, a, cap, rfl, h2, -⟩ := hv
    obtain ⟨ka, kc, rfl, -⟩ := h2.len
    exact ⟨_, _, _, _, _, _, _, _, _, _, _, _, rfl⟩
  have hb0 : Below w.heap.size w (w.alloc (.cells #[.int .i64 kind, .bool is, .bool neg, .string digits, .int .i64 exp, .string str, .slice ka kn kc, .slice sa sn sc] 27)) := (Below.refl _ w).alloc (Nat.le_refl _) _
  have hC := Copy_any t hb _ _ (hv0.below_alloc (.cells #[.int .i64 kind, .bool is, .bool neg, .string digits, .int .i64 exp, .string str, .slice ka kn kc, .slice sa sn sc] 27))
  clear hv hv0
  simp only [valV] at hC ⊢
  go_enter Tryd.func17, Tryd.ntmps17
  go_wp2_with fail
  refine hC.mono ?_
  clear hC
  rintro e w2 ⟨⟨cs2, rfl, hin⟩, hb2⟩
  obtain ⟨dkind, dis, dneg, ddig, dexp, dstr, dka, dkn, dkc, dsa, dsn, dsc, rfl⟩ := hin.shape
  have hs := hb2.size
  simp only [World.size_alloc] at hs
  have hb3 := hb0.trans (hb2.mono (by simp))
  have HE := Lib.hid (And.intro (Cells.new w2 #[.int .i64 dkind, .bool dis, .bool dneg, .string ddig, .int .i64 dexp, .string dstr, .slice dka dkn dkc, .slice dsa dsn dsc] 27)
    (And.intro (ValIn.move (P := fun k => (w.alloc (.cells #[.int .i64 kind, .bool is, .bool neg, .string digits, .int .i64 exp, .string str, .slice ka kn kc, .slice sa sn sc] 27)).heap.size ≤ k) (Q := fun k => w.heap.size ≤ k ∧ k < w2.heap.size)
      (w' := w2.alloc (.cells #[.int .i64 dkind, .bool dis, .bool dneg, .string ddig, .int .i64 dexp, .string dstr, .slice dka dkn dkc, .slice dsa dsn dsc] 27)) (by simp) (fun m _ hm => Below.heap_alloc _ _ _ hm) (fun m h1 h2 => ⟨by simp at h1; omega, h2⟩) _ _ hin)
      (hb3.alloc hb3.size (.cells #[.int .i64 dkind, .bool dis, .bool dneg, .string ddig, .int .i64 dexp, .string dstr, .slice dka dkn dkc, .slice dsa dsn dsc] 27))))
  clear hin hb2 hb0
  simp only [valV]
  go_wp2_with fail
  go_ret
  exact ⟨⟨w2.heap.size, _, rfl, HE.out.1, HE.out.2.1, by omega⟩, HE.out.2.2⟩
end Go.Proofs.YtpcfhiipkbpmkaaDoor
