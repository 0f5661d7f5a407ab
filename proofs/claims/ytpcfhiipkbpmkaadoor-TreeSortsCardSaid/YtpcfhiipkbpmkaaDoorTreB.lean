/- The walks of Deep of both sides (layer 8). -/
import Derived.Test.YtpcfhiipkbpmkaaDoorTreA
import Derived.Test.YtpcfhiipkbpmkaaDoorBox
namespace Go.Proofs.YtpcfhiipkbpmkaaDoor
open Go.RowKit Go.Tab

/-- A value's cells as one value. -/
def valV (cs : List Value) : Value := .agg cs.toArray
theorem ret_num {k : IntKind} {a b : Int} (h : a = b) : Ending.returned (.int k a) = .returned (.int k b) := by rw [h]

mutual
def deep : Tree → Nat
  | .mk kind _ _ _ _ _ _ kids => (if kind = 5 ∨ kind = 6 then deepAll kids else 0) + 1
def deepAll : List Tree → Nat
  | [] => 0
  | t :: r => max (deep t) (deepAll r)
end
mutual
theorem deep_bulk : ∀ t : Tree, deep t ≤ t.bulk
  | .mk kind _ _ d _ s ks kids => by
    have := deepAll_bulk kids
    simp only [deep, Tree.bulk]
    split <;> omega
theorem deepAll_bulk : ∀ l : List Tree, deepAll l ≤ bulkAll l
  | [] => by simp [deepAll, bulkAll]
  | t :: r => by
    have := deep_bulk t
    have := deepAll_bulk r
    simp only [deepAll, bulkAll]
    omega
end
theorem deepAll_snoc : ∀ (l : List Tree) (t : Tree), deepAll (l ++ [t]) = max (deepAll l) (deep t)
  | [], t => by simp [deepAll]
  | a :: r, t => by simp only [List.cons_append, deepAll, deepAll_snoc r t]; omega
theorem take_snoc' {α : Type} (l : List α) (k : Nat) (h : k < l.length) : l.take (k + 1) = l.take k ++ [l[k]] := by
  rw [List.take_succ_eq_append_getElem h]
theorem deepAll_take {l : List Tree} {k : Nat} (h : k < l.length) : deepAll (l.take (k + 1)) = max (deepAll (l.take k)) (deep l[k]) := by
  rw [take_snoc' l k h, deepAll_snoc]
theorem bulkAll_take : ∀ (l : List Tree) (k : Nat), bulkAll (l.take k) ≤ bulkAll l
  | [], k => by simp [bulkAll]
  | t :: r, 0 => by simp [bulkAll]
  | t :: r, k + 1 => by have := bulkAll_take r k; simp only [List.take_succ_cons, bulkAll]; omega

theorem holds_yes (kind : Int) (w : World) (h : kind = 5 ∨ kind = 6) : Calls Tryd.prog 56 #[.int .i64 kind] w fun e w' => e = .returned (.bool true) ∧ w = w' := by
  rcases h with rfl | rfl
  all_goals
    go_enter Tryd.func56, Tryd.ntmps56
    go_wp2
    go_ret
    exact ⟨rfl, rfl⟩
theorem holds_no (kind : Int) (w : World) (h : ¬ (kind = 5 ∨ kind = 6)) : Calls Tryd.prog 56 #[.int .i64 kind] w fun e w' => e = .returned (.bool false) ∧ w = w' := by
  have b1 : (kind == 5) = false := by rw [beq_eq_false_iff_ne]; omega
  have b2 : (kind == 6) = false := by rw [beq_eq_false_iff_ne]; omega
  clear h
  go_enter Tryd.func56, Tryd.ntmps56
  go_wp2
  go_ret
  exact ⟨rfl, rfl⟩

theorem ValAt.below_alloc {w : World} {t : Tree} {cs : List Value} (h : ValAt w t cs) (o : Obj) : ValAt (w.alloc o) t cs := ValAt.below ((Below.refl _ w).alloc (Nat.le_refl _) o) t cs h
/-- A kid's eight cells, at its place; what is known of it there. -/
theorem kid_at {w : World} {t : Tree} {cs : List Value} {b o : Nat} (hv : ValAt w t cs) (hc : ∀ j u, cs[j]? = some u → w.cell? ⟨b, o + j, none⟩ = some u) :
    ∃ kind is neg digits exp str ka kn kc sa sn sc, cs = [.int .i64 kind, .bool is, .bool neg, .string digits, .int .i64 exp, .string str, .slice ka kn kc, .slice sa sn sc] ∧
      w.cell? ⟨b, o, none⟩ = some (.int .i64 kind) ∧ w.cell? ⟨b, o + 1, none⟩ = some (.bool is) ∧ w.cell? ⟨b, o + 2, none⟩ = some (.bool neg) ∧ w.cell? ⟨b, o + 3, none⟩ = some (.string digits) ∧
      w.cell? ⟨b, o + 4, none⟩ = some (.int .i64 exp) ∧ w.cell? ⟨b, o + 5, none⟩ = some (.string str) ∧ w.cell? ⟨b, o + 6, none⟩ = some (.slice ka kn kc) ∧ w.cell? ⟨b, o + 7, none⟩ = some (.slice sa sn sc) := by
  cases t with
  | mk kind is neg digits exp str keys kids =>
    simp only [ValAt] at hv
    obtain ⟨kv, a, cap, rfl, h2, -⟩ := hv
    obtain ⟨ka, kc, rfl, -⟩ := h2.len
    exact ⟨kind, is, neg, digits, exp, str, ka, _, kc, a, _, cap, rfl, by simpa using hc 0 _ rfl, hc 1 _ rfl, hc 2 _ rfl, hc 3 _ rfl, hc 4 _ rfl, hc 5 _ rfl, hc 6 _ rfl, hc 7 _ rfl⟩


set_option maxHeartbeats 2000000 in
set_option maxRecDepth 100000 in
theorem Deep_any : ∀ (n : Nat) (t : Tree), t.bulk ≤ n → t.bulk ≤ 1048576 → ∀ (w : World) (cs : List Value), ValAt w t cs →
    Calls Tryd.prog 27 #[valV cs] w fun e w' => e = .returned (.int .i64 (deep t : Nat)) ∧ Below w.heap.size w w'
  | 0, t, h, _, _, _, _ => by have := bulk_pos t; omega
  | n + 1, .mk kind is neg digits exp str keys kids, h, hmax, w, cs, hv => by
    simp only [ValAt] at hv
    obtain ⟨kv, a, cap, rfl, hk, hl, hm, hnil, hx⟩ := hv
    obtain ⟨ka, kc, rfl, -⟩ := hk.len
    have hbu := deepAll_bulk kids
    have hkb : bulkAll kids ≤ n ∧ bulkAll kids ≤ 1048575 := by simp only [Tree.bulk] at h hmax; omega
    have hll := len_bulk kids
    unfold maxLen at hm
    simp only [valV, deep]
    clear h hmax
    by_cases hkind : kind = 5 ∨ kind = 6
    · rw [if_pos hkind]
      have hH := fun W => holds_yes kind W hkind
      clear hkind
      go_enter Tryd.func27, Tryd.ntmps27
      go_wp2_with fail
      refine (hH _).mono ?_
      rintro e w1 ⟨rfl, rfl⟩
      have hb0 : Below w.heap.size w (w.alloc (.cells #[.int .i64 kind, .bool is, .bool neg, .string digits, .int .i64 exp, .string str, .slice ka keys.length kc, .slice a kids.length cap] 27)) := (Below.refl _ w).alloc (Nat.le_refl _) _
      go_wp2_with fail
      go_loopw [3, 12] (fun d i wr => ∃ k : Nat, k ≤ kids.length ∧ i = .int .i64 (k : Int) ∧ d = .int .i64 (deepAll (kids.take k) : Nat) ∧ Below w.heap.size w wr) (fun _ i _ => kids.length - (intOf i).toNat)
      case atStart => exact ⟨0, Nat.zero_le _, rfl, by simp [deepAll], hb0⟩
      case round =>
        clear hb0 hH
        obtain ⟨k, hkk, rfl, rfl, hb⟩ := hrel
        by_cases hkl : k < kids.length
        · have hne : kids ≠ [] := by intro h0; rw [h0] at hkl; simp at hkl
          cases a with
          | none => have := hnil rfl; omega
          | some x =>
            obtain ⟨bb, off, sp⟩ := x
            obtain ⟨rfl, hlt, hkids⟩ := hx _ rfl hne
            simp only at hlt hkids
            obtain ⟨kc0, hkc, hkv⟩ := KidsAt.get (KidsAt.below hb (hlt) kids _ hkids) k hkl
            obtain ⟨kkind, kis, kneg, kdig, kexp, kstr, kka, kkn, kkc, ksa, ksn, ksc, rfl, m0, m1, m2, m3, m4, m5, m6, m7⟩ := kid_at hkv hkc
            have hkbk := bulk_kid hkl
            have hIH := Deep_any n kids[k] (by omega) (by omega)
            have hDT := Lib.hid (deepAll_take hkl)
            have hdk := deep_bulk kids[k]
            have hdt := deepAll_bulk (kids.take k)
            have hbt := bulkAll_take kids k
            generalize kids[k] = kid at *
            generalize hda : deepAll (kids.take k) = da at *
            have HDA := Lib.hid hda
            clear hda
            have hkv2 := hkv.below_alloc (.cells #[.int .i64 kkind, .bool kis, .bool kneg, .string kdig, .int .i64 kexp, .string kstr, .slice kka kkn kkc, .slice ksa ksn ksc] 27)
            have hb1 := hb.alloc hb.size (.cells #[.int .i64 kkind, .bool kis, .bool kneg, .string kdig, .int .i64 kexp, .string kstr, .slice kka kkn kkc, .slice ksa ksn ksc] 27)
            go_wp2_with fail
            refine (hIH _ _ hkv2).mono ?_
            clear hIH hkv hkv2 hkc
            rintro e w2 ⟨rfl, hb2⟩
            have hb3 := hb1.trans (hb2.mono (by have := hb.size; simp; omega))
            go_wp2
            all_goals
              go_roundw
              case rel => exact ⟨k + 1, hkl, by go_num, by rw [hDT.out]; exact congrArg (Value.int .i64) (by omega), hb3⟩
              case measure => simp [intOf]; omega
        · obtain rfl : k = kids.length := by omega
          rw [List.take_length]
          go_wp2
          go_ret
          exact ⟨rfl, hb⟩
    · rw [if_neg hkind]
      have hH := fun W => holds_no kind W hkind
      clear hkind
      go_enter Tryd.func27, Tryd.ntmps27
      go_wp2_with fail
      refine (hH _).mono ?_
      rintro e w1 ⟨rfl, rfl⟩
      go_wp2
      go_ret
      exact ⟨rfl, (Below.refl _ w).alloc (Nat.le_refl _) _⟩
end Go.Proofs.YtpcfhiipkbpmkaaDoor
