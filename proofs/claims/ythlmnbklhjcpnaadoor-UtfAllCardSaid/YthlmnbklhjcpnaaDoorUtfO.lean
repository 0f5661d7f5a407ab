/- The walk of UtfAll: it returns true. -/
import Derived.Test.YthlmnbklhjcpnaaDoorUtfN
import Derived.Deep.RegionHeld3
namespace Go.Proofs.YthlmnbklhjcpnaaDoor
open Go.RowKit Go.Tab

theorem PairsAt.head {w : World} {a : Option Addr} {n cap : Nat} {l : List (Nat × Nat)} (h : PairsAt w (.slice a n cap) l) {k : Nat} (hk : k ≤ l.length) : PairsAt w (.slice a k cap) (l.take k) := by
  obtain ⟨a', cap', he, h1, h2, h3, h4⟩ := h
  cases he
  have hlen : (l.take k).length = k := by simp [Nat.min_eq_left hk]
  refine ⟨a, cap, by rw [hlen], by omega, h2, fun h => by rw [h3 h]; simp, fun x hx hne => ?_⟩
  have hl0 : l ≠ [] := by intro h0; subst h0; simp at hne
  obtain ⟨g1, g2, g3⟩ := h4 x hx hl0
  refine ⟨g1, g2, fun j hj => ?_⟩
  obtain ⟨g4, g5⟩ := g3 j (by omega)
  simp only [List.getElem_take]
  exact ⟨g4, g5⟩
theorem Tryd.sizeP : (Tryd.prog.info? (Tryd.prog.elem 23)).map (fun i => i.size) = some 2 := by kernel_rfl
theorem Tryd.undP : Tryd.prog.underlying 23 = some (.slice (Tryd.prog.elem 23)) := by kernel_rfl
theorem run_sizeP (w : World) : (sizeOf (Tryd.prog.elem 23)).run Tryd.prog w = .ok 2 w := by
  obtain ⟨i, hi, hs⟩ := Option.map_eq_some_iff.1 Tryd.sizeP
  simp [sizeOf, typeInfo, hi, hs]
theorem run_head' (a : Option Addr) (l : List (Nat × Nat)) (k cap : Nat) (hk : k ≤ l.length) (hn : l.length ≤ cap) (w : World) (h : PairsAt w (.slice a l.length cap) l) : ∃ a', (∀ W, (Instr.slice 23 (.slice a l.length cap) none (some (.int .i64 (k : Int))) none).run Tryd.prog W = .ok (.slice a' k cap) W) ∧ PairsAt w (.slice a' k cap) (l.take k) := by
  refine ⟨if cap = 0 then a else a.map (·.add 0), fun W => ?_, ?_⟩
  · have h := run_slice_h (P := Tryd.prog) W 23 a l.length cap Tryd.undP .i64 (k : Int) (by omega) (by omega)
    rw [run_sizeP] at h
    simpa only [Result.andThen, Int.toNat_natCast, sliced, Nat.zero_mul, Nat.sub_zero] using h
  · by_cases hl : l = []
    · subst hl
      obtain rfl : k = 0 := by simpa using hk
      obtain ⟨_, _, he, h1, h2, _⟩ := h
      cases he
      exact ⟨(if cap = 0 then a else a.map (·.add 0)), cap, by simp, by simp, h2, fun _ => by simp, fun x hx hne => absurd (by simp) hne⟩
    · have hp := h.head hk
      obtain ⟨_, _, he, h1, h2, h3, h4⟩ := h
      cases he
      cases a with
      | none => exact absurd (h3 rfl) hl
      | some x =>
        obtain ⟨b, off, sp⟩ := x
        obtain ⟨rfl, -, -⟩ := h4 _ rfl hl
        have e : (if cap = 0 then some (⟨b, off, none⟩ : Addr) else (some (⟨b, off, none⟩ : Addr)).map (·.add 0)) = some ⟨b, off, none⟩ := by
          split
          · rfl
          · simp only [Option.map_some, Addr.add_lit, Nat.add_zero]
        rw [e]; exact hp

set_option maxHeartbeats 4000000 in
set_option maxRecDepth 100000 in
theorem UtfAll_walk (a0 : ByteArray) (a1 : Int) (w : World) (w0 : a0.size ≤ maxLen) (w1 : (Lit.int .u8 a1).wf = true) (hT : Tab w) :
    Calls Tryd.prog 3 #[.string a0, .int .u8 a1] w fun e w' => e = .returned (.bool true) ∧ Below w.heap.size w w' := by
  obtain ⟨c0, rfl, hc0⟩ : ∃ c : Nat, a1 = c ∧ c < 256 := by
    rw [Lit.wf, Bool.and_eq_true, decide_eq_true_eq, decide_eq_true_eq] at w1
    have e1 : IntKind.u8.min = 0 := rfl
    have e2 : IntKind.u8.max = 255 := rfl
    exact ⟨a1.toNat, by omega, by omega⟩
  have hwk := uwakes_any w hT
  by_cases h0 : 1000 < a0.size
  · go_enter Tryd.func3, Tryd.ntmps3
    go_wp2_with fail
    refine hwk.mono ?_
    rintro e w1 ⟨rfl, hb1⟩
    go_wp2
    go_ret
    exact ⟨rfl, hb1⟩
  have h2 : a0.size ≤ 1000 := by omega
  clear w0 w1 h0
  have hl0 := scan_len (bs a0).length (bs a0) 0 (Nat.le_refl _)
  rw [bs_length] at hl0
  have hRA := fun w' => rAll_any a0 w' (by omega)
  have hTo := fun m w' hT' => told_any a0 m w' (by omega) hT'
  generalize (scan (bs a0) 0).1 = l at *
  have hT9 : ∀ w', Tab w' → Calls Tryd.prog 11 #[.string a0, .int .i64 9999] w' fun e w'' => ∃ v', e = .returned v' ∧ PairsAt w'' v' l ∧ Below w'.heap.size w' w'' := fun w' hT' =>
    (hTo 9999 w' hT').mono fun e w'' ⟨v', h1, h2', h3⟩ => ⟨v', h1, by rw [List.take_of_length_le (by omega)] at h2'; exact h2'.pairs, h3⟩
  have hTk : ∀ (m : Nat) w', Tab w' → Calls Tryd.prog 11 #[.string a0, .int .i64 m] w' fun e w'' => ∃ v', e = .returned v' ∧ PairsAt w'' v' (l.take m) ∧ Below w'.heap.size w' w'' := fun m w' hT' =>
    (hTo m w' hT').mono fun e w'' ⟨v', h1, h2', h3⟩ => ⟨v', h1, h2'.pairs, h3⟩
  clear hTo
  have hll : l.length ≤ 1000 := by omega
  clear hl0
  go_enter Tryd.func3, Tryd.ntmps3
  go_wp2_with fail
  refine hwk.mono ?_
  rintro e w1 ⟨rfl, hb1⟩
  have hz1 := hb1.size
  go_wp2_with fail
  refine (hRA w1).mono ?_
  rintro e w2 ⟨v2, rfl, ho2, hb2'⟩
  have hb2 := (hb1.trans (hb2'.mono hz1)).drew
  have hz2 := hb2.size
  have hp2 : PairsAt w2.drew v2 l := ho2.pairs
  obtain ⟨ax, cx, rfl, hlx, hmx, -⟩ := ho2.pairs
  unfold maxLen at hmx
  have hT2 := hT.below hb2 hT.pos
  clear ho2 hRA hb2'
  have key : ∀ k : Nat, k ≤ l.length → ∃ a', (∀ W, (Instr.slice 23 (.slice ax l.length cx) none (some (.int .i64 (k : Int))) none).run Tryd.prog W = .ok (.slice a' k cx) W) ∧ PairsAt w2.drew (.slice a' k cx) (l.take k) := fun k hk => run_head' ax l k cx hk hlx _ hp2
  rcases Nat.lt_trichotomy c0 l.length with hcl | hcl | hcl
  · obtain ⟨a', hsl, hph⟩ := key c0 (by omega)
    have hTc := hTk c0
    clear hTk key
    go_wp2_with fail
    go_region_held3 (fun _ => True) (exact trivial) (first
      | (go_at_call 10; refine (same_yes _ _ (l.take c0) _ hp5 hph5).mono ?_; rintro e6 w6 ⟨rfl, hb6'⟩; have hb6 := hb5.trans (hb6'.mono hz5))
      | (go_at_call 11; refine (hTc _ hT4).mono ?_; rintro e5 w5 ⟨v5, rfl, hp5, hb5'⟩; have hb5 := hb4.trans (hb5'.mono hz4); have hz5 := hb5.size; have hph5 := hph4.below hb5')
      | (go_at_call 10; refine (same_yes _ _ l _ hp3 hq3).mono ?_; rintro e4 w4 ⟨rfl, hb4'⟩; have hb4 := hb3.trans (hb4'.mono hz3); have hz4 := hb4.size; have hph4 := hph3.below hb4'; have hT4 := hT.below hb4 hT.pos)
      | (go_at_call 11; refine (hT9 _ hT2).mono ?_; rintro e3 w3 ⟨v3, rfl, hp3, hb3'⟩; have hb3 := hb2.trans (hb3'.mono hz2); have hz3 := hb3.size; have hq3 := hp2.below hb3'; have hph3 := hph.below hb3'; have hT3 := hT.below hb3 hT.pos))
    all_goals
      go_wp2
      go_ret
      exact ⟨rfl, hb6⟩
  · subst hcl
    obtain ⟨a', hsl, hph⟩ := key l.length (Nat.le_refl _)
    have hTc := hTk l.length
    clear hTk key
    go_wp2_with fail
    go_region_held3 (fun _ => True) (exact trivial) (first
      | (go_at_call 10; refine (same_yes _ _ (l.take l.length) _ hp5 hph5).mono ?_; rintro e6 w6 ⟨rfl, hb6'⟩; have hb6 := hb5.trans (hb6'.mono hz5))
      | (go_at_call 11; refine (hTc _ hT4).mono ?_; rintro e5 w5 ⟨v5, rfl, hp5, hb5'⟩; have hb5 := hb4.trans (hb5'.mono hz4); have hz5 := hb5.size; have hph5 := hph4.below hb5')
      | (go_at_call 10; refine (same_yes _ _ l _ hp3 hq3).mono ?_; rintro e4 w4 ⟨rfl, hb4'⟩; have hb4 := hb3.trans (hb4'.mono hz3); have hz4 := hb4.size; have hph4 := hph3.below hb4'; have hT4 := hT.below hb4 hT.pos)
      | (go_at_call 11; refine (hT9 _ hT2).mono ?_; rintro e3 w3 ⟨v3, rfl, hp3, hb3'⟩; have hb3 := hb2.trans (hb3'.mono hz2); have hz3 := hb3.size; have hq3 := hp2.below hb3'; have hph3 := hph.below hb3'; have hT3 := hT.below hb3 hT.pos))
    all_goals
      go_wp2
      go_ret
      exact ⟨rfl, hb6⟩
  · obtain ⟨a', hsl, hph⟩ := key l.length (Nat.le_refl _)
    have hTc := hTk l.length
    clear hTk key
    go_wp2_with fail
    go_region_held3 (fun _ => True) (exact trivial) (first
      | (go_at_call 10; refine (same_yes _ _ (l.take l.length) _ hp5 hph5).mono ?_; rintro e6 w6 ⟨rfl, hb6'⟩; have hb6 := hb5.trans (hb6'.mono hz5))
      | (go_at_call 11; refine (hTc _ hT4).mono ?_; rintro e5 w5 ⟨v5, rfl, hp5, hb5'⟩; have hb5 := hb4.trans (hb5'.mono hz4); have hz5 := hb5.size; have hph5 := hph4.below hb5')
      | (go_at_call 10; refine (same_yes _ _ l _ hp3 hq3).mono ?_; rintro e4 w4 ⟨rfl, hb4'⟩; have hb4 := hb3.trans (hb4'.mono hz3); have hz4 := hb4.size; have hph4 := hph3.below hb4'; have hT4 := hT.below hb4 hT.pos)
      | (go_at_call 11; refine (hT9 _ hT2).mono ?_; rintro e3 w3 ⟨v3, rfl, hp3, hb3'⟩; have hb3 := hb2.trans (hb3'.mono hz2); have hz3 := hb3.size; have hq3 := hp2.below hb3'; have hph3 := hph.below hb3'; have hT3 := hT.below hb3 hT.pos))
    all_goals
      go_wp2
      go_ret
      exact ⟨rfl, hb6⟩
end Go.Proofs.YthlmnbklhjcpnaaDoor
