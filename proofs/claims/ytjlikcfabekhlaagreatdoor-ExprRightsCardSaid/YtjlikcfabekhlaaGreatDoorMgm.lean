/- Texts of this claim, one behind the other: ExW, RiH, LaidK, LaidS, ExZ. -/
import Derived.Test.YtjlikcfabekhlaaGreatDoorMgg
import Derived.Test.YtjlikcfabekhlaaGreatDoorMgk
import Derived.Test.YtjlikcfabekhlaaGreatDoorMgl
import Derived.Lib.LaidTab
import Derived.Test.YtjlikcfabekhlaaGreatDoorRows
import Derived.Shelf.Vars
set_option linter.unusedSimpArgs false
set_option linter.unusedVariables false

/- Writing over the texts of an expression (layer 12). -/
namespace Go.Proofs.YtjlikcfabekhlaaGreatDoor
open Go.RowKit Go.Tab

mutual
/-- How many writes there are. -/
def costX : Exp → Nat
  | .mk _ _ kids => 1 + costXs kids
def costXs : List Exp → Nat
  | [] => 0
  | t :: r => costX t + 1 + costXs r
end
mutual
/-- All texts in it have at most so many bytes. -/
def StrX (S : Nat) : Exp → Prop
  | .mk _ t kids => t.size ≤ S ∧ StrXs S kids
def StrXs (S : Nat) : List Exp → Prop
  | [] => True
  | t :: r => StrX S t ∧ StrXs S r
end
mutual
theorem StrX_mono {S S' : Nat} (h : S ≤ S') : ∀ t : Exp, StrX S t → StrX S' t
  | .mk _ t kids, hS => by
    simp only [StrX] at hS ⊢
    exact ⟨by omega, StrXs_mono h kids hS.2⟩
theorem StrXs_mono {S S' : Nat} (h : S ≤ S') : ∀ l : List Exp, StrXs S l → StrXs S' l
  | [], _ => by simp only [StrXs]
  | t :: r, hS => by
    simp only [StrXs] at hS ⊢
    exact ⟨StrX_mono h t hS.1, StrXs_mono h r hS.2⟩
end
mutual
theorem costX_bulk : ∀ t : Exp, costX t + 1 ≤ 2 * t.bulk
  | .mk o t kids => by
    have := costXs_bulk kids
    simp only [costX, Exp.bulk]; omega
theorem costXs_bulk : ∀ l : List Exp, costXs l ≤ 2 * bulkX l
  | [] => by simp [costXs, bulkX]
  | t :: r => by
    have := costX_bulk t
    have := costXs_bulk r
    simp only [costXs, bulkX]; omega
end
theorem costX_kid : ∀ {l : List Exp} {k : Nat} (h : k < l.length), costX l[k] + 1 ≤ costXs l
  | t :: r, 0, _ => by simp only [costXs, List.getElem_cons_zero]; omega
  | t :: r, k + 1, hk => by
    have := costX_kid (l := r) (k := k) (by simpa using hk)
    simp only [costXs, List.getElem_cons_succ]; omega
theorem costXs_take : ∀ (l : List Exp) (k : Nat) (h : k < l.length), costXs (l.take (k + 1)) = costXs (l.take k) + (costX l[k] + 1)
  | t :: r, 0, _ => by simp [costXs]
  | t :: r, k + 1, hk => by
    have := costXs_take r k (by simpa using hk)
    simp only [List.take_succ_cons, costXs, List.getElem_cons_succ, this]; omega
theorem costXs_le : ∀ (l : List Exp) (k : Nat), costXs (l.take k) ≤ costXs l
  | [], k => by simp
  | t :: r, 0 => by simp [costXs]
  | t :: r, k + 1 => by have := costXs_le r k; simp only [List.take_succ_cons, costXs]; omega
theorem StrX_kid {S : Nat} : ∀ {l : List Exp} {k : Nat} (h : k < l.length), StrXs S l → StrX S l[k]
  | t :: r, 0, _, h => by simp only [StrXs] at h; exact h.1
  | t :: r, k + 1, hk, h => by
    simp only [StrXs] at h
    exact StrX_kid (l := r) (k := k) (by simpa using hk) h.2
mutual
theorem StrX_bulk : ∀ t : Exp, StrX t.bulk t
  | .mk o t kids => by
    simp only [StrX, Exp.bulk]
    exact ⟨by omega, StrXs_mono (by omega) kids (StrXs_bulk kids)⟩
theorem StrXs_bulk : ∀ l : List Exp, StrXs (bulkX l) l
  | [] => by simp only [StrXs]
  | t :: r => by
    simp only [StrXs, bulkX]
    exact ⟨StrX_mono (by omega) t (StrX_bulk t), StrXs_mono (by omega) r (StrXs_bulk r)⟩
end
theorem like3 {m : Nat} {o t : ByteArray} {sa : Option Addr} {sn sc : Nat} {cs' : List Value} (h : LikeAll m [.string o, .string t, .slice sa sn sc] cs') :
    ∃ o' t' : ByteArray, cs' = [.string o', .string t', .slice sa sn sc] ∧ o'.size ≤ o.size + m ∧ t'.size ≤ t.size + m := by
  obtain ⟨h1, h2⟩ := h
  obtain ⟨x0, x1, x2, rfl⟩ := len3 h1
  obtain ⟨u, g0, k0⟩ := h2 0 _ rfl
  cases g0
  obtain ⟨o', rfl, ho⟩ := k0.str
  obtain ⟨u, g0, k0⟩ := h2 1 _ rfl
  cases g0
  obtain ⟨t', rfl, ht⟩ := k0.str
  obtain ⟨u, g0, k0⟩ := h2 2 _ rfl
  cases g0; cases k0.slice
  exact ⟨o', t', rfl, ho, ht⟩
mutual
/-- An expression whose texts have grown is an expression still. -/
theorem twinX {P : Nat → Prop} {m : Nat} {w w' : World} (h : Spoiled P m w w') : ∀ (t : Exp) (cs cs' : List Value), ExpIn P w t cs → LikeAll m cs cs' → ∃ t', ExpIn P w' t' cs' ∧ costX t' = costX t ∧ ∀ S, StrX S t → StrX (S + m) t'
  | .mk o s kids, cs, cs', hv, hl => by
    simp only [ExpIn] at hv
    obtain ⟨a, cap, rfl, h1, h2, h3, h4⟩ := hv
    obtain ⟨o', s', rfl, ho, hs⟩ := like3 hl
    have hkids : ∃ kids', kids'.length = kids.length ∧ costXs kids' = costXs kids ∧ (∀ S, StrXs S kids → StrXs (S + m) kids') ∧ ∀ x, a = some x → kids' ≠ [] → x.spot = none ∧ (x.block < w'.heap.size ∧ P x.block ∧ ∀ off, w'.frozen? ⟨x.block, off, none⟩ = false) ∧ ExpsIn P w' x.block x.off kids' := by
      cases a with
      | none =>
        have hc := h3 rfl
        have hn : kids = [] := List.eq_nil_of_length_eq_zero (by omega)
        subst hn
        exact ⟨[], rfl, rfl, fun S _ => by simp only [StrXs], fun x hx => by cases hx⟩
      | some x =>
        by_cases hn : kids = []
        · subst hn
          exact ⟨[], rfl, rfl, fun S _ => by simp only [StrXs], fun x _ hne => absurd rfl hne⟩
        · obtain ⟨q1, q2, q3⟩ := h4 x rfl hn
          obtain ⟨kids', r1, r2, r3, r4⟩ := twinXs h kids x.block x.off q3
          exact ⟨kids', r1, r2, r3, fun y hy _ => by cases hy; exact ⟨q1, ⟨by rw [h.size]; exact q2.1, q2.2.1, fun off => (h.frozen _ off).trans (q2.2.2 off)⟩, r4⟩⟩
    obtain ⟨kids', r1, r2, r3, r4⟩ := hkids
    refine ⟨.mk o' s' kids', ?_, ?_, fun S hS => ?_⟩
    · simp only [ExpIn]
      exact ⟨a, cap, by rw [r1], by rw [r1]; exact h1, h2, h3, r4⟩
    · simp only [costX]; omega
    · simp only [StrX] at hS ⊢
      exact ⟨by omega, r3 S hS.2⟩
theorem twinXs {P : Nat → Prop} {m : Nat} {w w' : World} (h : Spoiled P m w w') : ∀ (l : List Exp) (b off : Nat), ExpsIn P w b off l → ∃ l', l'.length = l.length ∧ costXs l' = costXs l ∧ (∀ S, StrXs S l → StrXs (S + m) l') ∧ ExpsIn P w' b off l'
  | [], b, off, _ => ⟨[], rfl, rfl, fun S _ => by simp only [StrXs], by simp only [ExpsIn]⟩
  | t :: r, b, off, hk => by
    simp only [ExpsIn] at hk
    obtain ⟨⟨cs, h1, h2⟩, h3⟩ := hk
    obtain ⟨cs', g1, g2⟩ := h.cells cs off h1
    obtain ⟨t', k1, k2, k3⟩ := twinX h t cs cs' h2 g1
    obtain ⟨l', r1, r2, r3, r4⟩ := twinXs h r b (off + 3) h3
    refine ⟨t' :: l', by simp [r1], by simp only [costXs]; omega, fun S hS => ?_, ?_⟩
    · simp only [StrXs] at hS ⊢
      exact ⟨k3 S hS.1, r3 S hS.2⟩
    · simp only [ExpsIn]
      exact ⟨⟨cs', g2, k1⟩, r4⟩
end
theorem grow_one (s : ByteArray) : (s ++ (⟨#[120]⟩ : ByteArray)).size ≤ s.size + 1 := by rw [ByteArray.size_append]; exact Nat.le_refl _
set_option maxHeartbeats 4000000 in
set_option maxRecDepth 100000 in
theorem spoilX_step (P : Nat → Prop) (n : Nat) (IH : ∀ (t : Exp), costX t ≤ n → ∀ (S : Nat), StrX S t → S + costX t ≤ 1099511627776 → ∀ (w : World) (b off : Nat) (cs : List Value), b < w.heap.size → (∀ (j : Nat) (u : Value), cs[j]? = some u → w.cell? ⟨b, off + j, none⟩ = some u) → ExpIn P w t cs →
      Calls Tryz.prog 22 #[.pointer (some ⟨b, off, none⟩)] w fun e w' => e = .returned (.tuple #[]) ∧ Spoiled P (costX t) w w')
    (op text : ByteArray) (kids : List Exp) (hn : costX (.mk op text kids) ≤ n + 1) (S : Nat) (hS : StrX S (.mk op text kids))
    (hSn : S + costX (.mk op text kids) ≤ 1099511627776) (w : World) (b off : Nat) (cs : List Value) (hbw : b < w.heap.size) (hcs : ∀ j u, cs[j]? = some u → w.cell? ⟨b, off + j, none⟩ = some u) (hv : ExpIn P w (.mk op text kids) cs) :
    Calls Tryz.prog 22 #[.pointer (some ⟨b, off, none⟩)] w fun e w' => e = .returned (.tuple #[]) ∧ Spoiled P (costX (.mk op text kids)) w w' := by
  simp only [costX] at hn hSn ⊢
  simp only [StrX] at hS
  simp only [ExpIn] at hv
  obtain ⟨a, cap, rfl, hl, hm, hnil, hx⟩ := hv
  unfold maxLen at hm
  have f7 := hcs 2 _ rfl
  have HS := Lib.hid hS
  have HX := Lib.hid hx
  have HIH := Lib.hid IH
  have F7 := Lib.hid f7
  clear hcs hS hx IH
  go_enter Tryz.func22, Tryz.ntmps22
  go_wp2_with fail
  go_loopw [8] (fun i wr => ∃ k : Nat, k ≤ kids.length ∧ i = .int .i64 (k : Int) ∧ Spoiled P (costXs (kids.take k)) w wr) (fun i _ => kids.length - (intOf i).toNat)
  case atStart => exact ⟨0, Nat.zero_le _, rfl, by simpa [costXs] using Spoiled.refl P 0 w⟩
  case round =>
    clear f7
    obtain ⟨k, hkk2, rfl, hsp⟩ := hrel
    have hsz2 := hsp.size
    obtain ⟨u7, g7, k7⟩ := hsp.cell _ _ _ F7.out
    cases k7.slice
    clear k7
    by_cases hkl2 : k < kids.length
    · have hne : kids ≠ [] := by intro h0; rw [h0] at hkl2; simp at hkl2
      cases a with
      | none => have := hnil rfl; omega
      | some x =>
      obtain ⟨bb, boff, sp⟩ := x
      obtain ⟨rfl, ⟨hlt, hPb, hfz⟩, hkids⟩ := HX.out _ rfl hne
      simp only at hlt hPb hfz hkids
      obtain ⟨kc0, hkc, hkv⟩ := hkids.get k hkl2
      have hct := costXs_take kids k hkl2
      have hck := costX_kid hkl2
      have hst := StrX_kid hkl2 HS.out.2
      have hle : costXs (kids.take (k + 1)) ≤ costXs kids := costXs_le kids (k + 1)
      generalize hmm : costXs (kids.take k) = m at *
      have hmc : m + (costX kids[k] + 1) ≤ costXs kids := by omega
      obtain ⟨kc1, hlike, hkc1⟩ := hsp.cells kc0 (boff + k * 3) hkc
      obtain ⟨t', ht1, ht2, ht3⟩ := twinX hsp _ _ _ hkv hlike
      have hC := HIH.out t' (by omega) (S + m) (ht3 S hst) (by omega) wr bb (boff + k * 3) kc1 (by omega) hkc1 ht1
      rw [ht2] at hC
      have h5 := ht1.shape
      obtain ⟨kop, ktext, ksa, ksn, ksc, rfl⟩ := h5
      have hs5 := hkc1 1 _ rfl
      have hss : ktext.size ≤ S + m := by
        have := ht3 S hst
        cases t'
        simp only [ExpIn] at ht1
        obtain ⟨_, _, e, _⟩ := ht1
        simp only [List.cons.injEq, Value.string.injEq] at e
        simp only [StrX] at this
        rw [e.2.1]
        exact this.1
      have HSP := Lib.hid hsp
      have HF := Lib.hid hfz
      have HCT := Lib.hid hct
      clear hsp hfz hkids hkc hkv hlike hkc1 ht1 ht2 ht3 hst hct
      generalize costX kids[k] = ck at *
      go_wp2_with fail
      refine hC.mono ?_
      clear hC
      rintro e w2 ⟨rfl, hsp2⟩
      obtain ⟨u7, q7, p7⟩ := hsp2.cell _ _ _ g7
      cases p7.slice
      obtain ⟨u5, q5, p5⟩ := hsp2.cell _ _ _ hs5
      obtain ⟨s', rfl, p6⟩ := p5.str
      have hf2 := (hsp2.frozen bb (boff + k * 3 + 1)).trans ((HSP.out.frozen bb (boff + k * 3 + 1)).trans (HF.out (boff + k * 3 + 1)))
      have hsn : s'.size ≤ 1099511627776 := by omega
      have hsz3 := hsp2.size
      have HE := Lib.hid ((HSP.out.trans hsp2).trans (Spoiled.write q5 hPb (grow_one s')))
      clear hsp2 p7 p5 g7 hs5 p6
      go_wp2_with fail
      go_roundw
      case rel => exact ⟨k + 1, hkl2, by go_num, HE.out.mono (by have := HCT.out; omega)⟩
      case measure => simp [intOf]; omega
    · obtain rfl : k = kids.length := by omega
      have HSP := Lib.hid hsp
      clear hsp
      go_wp2_with fail
      go_end0
      refine ⟨rfl, ?_⟩
      have := HSP.out
      rw [List.take_length] at this
      exact this.mono (by omega)
theorem spoilX_any (P : Nat → Prop) (n : Nat) : ∀ (t : Exp), costX t ≤ n → ∀ (S : Nat), StrX S t → S + costX t ≤ 1099511627776 → ∀ (w : World) (b off : Nat) (cs : List Value), b < w.heap.size → (∀ (j : Nat) (u : Value), cs[j]? = some u → w.cell? ⟨b, off + j, none⟩ = some u) → ExpIn P w t cs →
      Calls Tryz.prog 22 #[.pointer (some ⟨b, off, none⟩)] w fun e w' => e = .returned (.tuple #[]) ∧ Spoiled P (costX t) w w' := by
  induction n with
  | zero => intro t h; cases t; simp only [costX] at h; omega
  | succ n IH =>
    intro t h S hS hSn w b off cs hb hcs hv
    cases t
    exact spoilX_step P n IH _ _ _ h S hS hSn w b off cs hb hcs hv
end Go.Proofs.YtjlikcfabekhlaaGreatDoor

/- The walk of ExprRights (layer 12). -/
namespace Go.Proofs.YtjlikcfabekhlaaGreatDoor
open Go.RowKit Go.Tab

theorem RightX_any (t : Exp) (hs : ShortX t) (w : World) (cs : List Value) (hT : LexT w) (hv : ExpAt w t cs) : Calls Tryz.prog 20 #[vX cs] w fun e w' => e = .returned (.bool (rightX t)) ∧ Below w.heap.size w w' :=
  RightX_upto alone_any t.bulk t (Nat.le_refl _) hs w cs hT hv
theorem rSameX_both (t : Exp) (w : World) (cs ds : List Value) (hv : ExpAt w t cs) (hv2 : ExpAt w t ds) : Calls Tryz.prog 17 #[vX cs, vX ds] w fun e w' => e = .returned (.bool true) ∧ Below w.heap.size w w' :=
  SameP.fix (b := true) (yes_iff rfl) (rSame_any t t w cs ds hv hv2)
set_option maxHeartbeats 4000000 in
set_option maxRecDepth 100000 in
theorem ExprRights_walk (c0 : List Value) (x0 : Exp) (w : World) (w0 : ExpAt w x0 c0) (hT : LexT w) (f0 : FitX x0) :
    Calls Tryz.prog 4 #[vX c0] w fun e w' => e = .returned (.bool true) ∧ Below w.heap.size w w' := by
  have HV0 := Lib.hid w0
  obtain ⟨o0, t0, s0, n0, k0, rfl⟩ := w0.shape
  have hb1 : Below w.heap.size w (w.alloc (.cells #[.string o0, .string t0, .slice s0 n0 k0] 30)) := (Below.refl _ w).alloc (Nat.le_refl _) _
  have hk1 := Cells.new w #[.string o0, .string t0, .slice s0 n0 k0] 30
  have hW := wakes_any _ (hT.below hb1)
  have HB1 := Lib.hid hb1
  have HT := Lib.hid hT
  simp only [vX]
  clear hb1 hT w0
  go_enter Tryz.func4, Tryz.ntmps4
  go_wp2_with fail
  refine hW.mono ?_
  rintro _ w2 ⟨rfl, hb2⟩
  have hc0 := hk1.below hb2 hk1.lt
  have hz0 := hc0.lt
  have HB2 := Lib.hid (HB1.out.trans (hb2.mono HB1.out.size))
  have hG := GreatX_any x0 f0 w2 _ (ExpAt.below HB2.out _ _ HV0.out)
  have HC := Lib.hid hc0
  clear hb2 hW HB1 hk1
  have hc0c0 := hc0.cell 0 _ rfl
  have hc0f0 := hc0.frozen 0
  have hc0c1 := hc0.cell 1 _ rfl
  have hc0f1 := hc0.frozen 1
  have hc0c2 := hc0.cell 2 _ rfl
  have hc0f2 := hc0.frozen 2
  clear hc0
  go_wp2_with fail
  refine hG.mono ?_
  rintro _ w3 ⟨⟨b, rfl, hbb⟩, hb3⟩
  have hc0 := HC.out.below hb3 hz0
  have HB3 := Lib.hid (HB2.out.trans (hb3.mono HB2.out.size))
  clear hG hb3 hc0c0 hc0c1 hc0c2 hc0f0 hc0f1 hc0f2 HC HB2
  cases b with
  | true =>
    clear hc0
    go_wp2
    go_ret
    exact ⟨rfl, HB3.out⟩
  | false =>
    have hs0 := hbb rfl
    have hsm := smallX hs0
    have hz3 := hc0.lt
    have HS := Lib.hid hs0
    have hC := CopyX_any x0 (by omega) w3 _ (ExpAt.below HB3.out _ _ HV0.out)
    have HC := Lib.hid hc0
    clear hbb hs0
    have hc0c0 := hc0.cell 0 _ rfl
    have hc0f0 := hc0.frozen 0
    have hc0c1 := hc0.cell 1 _ rfl
    have hc0f1 := hc0.frozen 1
    have hc0c2 := hc0.cell 2 _ rfl
    have hc0f2 := hc0.frozen 2
    clear hc0
    simp only [vX] at hC
    go_wp2_with fail
    refine hC.mono ?_
    rintro _ w7 ⟨⟨cs7, rfl, hin7⟩, hb7⟩
    obtain ⟨o7, t7, a7, n7, c7, rfl⟩ := hin7.shape
    have hs7 := hb7.size
    have hd7 := HC.out.below hb7 hz3
    have hbl7 := HB3.out.trans (hb7.mono HB3.out.size)
    have hin7' : ExpIn (fun k => w3.heap.size ≤ k ∧ k < w7.heap.size) w7 x0 [.string o7, .string t7, .slice a7 n7 c7] := ExpIn.move (Nat.le_refl _) (fun _ _ _ => rfl) (fun k (h1 : w3.heap.size ≤ k) h2 => ⟨h1, h2⟩) _ _ hin7
    have hal : Below w7.heap.size w7 (w7.alloc (.cells #[.string o7, .string t7, .slice a7 n7 c7] 30)) := (Below.refl _ w7).alloc (Nat.le_refl _) _
    have hin8 := ExpIn.below hal _ _ hin7'
    have hX := Cells.new w7 #[.string o7, .string t7, .slice a7 n7 c7] 30
    have hd8 := hd7.alloc (.cells #[.string o7, .string t7, .slice a7 n7 c7] 30)
    have hbl8 := hbl7.alloc hbl7.size (.cells #[.string o7, .string t7, .slice a7 n7 c7] 30)
    have hz8 : (w7.alloc (.cells #[.string o7, .string t7, .slice a7 n7 c7] 30)).heap.size = w7.heap.size + 1 := by simp
    have hsw := HB3.out.size
    clear hin7 hin7' hal hb7 hd7 hbl7 hC hc0c0 hc0c1 hc0c2 hc0f0 hc0f1 hc0f2 HC
    simp only [vX]
    go_wp2_with fail
    generalize w7.alloc (.cells #[.string o7, .string t7, .slice a7 n7 c7] 30) = w8 at *
    generalize w7.heap.size = X at *
    have hC := CopyX_any x0 (by omega) w8 _ (ExpIn.at _ _ hin8)
    have H8 := Lib.hid (And.intro hin8 (And.intro hX (And.intro hd8 hbl8)))
    clear hin8 hd8 hbl8
    simp only [vX] at hC
    have hXl := hX.lt
    have hXc0 := hX.cell 0 _ rfl
    have hXf0 := hX.frozen 0
    have hXc1 := hX.cell 1 _ rfl
    have hXf1 := hX.frozen 1
    have hXc2 := hX.cell 2 _ rfl
    have hXf2 := hX.frozen 2
    go_wp2_with fail
    refine hC.mono ?_
    clear hC hXc0 hXf0 hXc1 hXf1 hXc2 hXf2 hX
    rintro e w9 ⟨⟨cs9, rfl, hin9⟩, hb9⟩
    obtain ⟨o9, t9, a9, n9, c9, rfl⟩ := hin9.shape
    obtain ⟨hin8, hX, hd8, hbl8⟩ := H8.out
    have hs9 := hb9.size
    have hin89 := ExpIn.below hb9 _ _ hin8
    have hX9 := hX.below hb9 hX.lt
    have hd9 := hd8.below hb9 hd8.lt
    have hbl9 := hbl8.trans (hb9.mono hbl8.size)
    have hal : Below w9.heap.size w9 (w9.alloc (.cells #[.string o9, .string t9, .slice a9 n9 c9] 30)) := (Below.refl _ w9).alloc (Nat.le_refl _) _
    have hcx := Cells.new w9 #[.string o9, .string t9, .slice a9 n9 c9] 30
    have h10 := And.intro (ExpIn.below hal _ _ hin89) (And.intro (ExpIn.below hal _ _ hin9) (And.intro (hX9.alloc (.cells #[.string o9, .string t9, .slice a9 n9 c9] 30)) (And.intro (hd9.alloc (.cells #[.string o9, .string t9, .slice a9 n9 c9] 30)) (And.intro hcx (hbl9.alloc hbl9.size (.cells #[.string o9, .string t9, .slice a9 n9 c9] 30))))))
    have hz10 : (w9.alloc (.cells #[.string o9, .string t9, .slice a9 n9 c9] 30)).heap.size = w9.heap.size + 1 := by simp
    have hXl9 := hX9.lt
    have hdl9 := hd9.lt
    clear H8 hin8 hX hd8 hbl8 hin89 hin9 hbl9 hal hb9 hX9 hd9 hcx
    simp only [vX]
    go_wp2_with fail
    generalize w9.alloc (.cells #[.string o9, .string t9, .slice a9 n9 c9] 30) = w10 at *
    generalize w9.heap.size = Xd at *
    obtain ⟨hc10, hd10, hX10, h010, hXd10, hbl10⟩ := h10
    have HT10 := Lib.hid (HT.out.below hbl10)
    obtain ⟨rb, hrb⟩ : ∃ b, rightX x0 = b := ⟨_, rfl⟩
    have hcA := fun (x : Under w10) => Under.call x (RightX_any x0 HS.out.2 x.w _ (HT10.out.below x.below) (ExpAt.below (hbl10.trans (x.below.mono hbl10.size)) _ _ HV0.out))
    have hcR := fun (x : Under w10) => Under.call x (rRight_any x0 HS.out.2 x.w _ (ExpAt.below (hbl10.trans (x.below.mono hbl10.size)) _ _ HV0.out))
    have hcS := fun (x : Under w10) => Under.call x (rSameX_both x0 x.w _ _ (ExpAt.below x.below _ _ (ExpIn.at _ _ hc10)) (ExpAt.below (hbl10.trans (x.below.mono hbl10.size)) _ _ HV0.out))
    rw [hrb] at hcA hcR
    have p0 := fun x : Under w10 => (x.below.cell (p := ⟨w.heap.size, 0, none⟩) (by exact h010.lt)).trans (h010.cell 0 _ rfl)
    have p1 := fun x : Under w10 => (x.below.cell (p := ⟨w.heap.size, 1, none⟩) (by exact h010.lt)).trans (h010.cell 1 _ rfl)
    have p2 := fun x : Under w10 => (x.below.cell (p := ⟨w.heap.size, 2, none⟩) (by exact h010.lt)).trans (h010.cell 2 _ rfl)
    have q0 := fun x : Under w10 => (x.below.cell (p := ⟨X, 0, none⟩) (by exact hX10.lt)).trans (hX10.cell 0 _ rfl)
    have q1 := fun x : Under w10 => (x.below.cell (p := ⟨X, 1, none⟩) (by exact hX10.lt)).trans (hX10.cell 1 _ rfl)
    have q2 := fun x : Under w10 => (x.below.cell (p := ⟨X, 2, none⟩) (by exact hX10.lt)).trans (hX10.cell 2 _ rfl)
    have H10 := Lib.hid (And.intro hc10 (And.intro hd10 (And.intro hX10 (And.intro h010 (And.intro hXd10 hbl10)))))
    clear hc10 hd10 hX10 h010 hXd10 hbl10 hrb
    simp only [vX] at hcA hcR hcS
    refine wp_region_under w10 (by kernel_rfl) (by kernel_rfl) (Below.refl _ _) ?_
    repeat (go_big_quiet_step (first | (go_at_call 20; with_reducible exact hcA _) | (go_at_call 21; with_reducible exact hcR _) | (go_at_call 17; with_reducible exact hcS _)))
    refine wpQuiet_nil ?_
    rintro _ ⟨x, rfl⟩
    clear hcA hcR hcS p0 p1 p2 q0 q1 q2
    obtain ⟨hc10, hd10, hX10, h010, hXd10, hbl10⟩ := H10.out
    have hb11 := x.below
    generalize x.w = w12 at *
    have hc12 := ExpIn.below hb11 _ _ hc10
    have hdd12 := ExpIn.below hb11 _ _ hd10
    have hX12 := hX10.below hb11 hX10.lt
    have h012 := h010.below hb11 h010.lt
    have hXd12 := hXd10.below hb11 hXd10.lt
    have hbl12 := hbl10.trans (hb11.mono hbl10.size)
    have hSp := spoilX_any _ (costX x0) x0 (Nat.le_refl _) x0.bulk (StrX_bulk x0) (by have := costX_bulk x0; omega) w12 X 0 _ hX12.lt (fun j u hu => by rw [Nat.zero_add]; exact hX12.cell j u (by simpa using hu)) hc12
    have H12 := Lib.hid (And.intro hdd12 (And.intro h012 (And.intro hXd12 hbl12)))
    clear H10 hc10 hd10 hX10 h010 hXd10 hbl10 hb11 hc12 hdd12 hX12 h012 hXd12 hbl12
    have hbb : (rb != rb) = false := by simp
    go_wp2_with fail
    refine hSp.mono ?_
    clear hSp
    rintro e w13 ⟨rfl, hsp⟩
    obtain ⟨hdd12, h012, hXd12, hbl12⟩ := H12.out
    have h013 : Cells w13 w.heap.size #[.string o0, .string t0, .slice s0 n0 k0] 30 := (hsp.block _ (by rintro ⟨h1, h2⟩; omega)).trans h012
    have hXd13 : Cells w13 Xd #[.string o9, .string t9, .slice a9 n9 c9] 30 := (hsp.block _ (by rintro ⟨h1, h2⟩; omega)).trans hXd12
    have hbl13 := hbl12.trans (hsp.below (B := w.heap.size) (fun k hk => by have := hk.1; omega))
    have hdd13 := ExpIn.move (Q := fun _ => True) (Nat.le_of_eq hsp.size.symm) (fun k (h1 : w8.heap.size ≤ k) _ => hsp.block k (by rintro ⟨h2, h3⟩; omega)) (fun _ _ _ => trivial) _ _ hdd12
    have hC3 := rSameX_both x0 w13 _ _ (ExpIn.at _ _ hdd13) (ExpAt.below hbl13 _ _ HV0.out)
    have HB13 := Lib.hid hbl13
    clear H12 hdd12 h012 hXd12 hbl12 hsp hbl13 hdd13
    have h013c0 := h013.cell 0 _ rfl
    have h013f0 := h013.frozen 0
    have h013c1 := h013.cell 1 _ rfl
    have h013f1 := h013.frozen 1
    have h013c2 := h013.cell 2 _ rfl
    have h013f2 := h013.frozen 2
    have hXd13c0 := hXd13.cell 0 _ rfl
    have hXd13f0 := hXd13.frozen 0
    have hXd13c1 := hXd13.cell 1 _ rfl
    have hXd13f1 := hXd13.frozen 1
    have hXd13c2 := hXd13.cell 2 _ rfl
    have hXd13f2 := hXd13.frozen 2
    clear h013 hXd13
    simp only [vX] at hC3
    go_wp2_with fail
    refine hC3.mono ?_
    rintro e w14 ⟨rfl, hb14⟩
    go_wp2_with fail
    go_ret
    exact ⟨rfl, HB13.out.trans (hb14.mono HB13.out.size)⟩
end Go.Proofs.YtjlikcfabekhlaaGreatDoor

/- What a row's list of laid variables gives, entry by entry, over any program: a table of numbers, a table of tables, an error's place. -/
namespace Go.Tab
open Go.Lib

/-- An entry of the list: its variable reads as the datum. -/
def LaidAt (P : Program) (W : World) (n : String) (d : DataW Unit) : Prop :=
  ∃ g t cs fuel p, P.globalNamed n = some g ∧ (P.globals[g]?).map (·.type) = some t ∧ W.var? P n = some cs ∧ DataW.trod (fun _ => ()) P W 0 (fun _ => true) false fuel t cs.toList = some (d, p)
theorem laid_vars {P : Program} {W : World} : ∀ {L : List (String × DataW Unit)} {ps : List MemPlace}, DataW.LaidVars P W L ps → ∀ n d, (n, d) ∈ L → LaidAt P W n d
  | [], _, _, _, _, h => by cases h
  | (n', d') :: L, _, h0, n, d, h => by
    obtain ⟨g, t, cs, fuel, p, q, h1, h2, h3, h4, h5, _⟩ := h0
    rcases List.mem_cons.1 h with h | h
    · cases h; exact ⟨g, t, cs, fuel, p, h1, h2, h3, h4⟩
    · exact laid_vars h5 n d h
theorem laid_of_met {P : Program} {W : World} {L : List (String × DataW Unit)} (h : laidMet P L W) {n : String} {d : DataW Unit} (hm : (n, d) ∈ L) : LaidAt P W n d := by
  obtain ⟨ps, h1, _⟩ := h
  exact laid_vars h1 n d hm
/-- A table of numbers. -/
theorem LaidAt.tab {P : Program} {W : World} {name : String} {k : IntKind} {zs : List Int} {g : Nat} {t e : TypeId} {n : Nat}
    (hg : P.globalNamed name = some g) (hty : (P.globals[g]?).map (·.type) = some t) (ht : P.underlying t = some (.array n e)) (he : P.underlying e = some (.int k)) (hce : P.cellsOf e = 1) (hct : P.cellsOf t = n)
    (h : LaidAt P W name (tabData k zs)) : TabIs P W name k zs := by
  obtain ⟨g', t', cs, fuel, p, hg', ht', hvar, hd⟩ := h
  obtain rfl := Option.some.inj (hg.symm.trans hg')
  obtain rfl := Option.some.inj (hty.symm.trans ht')
  unfold TabIs
  rw [hvar, ← cells_of_tab ht he hce hct hd]
/-- An array of arrays of numbers that reads as the table's rows. -/
theorem cells_of_tabs {H : Type} {enc : TypeId × Value → H} {P : Program} {w : World} {base : Nat} {sp : Nat → Bool} {held : Bool} {fuel : Nat} {t e i : TypeId} {n m : Nat} {k : IntKind} {cs : List Value} {zss : List (List Int)} {p : List MemPlace}
    (ht : P.underlying t = some (.array n e)) (he : P.underlying e = some (.array m i)) (hi : P.underlying i = some (.int k)) (hci : P.cellsOf i = 1) (hce : P.cellsOf e = m) (hct : P.cellsOf t = n * m)
    (h : DataW.trod enc P w base sp held fuel t cs = some (.agg (zss.map fun zs => tabData k zs), p)) : ∀ a (ha : a < zss.length), ((cs.drop (a * m)).take m) = zss[a].map fun z => Value.int k z := by
  cases fuel with
  | zero => simp [DataW.trod] at h
  | succ fuel =>
    simp only [DataW.trod, ht, hce] at h
    split at h
    · rename_i hl
      obtain ⟨xs, hm, hx⟩ := Option.map_eq_some_iff.1 h
      have hxs : xs.map (·.1) = zss.map fun zs => (tabData k zs : DataW H) := by
        have := congrArg Prod.fst hx
        simpa using this
      have hxl : xs.length = n := by simpa using mapM_length hm
      have hzl : zss.length = n := by
        have := congrArg List.length hxs
        simp at this
        omega
      intro a ha
      obtain ⟨b, hb, hf⟩ := mapM_at hm a a (by simp [hzl ▸ ha])
      have h2 : (xs.map (·.1))[a]? = some b.1 := by simp [hb]
      rw [hxs] at h2
      simp only [List.getElem?_map] at h2
      rw [List.getElem?_eq_getElem ha] at h2
      have h3 : b.1 = tabData k zss[a] := (Option.some.inj h2).symm
      have h4 : DataW.trod enc P w base sp held fuel e ((cs.drop (a * m)).take m) = some (tabData k zss[a], b.2) := by rw [hf, ← h3]
      exact cells_of_tab he hi hci hce h4
    · cases h
/-- A table of tables: what a walk reads at a place of it. -/
theorem LaidAt.tabs {P : Program} {W : World} {name : String} {k : IntKind} {zss : List (List Int)} {g : Nat} {t e i : TypeId} {n m : Nat}
    (hg : P.globalNamed name = some g) (hty : (P.globals[g]?).map (·.type) = some t) (ht : P.underlying t = some (.array n e)) (he : P.underlying e = some (.array m i)) (hi : P.underlying i = some (.int k)) (hci : P.cellsOf i = 1) (hce : P.cellsOf e = m) (hct : P.cellsOf t = n * m)
    (h : LaidAt P W name (.agg (zss.map fun zs => tabData k zs))) (a b : Nat) (ha : a < zss.length) (hb : b < zss[a].length) (hbm : b < m) : W.cell? ⟨g, a * m + b, none⟩ = some (.int k zss[a][b]) := by
  obtain ⟨g', t', cs, fuel, p, hg', ht', hvar, hd⟩ := h
  obtain rfl := Option.some.inj (hg.symm.trans hg')
  obtain rfl := Option.some.inj (hty.symm.trans ht')
  have h1 := cells_of_tabs ht he hi hci hce hct hd a ha
  have h2 : cs[a * m + b]? = some (.int k zss[a][b]) := by
    have := congrArg (·[b]?) h1
    simp only [List.getElem?_take, List.getElem?_drop, List.getElem?_map] at this
    rw [if_pos hbm, List.getElem?_eq_getElem hb] at this
    simpa using this
  have h3 := World.var?_cell hg hvar (a * m + b)
  rw [h3, h2]
/-- A variable of an interface type that holds a value. -/
theorem LaidAt.iface {P : Program} {W : World} {name : String} {s : String} {x : DataW Unit} {g : Nat} {t : TypeId} {ms : Array (String × TypeId)}
    (hg : P.globalNamed name = some g) (hty : (P.globals[g]?).map (·.type) = some t) (ht : P.underlying t = some (.interface ms))
    (h : LaidAt P W name (.iface s x)) : ∃ tp p, W.var? P name = some #[.iface tp p] := by
  obtain ⟨g', t', cs, fuel, p, hg', ht', hvar, hd⟩ := h
  obtain rfl := Option.some.inj (hg.symm.trans hg')
  obtain rfl := Option.some.inj (hty.symm.trans ht')
  cases fuel with
  | zero => simp [DataW.trod] at hd
  | succ fuel =>
    unfold DataW.trod at hd
    simp only [ht] at hd
    have hcs : ∃ u v, cs.toList = [.iface u v] := by
      split at hd
      all_goals first | (simp at hd; done) | skip
      all_goals first | (rename_i hm; simp at hm; done) | skip
      all_goals first | exact ⟨_, _, ‹_›⟩ | simp_all
    obtain ⟨u, v, hcs⟩ := hcs
    refine ⟨u, v, ?_⟩
    rw [hvar]
    congr 1
    exact Array.toList_inj.1 hcs
end Go.Tab
namespace Go.Tab
/-- The list, where no entry is a function's handle. -/
theorem met_of {P : Program} {L : List (String × DataW Unit)} {W : World} (h : laidMetH P L W) (hf : (L.filter fun x => x.2.handleName?.isSome) = []) : laidMet P L W := by
  unfold laidMetH at h
  rw [hf] at h
  exact h
/-- A datum's cells, where it is made of numbers alone. -/
def flatD : Nat → DataW Unit → List Value
  | 0, _ => []
  | _ + 1, .lit (.int k z) => [.int k z]
  | n + 1, .agg xs => xs.flatMap (flatD n)
  | _, _ => []
/-- A heap in which a listed variable is laid. -/
def layVar (P : Program) (h : Array Obj) (nd : String × DataW Unit) : Array Obj :=
  match P.globalNamed nd.1, flatD 4 nd.2 with
  | some g, v :: vs => h.modify g fun o => match o with
    | .cells _ t f => .cells (v :: vs).toArray t f
    | o => o
  | _, _ => h
def layAll (P : Program) (L : List (String × DataW Unit)) (h : Array Obj) : Array Obj := L.foldl (layVar P) h
end Go.Tab

/- What a row's list of laid variables gives, over any program: a table of texts; a heap in which numbers and texts are laid. -/
namespace Go.Tab
open Go.Lib

/-- An array of texts that reads as the table holds the table's texts, cell for cell. -/
theorem cells_of_strs {H : Type} {enc : TypeId × Value → H} {P : Program} {w : World} {base : Nat} {sp : Nat → Bool} {held : Bool} {fuel : Nat} {t e : TypeId} {n : Nat} {cs : List Value} {zs : List (List UInt8)} {p : List MemPlace}
    (ht : P.underlying t = some (.array n e)) (he : P.underlying e = some .string) (hce : P.cellsOf e = 1) (hct : P.cellsOf t = n)
    (h : DataW.trod enc P w base sp held fuel t cs = some (.agg (zs.map fun z => (.lit (.string z) : DataW H)), p)) : ∀ i (hi : i < zs.length), cs[i]? = some (Value.string ⟨zs[i].toArray⟩) := by
  cases fuel with
  | zero => simp [DataW.trod] at h
  | succ fuel =>
    simp only [DataW.trod, ht, hce, hct, Nat.mul_one] at h
    split at h
    · rename_i hl
      obtain ⟨xs, hm, hx⟩ := Option.map_eq_some_iff.1 h
      have hxs : xs.map (·.1) = zs.map fun z => (DataW.lit (.string z) : DataW H) := by
        have := congrArg Prod.fst hx
        simpa using this
      have hxl : xs.length = n := by simpa using mapM_length hm
      have hzl : zs.length = n := by
        have := congrArg List.length hxs
        simp at this
        omega
      intro i hi
      obtain ⟨b, hb, hf⟩ := mapM_at hm i i (by simp [hzl ▸ hi])
      obtain ⟨s, hc, rfl, _⟩ := DataW.trod_string he hf
      have h1 : cs[i]? = some (.string s) := by
        have := congrArg (·[0]?) hc
        simpa [List.getElem?_take, List.getElem?_drop] using this
      have h2 : (xs.map (·.1))[i]? = some (DataW.lit (.string s.data.toList) : DataW H) := by simp [hb]
      rw [hxs] at h2
      simp only [List.getElem?_map, List.getElem?_eq_getElem hi, Option.map_some, Option.some.injEq, DataW.lit.injEq, Lit.string.injEq] at h2
      rw [h1, h2]
    · cases h
theorem LaidAt.strs {P : Program} {W : World} {name : String} {zs : List (List UInt8)} {g : Nat} {t e : TypeId} {n : Nat}
    (hg : P.globalNamed name = some g) (hty : (P.globals[g]?).map (·.type) = some t) (ht : P.underlying t = some (.array n e)) (he : P.underlying e = some .string) (hce : P.cellsOf e = 1) (hct : P.cellsOf t = n)
    (h : LaidAt P W name (.agg (zs.map fun z => .lit (.string z)))) (i : Nat) (hi : i < zs.length) : W.cell? ⟨g, i, none⟩ = some (.string ⟨zs[i].toArray⟩) := by
  obtain ⟨g', t', cs, fuel, p, hg', ht', hvar, hd⟩ := h
  obtain rfl := Option.some.inj (hg.symm.trans hg')
  obtain rfl := Option.some.inj (hty.symm.trans ht')
  have h2 := cells_of_strs ht he hce hct hd i hi
  have h3 := World.var?_cell hg hvar i
  rw [h3]
  simpa using h2
/-- A datum's cells, where it is made of numbers and texts. -/
def flatS : Nat → DataW Unit → List Value
  | 0, _ => []
  | _ + 1, .lit (.int k z) => [.int k z]
  | _ + 1, .lit (.string s) => [.string ⟨s.toArray⟩]
  | n + 1, .agg xs => xs.flatMap (flatS n)
  | _, _ => []
def layVarS (P : Program) (h : Array Obj) (nd : String × DataW Unit) : Array Obj :=
  match P.globalNamed nd.1, flatS 4 nd.2 with
  | some g, v :: vs => h.modify g fun o => match o with
    | .cells _ t f => .cells (v :: vs).toArray t f
    | o => o
  | _, _ => h
def layAllS (P : Program) (L : List (String × DataW Unit)) (h : Array Obj) : Array Obj := L.foldl (layVarS P) h
end Go.Tab

/- What the rows' lists of layers 12 and up give: the tables that the lexer reads (layer 12). -/
namespace Go.Proofs.YtjlikcfabekhlaaGreatDoor
open Go.RowKit Go.Tab

def stepsZ : List (List Int) := [[1, 9, 2, 3, 9, 9, 9], [9, 9, 2, 3, 9, 9, 9], [9, 9, 9, 9, 4, 6, 9], [9, 9, 3, 3, 4, 6, 9], [9, 9, 5, 5, 9, 9, 9], [9, 9, 5, 5, 9, 6, 9], [7, 7, 8, 8, 9, 9, 9], [9, 9, 8, 8, 9, 9, 9], [9, 9, 8, 8, 9, 9, 9]]
theorem steps_are : ∀ j : Fin 63, ((stepsZ.getD (j.val / 7) []).getD (j.val % 7) 0) = ((stepsN.getD j.val 9 : Nat) : Int) := by decide +kernel
theorem gSteps : Tryz.prog.globalNamed "tabularium/num.steps" = some 3 := by kernel_rfl
theorem tSteps : (Tryz.prog.globals[3]?).map (·.type) = some 171 := by kernel_rfl
theorem c1 : Tryz.prog.cellsOf 3 = 1 := by kernel_rfl
theorem c7 : Tryz.prog.cellsOf 170 = 7 := by kernel_rfl
theorem c63 : Tryz.prog.cellsOf 171 = 9 * 7 := by kernel_rfl
theorem dSteps : (Rows.laid_tabularium_num_steps : DataW Unit) = .agg (stepsZ.map fun zs => Lib.tabData .i64 zs) := by kernel_rfl
theorem rows7 : ∀ a : Fin 9, (stepsZ.getD a.val []).length = 7 := by decide +kernel
theorem gTab : Tryz.prog.globalNamed "tabularium/utf.sizes" = some 1 := by kernel_rfl
theorem gTabType : (Tryz.prog.globals[1]?).map (·.type) = some 166 := by kernel_rfl
theorem cellsTab : Tryz.prog.cellsOf 166 = 32 := by kernel_rfl
def sizesZ : List Int := [1, 1, 1, 1, 1, 1, 1, 1, 1, 1, 1, 1, 1, 1, 1, 1, 0, 0, 0, 0, 0, 0, 0, 0, 2, 2, 2, 2, 3, 3, 4, 0]
theorem sizes_are : ∀ j : Fin 32, sizesZ.getD j.val 0 = ((sizeOf8 (8 * j.val) : Nat) : Int) := by decide +kernel
theorem dSizes : (Rows.laid_tabularium_utf_sizes : DataW Unit) = Lib.tabData .i64 sizesZ := by kernel_rfl
theorem gDbl : Tryz.prog.globalNamed "tabularium/lex.doubles" = some 0 := by kernel_rfl
theorem tDbl : (Tryz.prog.globals[0]?).map (·.type) = some 164 := by kernel_rfl
theorem cStr1 : Tryz.prog.cellsOf 9 = 1 := by kernel_rfl
theorem c6 : Tryz.prog.cellsOf 164 = 6 := by kernel_rfl
theorem dDbl : (Rows.laid_tabularium_lex_doubles : DataW Unit) = .agg (dbls.map fun z => .lit (.string z)) := by kernel_rfl
theorem dbl6 : dbls.length = 6 := by decide +kernel
theorem lexT_of {L : List (String × DataW Unit)} {W : World} (hL : laidMetH Tryz.prog L W) (hf : (L.filter fun x => x.2.handleName?.isSome) = []) (hsh : W.ShapedOpen Tryz.prog)
    (h1 : ("tabularium/utf.sizes", Rows.laid_tabularium_utf_sizes) ∈ L) (h2 : ("tabularium/num.steps", Rows.laid_tabularium_num_steps) ∈ L) (h3 : ("tabularium/lex.doubles", Rows.laid_tabularium_lex_doubles) ∈ L) : LexT W := by
  have met := met_of hL hf
  have l1 := laid_of_met met h1
  have l2 := laid_of_met met h2
  have l3 := laid_of_met met h3
  rw [dSizes] at l1
  rw [dSteps] at l2
  rw [dDbl] at l3
  refine ⟨fun j hj => ?_, fun j hj => ?_, fun j hj => ?_, ?_⟩
  · have t := l1.tab gTab gTabType Tryz.underlying166 Tryz.underlying3 c1 cellsTab
    have hc := t.cell gTab j (by simpa [sizesZ] using hj)
    rw [hc, show sizesZ.getD j 0 = _ from sizes_are ⟨j, hj⟩]
  · have ha : j / 7 < stepsZ.length := by show j / 7 < 9; omega
    have hg : stepsZ.getD (j / 7) [] = stepsZ[j / 7] := by rw [List.getD_eq_getElem?_getD, List.getElem?_eq_getElem ha]; rfl
    have hr := rows7 ⟨j / 7, ha⟩
    simp only [hg] at hr
    have hb : j % 7 < (stepsZ[j / 7]).length := by rw [hr]; omega
    have h3 := l2.tabs gSteps tSteps Tryz.underlying171 Tryz.underlying170 Tryz.underlying3 c1 c7 c63 (j / 7) (j % 7) ha hb (by omega)
    rw [show j / 7 * 7 + j % 7 = j by omega] at h3
    rw [h3]
    have h4 := steps_are ⟨j, hj⟩
    simp only [hg] at h4
    rw [List.getD_eq_getElem?_getD, List.getElem?_eq_getElem hb] at h4
    rw [← h4]
    rfl
  · have h := l3.strs gDbl tDbl Tryz.underlying164 Tryz.underlying9 cStr1 c6 j (by rw [dbl6]; exact hj)
    rw [h, List.getD_eq_getElem?_getD, List.getElem?_eq_getElem (by rw [dbl6]; exact hj)]
    rfl
  · exact cell_of_shapedOpen_int (t := 3) (zero := #[.int .i64 0]) hsh (by decide +kernel) (by kernel_rfl) rfl (by kernel_rfl) (by kernel_rfl) Tryz.underlying3
theorem tab_of_ExprRights {W : World} (hL : laidMetH Tryz.prog Rows.exprRightsRow.laid W) (hsh : W.ShapedOpen Tryz.prog) : LexT W := lexT_of hL (by kernel_rfl) hsh (.tail _ (.head _)) (.tail _ (.tail _ (.head _))) (.tail _ (.tail _ (.tail _ (.head _))))
theorem tab_of_ExprBraces {W : World} (hL : laidMetH Tryz.prog Rows.exprBracesRow.laid W) (hsh : W.ShapedOpen Tryz.prog) : LexT W := lexT_of hL (by kernel_rfl) hsh (.tail _ (.head _)) (.tail _ (.tail _ (.head _))) (.tail _ (.tail _ (.tail _ (.head _))))
end Go.Proofs.YtjlikcfabekhlaaGreatDoor
