/- The walk of spoil (layer 8). -/
import Derived.Test.YtpcfhiipkbpmkaaDoorTreW
namespace Go.Proofs.YtpcfhiipkbpmkaaDoor
open Go.RowKit Go.Tab

theorem KidsIn.get {P : Nat → Prop} {w : World} {b : Nat} : ∀ {l : List Tree} {off : Nat}, KidsIn P w b off l → ∀ k (hk : k < l.length), ∃ cs, (∀ (j : Nat) (u : Value), cs[j]? = some u → w.cell? ⟨b, off + k * 8 + j, none⟩ = some u) ∧ ValIn P w l[k] cs
  | t :: r, off, h, 0, _ => by
    simp only [KidsIn] at h
    simpa using h.1
  | t :: r, off, h, k + 1, hk => by
    simp only [KidsIn] at h
    obtain ⟨cs, h1, h2⟩ := KidsIn.get h.2 k (by simpa using hk)
    refine ⟨cs, fun j u hu => ?_, by simpa using h2⟩
    rw [← h1 j u hu]
    congr 2
    omega
theorem costAll_le : ∀ (l : List Tree) (k : Nat), costAll (l.take k) ≤ costAll l
  | [], k => by simp
  | t :: r, 0 => by simp [costAll]
  | t :: r, k + 1 => by have := costAll_le r k; simp only [List.take_succ_cons, costAll]; omega
theorem grow_one (s : ByteArray) : (s ++ (⟨#[120]⟩ : ByteArray)).size ≤ s.size + 1 := by rw [ByteArray.size_append]; exact Nat.le_refl _

set_option maxHeartbeats 4000000 in
set_option maxRecDepth 100000 in
theorem spoil_step (P : Nat → Prop) (n : Nat) (IH : ∀ (t : Tree), cost t ≤ n → ∀ (S : Nat), StrB S t → S + cost t ≤ 1099511627776 → ∀ (w : World) (b off : Nat) (cs : List Value), b < w.heap.size → (∀ (j : Nat) (u : Value), cs[j]? = some u → w.cell? ⟨b, off + j, none⟩ = some u) → ValIn P w t cs →
      Calls Tryd.prog 24 #[.pointer (some ⟨b, off, none⟩)] w fun e w' => e = .returned (.tuple #[]) ∧ Spoiled P (cost t) w w')
    (kind : Int) (is neg : Bool) (digits : ByteArray) (exp : Int) (str : ByteArray) (keys : List ByteArray) (kids : List Tree) (hn : cost (.mk kind is neg digits exp str keys kids) ≤ n + 1) (S : Nat) (hS : StrB S (.mk kind is neg digits exp str keys kids))
    (hSn : S + cost (.mk kind is neg digits exp str keys kids) ≤ 1099511627776) (w : World) (b off : Nat) (cs : List Value) (hbw : b < w.heap.size) (hcs : ∀ j u, cs[j]? = some u → w.cell? ⟨b, off + j, none⟩ = some u) (hv : ValIn P w (.mk kind is neg digits exp str keys kids) cs) :
    Calls Tryd.prog 24 #[.pointer (some ⟨b, off, none⟩)] w fun e w' => e = .returned (.tuple #[]) ∧ Spoiled P (cost (.mk kind is neg digits exp str keys kids)) w w' := by
  simp only [cost] at hn hSn ⊢
  simp only [StrB] at hS
  simp only [ValIn] at hv
  obtain ⟨kv, a, cap, rfl, hk, hl, hm, hnil, hx⟩ := hv
  obtain ⟨ka, kc, rfl, hkl0, hkm0, -⟩ := hk.1.len
  unfold maxLen at hm hkm0
  have f6 := hcs 6 _ rfl
  have f7 := hcs 7 _ rfl
  have HS := Lib.hid hS
  have HK := Lib.hid hk
  have HX := Lib.hid hx
  have HIH := Lib.hid IH
  have F6 := Lib.hid f6
  have F7 := Lib.hid f7
  clear hcs hS hk hx IH
  go_enter Tryd.func24, Tryd.ntmps24
  go_wp2_with fail
  go_loopw [9] (fun i wr => ∃ k : Nat, k ≤ keys.length ∧ i = .int .i64 (k : Int) ∧ Spoiled P k w wr) (fun i _ => keys.length - (intOf i).toNat)
  case atStart => exact ⟨0, Nat.zero_le _, rfl, Spoiled.refl _ _ _⟩
  case round =>
    clear f6 f7
    obtain ⟨k, hkk, rfl, hsp⟩ := hrel
    have hsz := hsp.size
    obtain ⟨u6, g6, k6⟩ := hsp.cell _ _ _ F6.out
    obtain ⟨u7, g7, k7⟩ := hsp.cell _ _ _ F7.out
    cases k6.slice
    cases k7.slice
    clear k6 k7
    by_cases hkl : k < keys.length
    · obtain ⟨kb, ko, rfl, hkb, hkcell⟩ := HK.out.1.at hkl
      obtain ⟨s', c1, c2⟩ := hsp.cell _ _ _ (hkcell k hkl)
      obtain ⟨s', rfl, c3⟩ := c2.str
      have hne : keys ≠ [] := by intro h0; rw [h0] at hkl; simp at hkl
      obtain ⟨hPk, hfz⟩ := HK.out.2 kb rfl hne
      have hf1 := (hsp.frozen kb (ko + k)).trans (hfz (ko + k))
      have hsize : s'.size ≤ S + k := by have := HS.out.2.2.1 _ (List.getElem_mem hkl); omega
      have hsn : S + k ≤ 1099511627776 := by omega
      have HSP := Lib.hid (hsp.trans (Spoiled.write c1 hPk (grow_one s')))
      clear hsp hkcell c2 c3 hfz
      go_wp2_with fail
      go_roundw
      case rel => exact ⟨k + 1, hkl, by go_num, HSP.out⟩
      case measure => simp [intOf]; omega
    · obtain rfl : k = keys.length := by omega
      have HSP := Lib.hid hsp
      clear hsp
      go_wp2_with fail
      go_loopw [27] (fun i wr => ∃ k : Nat, k ≤ kids.length ∧ i = .int .i64 (k : Int) ∧ Spoiled P (keys.length + costAll (kids.take k)) w wr) (fun i _ => kids.length - (intOf i).toNat)
      case atStart => exact ⟨0, Nat.zero_le _, rfl, by simpa [costAll] using HSP.out⟩
      case round =>
        clear g6 g7 HSP
        obtain ⟨k, hkk2, rfl, hsp⟩ := hrel
        have hsz2 := hsp.size
        obtain ⟨u7, g7, k7⟩ := hsp.cell _ _ _ F7.out
        cases k7.slice
        clear k7
        by_cases hkl2 : k < kids.length
        · have hne : kids ≠ [] := by intro h0; rw [h0] at hkl2; simp at hkl2
          cases a with
          | none => have := hnil rfl; omega
          | some x =>
          obtain ⟨bb, boff, sp⟩ := x
          obtain ⟨rfl, ⟨hlt, hPb, hfz⟩, hkids⟩ := HX.out _ rfl hne
          simp only at hlt hPb hfz hkids
          obtain ⟨kc0, hkc, hkv⟩ := hkids.get k hkl2
          have hct := costAll_take kids k hkl2
          have hck := cost_kid hkl2
          have hst := StrB_kid hkl2 HS.out.2.2.2
          have hle : costAll (kids.take (k + 1)) ≤ costAll kids := by
            exact costAll_le kids (k + 1)
          generalize hmm : keys.length + costAll (kids.take k) = m at *
          have hmc : m + (cost kids[k] + 1) ≤ keys.length + costAll kids := by omega
          obtain ⟨kc1, hlike, hkc1⟩ := hsp.cells kc0 (boff + k * 8) hkc
          obtain ⟨t', ht1, ht2, ht3⟩ := twin hsp _ _ _ hkv hlike
          have hC := HIH.out t' (by omega) (S + m) (ht3 S hst) (by omega) wr bb (boff + k * 8) kc1 (by omega) hkc1 ht1
          rw [ht2] at hC
          have h5 := ht1.shape
          obtain ⟨kkind, kis, kneg, kdig, kexp, kstr, kka, kkn, kkc, ksa, ksn, ksc, rfl⟩ := h5
          have hs5 := hkc1 5 _ rfl
          have hss : kstr.size ≤ S + m := by
            have := ht3 S hst
            cases t'
            simp only [ValIn] at ht1
            obtain ⟨_, _, _, e, _⟩ := ht1
            simp only [List.cons.injEq, Value.string.injEq] at e
            simp only [StrB] at this
            rw [e.2.2.2.2.2.1]
            exact this.2.1
          have HSP := Lib.hid hsp
          have HF := Lib.hid hfz
          have HCT := Lib.hid hct
          clear hsp hfz hkids hkc hkv hlike hkc1 ht1 ht2 ht3 hst hct
          generalize cost kids[k] = ck at *
          go_wp2_with fail
          refine hC.mono ?_
          clear hC
          rintro e w2 ⟨rfl, hsp2⟩
          obtain ⟨u7, q7, p7⟩ := hsp2.cell _ _ _ g7
          cases p7.slice
          obtain ⟨u5, q5, p5⟩ := hsp2.cell _ _ _ hs5
          obtain ⟨s', rfl, p6⟩ := p5.str
          have hf2 := (hsp2.frozen bb (boff + k * 8 + 5)).trans ((HSP.out.frozen bb (boff + k * 8 + 5)).trans (HF.out (boff + k * 8 + 5)))
          have hsn : s'.size ≤ 1099511627776 := by omega
          have hsz3 := hsp2.size
          have HE := Lib.hid ((HSP.out.trans hsp2).trans (Spoiled.write q5 hPb (grow_one s')))
          clear hsp2 p7 p5 g7 hs5 p6
          go_wp2_with fail
          go_roundw
          case rel => exact ⟨k + 1, hkl2, by go_num, HE.out.mono (by have := HCT.out; omega)⟩
          case measure => simp [intOf]; omega
        · obtain rfl : k = kids.length := by omega
          have HSP := Lib.hid hsp
          clear hsp
          go_wp2_with fail
          go_end0
          refine ⟨rfl, ?_⟩
          have := HSP.out
          rw [List.take_length] at this
          exact this.mono (by omega)

theorem spoil_any (P : Nat → Prop) (n : Nat) : ∀ (t : Tree), cost t ≤ n → ∀ (S : Nat), StrB S t → S + cost t ≤ 1099511627776 → ∀ (w : World) (b off : Nat) (cs : List Value), b < w.heap.size → (∀ (j : Nat) (u : Value), cs[j]? = some u → w.cell? ⟨b, off + j, none⟩ = some u) → ValIn P w t cs →
      Calls Tryd.prog 24 #[.pointer (some ⟨b, off, none⟩)] w fun e w' => e = .returned (.tuple #[]) ∧ Spoiled P (cost t) w w' := by
  induction n with
  | zero => intro t h; cases t; simp only [cost] at h; omega
  | succ n IH =>
    intro t h S hS hSn w b off cs hb hcs hv
    cases t
    exact spoil_step P n IH _ _ _ _ _ _ _ _ h S hS hSn w b off cs hb hcs hv
end Go.Proofs.YtpcfhiipkbpmkaaDoor
