/- What sorting a value in its place keeps of what lies apart (layer 8). -/
import Derived.Test.YtpcfhiipkbpmkaaDoorTsL
namespace Go.Proofs.YtpcfhiipkbpmkaaDoor
open Go.RowKit Go.Tab

theorem frozen_set (w : World) (b off : Nat) (v : Value) (k o : Nat) : (w.setCell ⟨b, off, none⟩ v).frozen? ⟨k, o, none⟩ = w.frozen? ⟨k, o, none⟩ := by
  simp only [World.frozen?, World.setCell]
  by_cases hk : b = k
  · subst hk
    rw [Array.getElem?_modify]
    cases h : w.heap[b]? with
    | none => simp [h]
    | some ob => cases ob <;> simp [h]
  · rw [Array.getElem?_modify, if_neg hk]
theorem frozen_setAll (B : Nat) : ∀ (cs : List Value) (o : Nat) (w : World) (k j : Nat), (setAll w B o cs).frozen? ⟨k, j, none⟩ = w.frozen? ⟨k, j, none⟩
  | [], _, _, _, _ => rfl
  | v :: r, o, w, k, j => by rw [setAll, frozen_setAll B r, frozen_set]
theorem addr_ne {b o b' o' : Nat} (h : b' ≠ b ∨ o' ≠ o) : (⟨b, o, none⟩ : Addr) ≠ ⟨b', o', none⟩ := fun e => by
  injection e with e1 e2
  rcases h with h | h
  · exact h e1.symm
  · exact h e2.symm
theorem setAll_out (B : Nat) : ∀ (cs : List Value) (o : Nat) (w : World) (k j : Nat), (k ≠ B ∨ j < o ∨ o + cs.length ≤ j) → (setAll w B o cs).cell? ⟨k, j, none⟩ = w.cell? ⟨k, j, none⟩
  | [], _, _, _, _, _ => rfl
  | v :: r, o, w, k, j, h => by
    simp only [List.length_cons] at h
    rw [setAll, setAll_out B r _ _ _ _ (by omega), World.cell?_setCell_other (h := addr_ne (by omega))]
theorem setAll_in (B : Nat) : ∀ (cs : List Value) (o : Nat) (w : World), (∀ i, i < cs.length → ∃ u, w.cell? ⟨B, o + i, none⟩ = some u) → ∀ i u, cs[i]? = some u → (setAll w B o cs).cell? ⟨B, o + i, none⟩ = some u
  | [], _, _, _, i, u, hu => by simp at hu
  | v :: r, o, w, hex, 0, u, hu => by
    simp at hu
    subst hu
    obtain ⟨u0, h0⟩ := hex 0 (by simp)
    rw [setAll, setAll_out B r _ _ _ _ (by omega)]
    exact World.cell?_setCell_same' _ _ _ (by rw [show o + 0 = o from rfl] at h0; rw [h0]; rfl)
  | v :: r, o, w, hex, i + 1, u, hu => by
    rw [setAll, show o + (i + 1) = o + 1 + i by omega]
    refine setAll_in B r (o + 1) _ (fun i' hi' => ?_) i u (by simpa using hu)
    obtain ⟨u1, h1⟩ := hex (i' + 1) (by simp; omega)
    refine ⟨u1, ?_⟩
    rw [World.cell?_setCell_other (h := addr_ne (by omega)), ← h1]
    congr 2
    omega
theorem exists_list {α : Type} (p : Nat → α → Prop) : ∀ n : Nat, (∀ j, j < n → ∃ x, p j x) → ∃ L : List α, L.length = n ∧ ∀ j (h : j < L.length), p j L[j]
  | 0, _ => ⟨[], rfl, fun j h => by simp at h⟩
  | n + 1, h => by
    obtain ⟨L, h1, h2⟩ := exists_list p n (fun j hj => h j (by omega))
    obtain ⟨x, hx⟩ := h n (by omega)
    refine ⟨L ++ [x], by simp [h1], fun j hj => ?_⟩
    by_cases hjn : j < L.length
    · rw [List.getElem_append_left hjn]; exact h2 j hjn
    · have : j = n := by simp at hj; omega
      subst this
      rw [List.getElem_append_right (by omega)]
      simpa [h1] using hx

theorem bd_le {bd : Nat → Nat} (h : ∀ j, bd j ≤ bd (j + 1)) : ∀ i j, i ≤ j → bd i ≤ bd j := fun i j hij => by
  induction hij with
  | refl => exact Nat.le_refl _
  | step _ ih => exact Nat.le_trans ih (h _)

/-- A value's kids, their cells and their bounds. -/
structure KidD (w : World) (kids : List Tree) (a : Option Addr) (bb boff lo m hi : Nat) (kv : Value) (bd : Nat → Nat) (C : Nat → List Value) : Prop where
  addr : kids ≠ [] → a = some ⟨bb, boff, none⟩ ∧ bb < w.heap.size ∧ Btw lo m bb ∧ kv.ownBlock ≠ some bb ∧ ∀ off, w.frozen? ⟨bb, off, none⟩ = false
  b0 : bd 0 = m
  mono : ∀ j, bd j ≤ bd (j + 1)
  top : ∀ j, bd j ≤ hi
  cell : ∀ j (_ : j < kids.length) i u, (C j)[i]? = some u → w.cell? ⟨bb, boff + j * 8 + i, none⟩ = some u
  sep : ∀ j (h : j < kids.length), ValSep w kids[j] (C j) (bd j) (bd (j + 1))
theorem kidD_of {w : World} {kids : List Tree} {a : Option Addr} {lo m hi cap : Nat} {kv : Value} (hmh : m ≤ hi) (hl : kids.length ≤ cap) (hn : a = none → cap = 0)
    (h : ∀ x, a = some x → kids ≠ [] → x.spot = none ∧ (x.block < w.heap.size ∧ Btw lo m x.block ∧ ∀ off, w.frozen? ⟨x.block, off, none⟩ = false) ∧ kv.ownBlock ≠ some x.block ∧ KidsSep w x.block x.off kids m hi) :
    ∃ bb boff bd C, KidD w kids a bb boff lo m hi kv bd C := by
  by_cases hne : kids = []
  · subst hne
    exact ⟨0, 0, fun _ => m, fun _ => [], fun h => absurd rfl h, rfl, fun _ => Nat.le_refl _, fun _ => hmh, fun j h => by simp at h, fun j h => by simp at h⟩
  · cases a with
    | none => have := hn rfl; have : 0 < kids.length := by rcases kids with _ | ⟨_, _⟩ <;> simp_all
              omega
    | some x =>
      obtain ⟨bb, boff, sp⟩ := x
      obtain ⟨rfl, ⟨g1, g2, g3⟩, g4, g5⟩ := h _ rfl hne
      obtain ⟨bd, C, b0, b1, b2, b3⟩ := KidsSep.get kids boff m hi g5
      exact ⟨bb, boff, bd, C, fun _ => ⟨rfl, g1, g2, g4, g3⟩, b0, b1, b2, fun j hj => (b3 j hj).1, fun j hj => (b3 j hj).2⟩
/-- The first k kids are sorted in their places. -/
def MidS (w : World) (kids : List Tree) (m hi : Nat) (bd : Nat → Nat) (C : Nat → List Value) (k : Nat) (wr : World) : Prop :=
  Changed (Btw m hi) w wr ∧ (∀ j (h : j < kids.length), j < k → ValIn (Btw (bd j) (bd (j + 1))) wr (sortT kids[j]) (C j)) ∧ ∀ j (h : j < kids.length), k ≤ j → ValSep wr kids[j] (C j) (bd j) (bd (j + 1))
theorem MidS.start {w : World} {kids : List Tree} {a : Option Addr} {bb boff lo m hi : Nat} {kv : Value} {bd : Nat → Nat} {C : Nat → List Value} (h : KidD w kids a bb boff lo m hi kv bd C) : MidS w kids m hi bd C 0 w :=
  ⟨Changed.refl _ _, fun _ _ h => by omega, fun j hj _ => h.sep j hj⟩
theorem MidS.step {w wr w2 : World} {kids : List Tree} {a : Option Addr} {bb boff lo m hi k : Nat} {kv : Value} {bd : Nat → Nat} {C : Nat → List Value} (hd : KidD w kids a bb boff lo m hi kv bd C) (h : MidS w kids m hi bd C k wr) (hk : k < kids.length)
    (hv : ValIn (Btw (bd k) (bd (k + 1))) w2 (sortT kids[k]) (C k)) (hc : Changed (Btw (bd k) (bd (k + 1))) wr w2) : MidS w kids m hi bd C (k + 1) w2 := by
  obtain ⟨h1, h2, h3⟩ := h
  have hbm := bd_le hd.mono
  refine ⟨h1.trans (hc.mono (fun x hx => ⟨by have := hbm 0 k (Nat.zero_le _); rw [hd.b0] at this; have := hx.1; omega, by have := hd.top (k + 1); have := hx.2; omega⟩)), fun j hj hjk => ?_, fun j hj hjk => ?_⟩
  · by_cases hjk' : j = k
    · subst hjk'; exact hv
    · refine ValIn.move hc.size (fun x hx hlt => hc.block x hlt (fun hy => ?_)) (fun _ h _ => h) _ _ (h2 j hj (by omega))
      have := hbm (j + 1) k (by omega)
      have := hx.2
      have := hy.1
      omega
  · refine ValSep.move hc.size _ _ _ _ (fun x hx hlt => hc.block x hlt (fun hy => ?_)) (h3 j hj (by omega))
    have := hbm (k + 1) j (by omega)
    have := hx.1
    have := hy.2
    omega

/-- Block B is being filled with fields: the first k are there. -/
def FillF (B : Nat) (L : List F9) (k : Nat) (w : World) : Prop := ∃ arr, Cells w B arr 97 ∧ arr.size = L.length * 9 ∧ ∀ j (h : j < L.length), j < k → ∀ c u, L[j].enc[c]? = some u → arr[j * 9 + c]? = some u
theorem FillF.step {B k : Nat} {L : List F9} {w : World} (h : FillF B L k w) (hk : k < L.length) : FillF B L (k + 1) (setAll w B (k * 9) L[k].enc) := by
  obtain ⟨arr, h1, h2, h3⟩ := h
  have hl9 : ∀ x : F9, x.enc.length = 9 := fun _ => rfl
  refine ⟨_, h1.put _ (k * 9), by rw [putAll_size]; exact h2, fun j hj hjk c u hu => ?_⟩
  have hc := (List.getElem?_eq_some_iff.1 hu).1
  rw [hl9] at hc
  by_cases hjk' : j = k
  · subst hjk'
    exact putAll_in _ arr (j * 9) c u (by rw [hl9]; omega) hu
  · rw [putAll_out _ _ _ _ (by left; omega)]
    exact h3 j hj (by omega) c u hu

/-- The first k of the sorted fields are written back. -/
structure OutS (w wr : World) (L : List F9) (kb ko bb boff FB lo m hi k : Nat) : Prop where
  chg : Changed (Btw lo hi) w wr
  fld : ∀ i (h : i < L.length) c u, L[i].enc[c]? = some u → wr.cell? ⟨FB, i * 9 + c, none⟩ = some u
  keyo : ∀ j, j < L.length → ∃ u, wr.cell? ⟨kb, ko + j, none⟩ = some u
  key : ∀ j (h : j < L.length), j < k → wr.cell? ⟨kb, ko + j, none⟩ = some (.string L[j].key)
  kido : ∀ j, j < L.length → ∀ i, i < 8 → ∃ u, wr.cell? ⟨bb, boff + j * 8 + i, none⟩ = some u
  kid : ∀ j (h : j < L.length), j < k → ∀ i u, L[j].cells[i]? = some u → wr.cell? ⟨bb, boff + j * 8 + i, none⟩ = some u
  val : ∀ j (h : j < L.length), ValIn (Btw m hi) wr L[j].t L[j].cells
  kf : ∀ o, L ≠ [] → wr.frozen? ⟨kb, o, none⟩ = false
  bf : ∀ o, L ≠ [] → wr.frozen? ⟨bb, o, none⟩ = false
theorem OutS.below {w wr w2 : World} {L : List F9} {kb ko bb boff FB lo m hi k : Nat} (h : OutS w wr L kb ko bb boff FB lo m hi k) (hb : Below wr.heap.size wr w2) : OutS w w2 L kb ko bb boff FB lo m hi k := by
  have hc : ∀ {b o : Nat} {u : Value}, wr.cell? ⟨b, o, none⟩ = some u → w2.cell? ⟨b, o, none⟩ = some u := fun {b o u} hu => (hb.cell (p := ⟨b, o, none⟩) (World.block_lt_of_cell? wr _ hu)).trans hu
  refine ⟨h.chg.trans (Changed.of_below hb), fun i hi' c u hu => hc (h.fld i hi' c u hu), fun j hj => (h.keyo j hj).imp fun u hu => hc hu, fun j hj hjk => hc (h.key j hj hjk), fun j hj i hi' => (h.kido j hj i hi').imp fun u hu => hc hu, fun j hj hjk i u hu => hc (h.kid j hj hjk i u hu), fun j hj => ValIn.below hb _ _ (h.val j hj), fun o hne => ?_, fun o hne => ?_⟩
  · have h0 : 0 < L.length := List.length_pos_iff.2 hne
    obtain ⟨u, hu⟩ := h.keyo 0 h0
    rw [frozen_same (hb.block kb (World.block_lt_of_cell? wr _ hu))]
    exact h.kf o hne
  · have h0 : 0 < L.length := List.length_pos_iff.2 hne
    obtain ⟨u, hu⟩ := h.kido 0 h0 0 (by omega)
    rw [frozen_same (hb.block bb (World.block_lt_of_cell? wr _ hu))]
    exact h.bf o hne
theorem OutS.step {w wr : World} {L : List F9} {kb ko bb boff FB lo m hi k : Nat} (h : OutS w wr L kb ko bb boff FB lo m hi k) (hk : k < L.length) (h1 : kb ≠ bb) (h2 : kb ≠ FB) (h3 : bb ≠ FB) (h4 : Btw lo m kb) (h5 : Btw lo m bb) (hmh : m ≤ hi) :
    OutS w (setAll (wr.setCell ⟨kb, ko + k, none⟩ (.string L[k].key)) bb (boff + k * 8) L[k].cells) L kb ko bb boff FB lo m hi (k + 1) := by
  have hl8 : ∀ x : F9, x.cells.length = 8 := fun _ => rfl
  have hset : ∀ (b o : Nat), (b ≠ kb ∨ o ≠ ko + k) → (wr.setCell ⟨kb, ko + k, none⟩ (.string L[k].key)).cell? ⟨b, o, none⟩ = wr.cell? ⟨b, o, none⟩ := fun b o hne => by rw [World.cell?_setCell_other (h := addr_ne hne)]
  have hoth : ∀ x, Btw m hi x → (setAll (wr.setCell ⟨kb, ko + k, none⟩ (.string L[k].key)) bb (boff + k * 8) L[k].cells).heap[x]? = wr.heap[x]? := fun x hx =>
    (setAll_other bb _ _ _ _ (by have := hx.1; have := h5.2; omega)).trans (Below.heap_setCell _ _ _ _ (by show x ≠ kb; have := hx.1; have := h4.2; omega))
  have hsz : (setAll (wr.setCell ⟨kb, ko + k, none⟩ (.string L[k].key)) bb (boff + k * 8) L[k].cells).heap.size = wr.heap.size := by rw [setAll_size, World.size_setCell]
  have hs := h.chg.size
  refine ⟨⟨?_, ?_, ?_, by omega, fun x hx hp => ?_⟩, fun i hi' c u hu => ?_, fun j hj => ?_, fun j hj hjk => ?_, fun j hj i hi' => ?_, fun j hj hjk i u hu => ?_, fun j hj => ?_, fun o hne => ?_, fun o hne => ?_⟩
  · exact (setAll_below bb 0 (Nat.zero_le _) _ _ wr _ ((Below.refl 0 wr).setCell (Nat.zero_le _) _)).os.trans h.chg.os
  · exact (setAll_below bb 0 (Nat.zero_le _) _ _ wr _ ((Below.refl 0 wr).setCell (Nat.zero_le _) _)).tape.trans h.chg.tape
  · exact (setAll_below bb 0 (Nat.zero_le _) _ _ wr _ ((Below.refl 0 wr).setCell (Nat.zero_le _) _)).output.trans h.chg.output
  · have e1 : x ≠ bb := fun e => hp (by rw [e]; exact ⟨h5.1, by have := h5.2; omega⟩)
    have e2 : x ≠ kb := fun e => hp (by rw [e]; exact ⟨h4.1, by have := h4.2; omega⟩)
    exact (setAll_other bb _ _ _ _ e1).trans ((Below.heap_setCell _ _ _ _ e2).trans (h.chg.block x hx hp))
  · rw [setAll_out bb _ _ _ _ _ (.inl (fun e => h3 e.symm)), hset _ _ (.inl (fun e => h2 e.symm))]
    exact h.fld i hi' c u hu
  · obtain ⟨u, hu⟩ := h.keyo j hj
    rw [setAll_out bb _ _ _ _ _ (.inl h1)]
    by_cases hjk : j = k
    · subst hjk
      exact ⟨_, World.cell?_setCell_same' _ _ _ (by rw [hu]; rfl)⟩
    · exact ⟨u, by rw [hset _ _ (.inr (by omega))]; exact hu⟩
  · rw [setAll_out bb _ _ _ _ _ (.inl h1)]
    by_cases hjk' : j = k
    · subst hjk'
      obtain ⟨u, hu⟩ := h.keyo j hj
      exact World.cell?_setCell_same' _ _ _ (by rw [hu]; rfl)
    · rw [hset _ _ (.inr (by omega))]
      exact h.key j hj (by omega)
  · by_cases hjk : j = k
    · subst hjk
      have hlt : i < L[j].cells.length := by rw [hl8]; exact hi'
      refine ⟨L[j].cells[i], setAll_in bb _ _ _ (fun i2 hi2 => ?_) i _ (List.getElem?_eq_getElem hlt)⟩
      rw [hl8] at hi2
      obtain ⟨u, hu⟩ := h.kido j hj i2 hi2
      exact ⟨u, by rw [hset _ _ (.inl (fun e => h1 e.symm))]; exact hu⟩
    · obtain ⟨u, hu⟩ := h.kido j hj i hi'
      refine ⟨u, ?_⟩
      rw [setAll_out bb _ _ _ _ _ (by rw [hl8]; omega), hset _ _ (.inl (fun e => h1 e.symm))]
      exact hu
  · by_cases hjk' : j = k
    · subst hjk'
      refine setAll_in bb _ _ _ (fun i2 hi2 => ?_) i _ hu
      rw [hl8] at hi2
      obtain ⟨u, hu⟩ := h.kido j hj i2 hi2
      exact ⟨u, by rw [hset _ _ (.inl (fun e => h1 e.symm))]; exact hu⟩
    · have hlt := (List.getElem?_eq_some_iff.1 hu).1
      rw [hl8] at hlt
      rw [setAll_out bb _ _ _ _ _ (by rw [hl8]; omega), hset _ _ (.inl (fun e => h1 e.symm))]
      exact h.kid j hj (by omega) i u hu
  · exact ValIn.move (by omega) (fun x hx _ => hoth x hx) (fun _ h _ => h) _ _ (h.val j hj)
  · rw [frozen_setAll, frozen_set]; exact h.kf o hne
  · rw [frozen_setAll, frozen_set]; exact h.bf o hne
theorem Changed.setAll {P : Nat → Prop} {w w1 : World} (h : Changed P w w1) {B : Nat} (hP : P B) : ∀ (cs : List Value) (o : Nat), Changed P w (setAll w1 B o cs) := fun cs o => by
  have hb := setAll_below B 0 (Nat.zero_le _) cs o w1 w1 (Below.refl 0 w1)
  exact ⟨hb.os.trans h.os, hb.tape.trans h.tape, hb.output.trans h.output, by rw [setAll_size]; exact h.size, fun k hk hp => (setAll_other B cs o w1 k (fun e => hp (by rw [e]; exact hP))).trans (h.block k hk hp)⟩
theorem Changed.new {P Q : Nat → Prop} {w w1 w2 : World} (h : Changed P w w1) (h2 : Changed Q w1 w2) (hq : ∀ k, Q k → w.heap.size ≤ k) : Changed P w w2 :=
  ⟨h2.os.trans h.os, h2.tape.trans h.tape, h2.output.trans h.output, Nat.le_trans h.size h2.size, fun k hk hp => (h2.block k (Nat.lt_of_lt_of_le hk h.size) (fun hk2 => by have := hq k hk2; omega)).trans (h.block k hk hp)⟩
theorem OutS.done {w wr : World} {L : List F9} {kb ko bb boff FB lo m hi : Nat} {is neg : Bool} {d : ByteArray} {e : Int} {s : ByteArray} {keys : List ByteArray} {kids : List Tree} {ka a : Option Addr} {kc cap : Nat} (h : OutS w wr L kb ko bb boff FB lo m hi L.length)
    (hlen : keys.length = kids.length) (hL : L.length = keys.length) (hfld : L.map F9.fld = sortF (keys.zip (sortAllT kids))) (hk : keys ≠ [] → ka = some ⟨kb, ko, none⟩ ∧ Btw lo m kb) (ha : kids ≠ [] → a = some ⟨bb, boff, none⟩ ∧ Btw lo m bb)
    (hk1 : keys.length ≤ kc) (hk2 : kc ≤ maxLen) (hk3 : ka = none → kc = 0) (ha1 : kids.length ≤ cap) (ha2 : cap ≤ maxLen) (ha3 : a = none → cap = 0) (hmh : m ≤ hi) :
    ValIn (Btw lo hi) wr (sortT (.mk 6 is neg d e s keys kids)) [.int .i64 6, .bool is, .bool neg, .string d, .int .i64 e, .string s, .slice ka keys.length kc, .slice a kids.length cap] := by
  rw [sortT, if_pos rfl, ← hfld, List.map_map, List.map_map]
  have l1 : (L.map (Prod.fst ∘ F9.fld)).length = keys.length := by rw [List.length_map, hL]
  have l2 : (L.map (Prod.snd ∘ F9.fld)).length = kids.length := by rw [List.length_map, hL, hlen]
  simp only [ValIn]
  refine ⟨.slice ka keys.length kc, a, cap, by rw [l2], ⟨⟨ka, kc, by rw [l1], by rw [l1]; exact hk1, hk2, hk3, fun x hx hne => ?_⟩, fun b hb hne => ?_⟩, by rw [l2]; exact ha1, ha2, ha3, fun x hx hne => ?_⟩
  · have hne2 : keys ≠ [] := fun e0 => hne (List.length_eq_zero_iff.1 (by rw [l1, e0]; rfl))
    obtain ⟨rfl, g2⟩ := hk hne2
    cases hx
    have hpos : 0 < L.length := by rw [hL]; exact List.length_pos_iff.2 hne2
    refine ⟨rfl, World.block_lt_of_cell? wr _ (h.key 0 hpos hpos), fun j hj => ?_⟩
    have hj2 : j < L.length := by simpa using hj
    rw [h.key j hj2 hj2]
    simp [F9.fld]
  · have hne2 : keys ≠ [] := fun e0 => hne (List.length_eq_zero_iff.1 (by rw [l1, e0]; rfl))
    obtain ⟨rfl, g2⟩ := hk hne2
    simp only [Value.ownBlock, Option.some.injEq] at hb
    subst hb
    have hpos : L ≠ [] := fun e0 => hne2 (List.length_eq_zero_iff.1 (by rw [← hL, e0]; rfl))
    exact ⟨⟨g2.1, by have := g2.2; omega⟩, fun o => h.kf o hpos⟩
  · have hne2 : kids ≠ [] := fun e0 => hne (List.length_eq_zero_iff.1 (by rw [l2, e0]; rfl))
    obtain ⟨rfl, g2⟩ := ha hne2
    cases hx
    have hLk : L.length = kids.length := by rw [hL, hlen]
    have hpos : L ≠ [] := fun e0 => hne2 (List.length_eq_zero_iff.1 (by rw [← hLk, e0]; rfl))
    have hpos2 : 0 < L.length := List.length_pos_iff.2 hpos
    obtain ⟨u, hu⟩ := h.kido 0 hpos2 0 (by omega)
    refine ⟨rfl, ⟨World.block_lt_of_cell? wr _ hu, ⟨g2.1, Nat.lt_of_lt_of_le g2.2 hmh⟩, fun o => h.bf o hpos⟩, KidsIn.make _ _ (fun j hj => ?_)⟩
    have hj2 : j < L.length := by simpa using hj
    refine ⟨L[j].cells, fun i u hu => h.kid j hj2 hj2 i u hu, ?_⟩
    have hv := h.val j hj2
    have he : (L.map (Prod.snd ∘ F9.fld))[j] = L[j].t := by simp [F9.fld]
    rw [he]
    exact ValIn.move (Nat.le_refl _) (fun _ _ _ => rfl) (fun x hx _ => ⟨by have := hx.1; have := g2.1; have := g2.2; omega, hx.2⟩) _ _ hv
/-- What has no keys: its kids sorted. -/
theorem MidS.done {w wr : World} {a : Option Addr} {bb boff lo m hi cap : Nat} {kv : Value} {bd : Nat → Nat} {C : Nat → List Value} {kind : Int} {is neg : Bool} {d : ByteArray} {e : Int} {s : ByteArray} {kids : List Tree} (hD : KidD w kids a bb boff lo m hi kv bd C) (h : MidS w kids m hi bd C kids.length wr)
    (h6 : kind ≠ 6) (hkv : RowOf Value.string w kv []) (ha1 : kids.length ≤ cap) (ha2 : cap ≤ maxLen) (ha3 : a = none → cap = 0) (hlm : lo ≤ m) (hmh : m ≤ hi) :
    ValIn (Btw lo hi) wr (sortT (.mk kind is neg d e s [] kids)) [.int .i64 kind, .bool is, .bool neg, .string d, .int .i64 e, .string s, kv, .slice a kids.length cap] := by
  rw [sortT, if_neg h6]
  have l2 := sortAllT_len kids
  simp only [ValIn]
  refine ⟨kv, a, cap, by rw [l2], ⟨?_, fun b hb hne => absurd rfl hne⟩, by rw [l2]; exact ha1, ha2, ha3, fun x hx hne => ?_⟩
  · obtain ⟨xa, xc, rfl, e2, e3, e4⟩ := hkv.len
    exact RowOf.empty e3 e4
  · have hne2 : kids ≠ [] := fun e0 => hne (List.length_eq_zero_iff.1 (by rw [l2, e0]; rfl))
    obtain ⟨rfl, g1, g2, g3, g4⟩ := hD.addr hne2
    cases hx
    have hbb : wr.heap[bb]? = w.heap[bb]? := h.1.block bb g1 (fun hx => by have := hx.1; have := g2.2; omega)
    refine ⟨rfl, ⟨Nat.lt_of_lt_of_le g1 h.1.size, ⟨g2.1, Nat.lt_of_lt_of_le g2.2 hmh⟩, fun o => (frozen_same hbb o).trans (g4 o)⟩, KidsIn.make _ _ (fun j hj => ?_)⟩
    have hj2 : j < kids.length := by rw [← l2]; exact hj
    have he : (sortAllT kids)[j] = sortT kids[j] := by simp only [sortAllT_map, List.getElem_map]
    refine ⟨C j, fun i u hu => (cell_same hbb _).trans (hD.cell j hj2 i u hu), ?_⟩
    rw [he]
    refine ValIn.move (Nat.le_refl _) (fun _ _ _ => rfl) (fun x hx _ => ⟨?_, ?_⟩) _ _ (h.2.1 j hj2 hj2)
    · have := bd_le hD.mono 0 j (Nat.zero_le _)
      rw [hD.b0] at this
      have := hx.1
      omega
    · have := hD.top (j + 1)
      have := hx.2
      omega
theorem OutS.start {w wr w2 w3 w4 w5 : World} {keys : List ByteArray} {kids : List Tree} {ka a : Option Addr} {kb ko bb boff FB lo m hi : Nat} {kv : Value} {bd : Nat → Nat} {C : Nat → List Value} {L L' : List F9}
    (hD : KidD w kids a bb boff lo m hi kv bd C) (hmid : MidS w kids m hi bd C kids.length wr) (hKD : keys ≠ [] → ka = some ⟨kb, ko, none⟩ ∧ kb < w.heap.size ∧ Btw lo m kb ∧ (∀ o, w.frozen? ⟨kb, o, none⟩ = false) ∧ (kids ≠ [] → kb ≠ bb) ∧ ∀ j (h : j < keys.length), w.cell? ⟨kb, ko + j, none⟩ = some (.string keys[j]))
    (hlen : keys.length = kids.length) (hb2 : Below wr.heap.size wr w2) (h3 : Changed (fun x => x = FB) w2 w3) (hb4 : Below w3.heap.size w3 w4) (h5 : Changed (fun x => x = FB) w4 w5) (hFB : FB = wr.heap.size) (hlm : lo ≤ m) (hmh : m ≤ hi) (hhi : hi ≤ w.heap.size) (hL : L.length = kids.length)
    (hLj : ∀ j (h : j < L.length), ∃ h' : j < kids.length, L[j].key = keys[j]'(by omega) ∧ L[j].t = sortT kids[j] ∧ L[j].cells = C j) (hp : L'.Perm L) (hc : ∀ i (h : i < L'.length) c u, L'[i].enc[c]? = some u → w5.cell? ⟨FB, i * 9 + c, none⟩ = some u) :
    OutS w w5 L' kb ko bb boff FB lo m hi 0 := by
  have hA : Changed (fun x => x = FB) wr w5 := (((Changed.of_below hb2).trans h3).trans (Changed.of_below hb4)).trans h5
  have hLl : L'.length = kids.length := by rw [hp.length_eq, hL]
  have hz := hmid.1.size
  have hold : ∀ x, x < w.heap.size → ¬ Btw m hi x → w5.heap[x]? = w.heap[x]? := fun x hx hn => (hA.block x (by omega) (by omega)).trans (hmid.1.block x hx hn)
  have hkids : 0 < L'.length → kids ≠ [] := fun h e => by rw [hLl, e] at h; simp at h
  have hkeys : 0 < L'.length → keys ≠ [] := fun h e => by rw [hLl, ← hlen, e] at h; simp at h
  have hL0 : L' ≠ [] → 0 < L'.length := fun h => List.length_pos_iff.2 h
  have hnk : ∀ h : keys ≠ [], ¬ Btw m hi kb := fun h hx => by have := (hKD h).2.2.1.2; have := hx.1; omega
  have hnb : ∀ h : kids ≠ [], ¬ Btw m hi bb := fun h hx => by have := (hD.addr h).2.2.1.2; have := hx.1; omega
  refine ⟨(hmid.1.mono (fun x hx => ⟨by have := hx.1; omega, hx.2⟩)).new hA (fun k hk => by omega), hc, fun j hj => ?_, fun _ _ h => by omega, fun j hj i hi' => ?_, fun _ _ h => by omega, fun j hj => ?_, fun o hne => ?_, fun o hne => ?_⟩
  · obtain ⟨g1, g2, g3, g4, g5, g6⟩ := hKD (hkeys (by omega))
    exact ⟨_, (cell_same (hold kb g2 (hnk (hkeys (by omega)))) _).trans (g6 j (by omega))⟩
  · obtain ⟨g1, g2, g3, g4, g5⟩ := hD.addr (hkids (by omega))
    have hj2 : j < kids.length := by omega
    have h8 := ValIn.len8 (ValSep.in _ _ _ _ (hD.sep j hj2))
    exact ⟨_, (cell_same (hold bb g2 (hnb (hkids (by omega)))) _).trans (hD.cell j hj2 i _ (List.getElem?_eq_getElem (by omega)))⟩
  · obtain ⟨i, hi', he⟩ := List.getElem_of_mem (hp.mem_iff.1 (List.getElem_mem hj))
    obtain ⟨h', e1, e2, e3⟩ := hLj i hi'
    rw [← he, e2, e3]
    refine ValIn.move hA.size (fun x hx hlt => hA.block x hlt (fun e => ?_)) (fun x hx _ => ⟨?_, ?_⟩) _ _ (hmid.2.1 i h' h')
    · have := hx.2
      have := hD.top (i + 1)
      omega
    · have := bd_le hD.mono 0 i (Nat.zero_le _)
      rw [hD.b0] at this
      have := hx.1
      omega
    · have := hD.top (i + 1)
      have := hx.2
      omega
  · obtain ⟨g1, g2, g3, g4, g5, g6⟩ := hKD (hkeys (hL0 hne))
    exact (frozen_same (hold kb g2 (hnk (hkeys (hL0 hne)))) _).trans (g4 o)
  · obtain ⟨g1, g2, g3, g4, g5⟩ := hD.addr (hkids (hL0 hne))
    exact (frozen_same (hold bb g2 (hnb (hkids (hL0 hne)))) _).trans (g5 o)
theorem fields_zip {keys : List ByteArray} {kids : List Tree} {C : Nat → List Value} {L : List F9} (hlen : keys.length = kids.length) (hL : L.length = kids.length)
    (hLj : ∀ j (h : j < L.length), ∃ h' : j < kids.length, L[j].key = keys[j]'(by omega) ∧ L[j].t = sortT kids[j] ∧ L[j].cells = C j) : L.map (·.key) = keys ∧ L.map F9.fld = keys.zip (sortAllT kids) := by
  constructor
  · refine List.ext_getElem (by rw [List.length_map]; omega) (fun j h1 h2 => ?_)
    obtain ⟨h', e1, e2, e3⟩ := hLj j (by simpa using h1)
    rw [List.getElem_map, e1]
  · refine List.ext_getElem (by rw [List.length_map, List.length_zip, sortAllT_len]; omega) (fun j h1 h2 => ?_)
    obtain ⟨h', e1, e2, e3⟩ := hLj j (by simpa using h1)
    rw [List.getElem_map, List.getElem_zip]
    simp only [F9.fld, e1, e2, sortAllT_map, List.getElem_map]
end Go.Proofs.YtpcfhiipkbpmkaaDoor
