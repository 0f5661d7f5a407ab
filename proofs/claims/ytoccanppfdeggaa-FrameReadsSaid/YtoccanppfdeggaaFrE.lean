/- Rows of slices; the walk of frame.Split (layer 5). -/
import Derived.Test.YtoccanppfdeggaaFrB
namespace Go.Proofs.Ytoccanppfdeggaa
open Go.RowKit Go.Tab

/-- A slice's three parts. -/
abbrev Sl := Option Addr × Nat × Nat
def slV (s : Sl) : Value := .slice s.1 s.2.1 s.2.2
theorem oneS : ∀ x : Sl, (slV x).oneCell' = true := fun _ => rfl
theorem Try.infoS : (Try.prog.info? 22).map (fun i => (i.zero, i.size, i.bytes)) = some (some (.slice none 0 0), 1, 24) := by kernel_rfl
def lenV : Value → Nat
  | .slice _ n _ => n
  | _ => 0

abbrev OwnS := OwnOf slV 22
theorem _root_.Go.Tab.OwnOf.past {α : Type} {f : α → Value} {E : TypeId} {B g : Nat} {w w' : World} {v : Value} {l : List α} (h : OwnOf f E B w v l) (hg : w.grownBy w' (some g)) (hlt : g < B) : OwnOf f E B w' v l := by
  refine h.kept hg ?_
  cases hb : v.ownBlock with
  | none => exact .inl rfl
  | some k =>
    have := h.own_ge k hb
    exact .inr (by intro e; cases e; omega)
/-- Two rows of unlike types lie in unlike blocks. -/
theorem _root_.Go.Tab.OwnOf.apart {α β : Type} {f : α → Value} {f' : β → Value} {E E' : TypeId} {B B' : Nat} {w : World} {v v' : Value} {l : List α} {l' : List β} (h : OwnOf f E B w v l) (h' : OwnOf f' E' B' w v' l') (hne : E ≠ E') : v.ownBlock = none ∨ v.ownBlock ≠ v'.ownBlock := by
  rcases h.2 with ⟨rfl, _⟩ | ⟨g, cap, cur, rfl, _, hgb, _⟩
  · exact .inl rfl
  · rcases h'.2 with ⟨rfl, _⟩ | ⟨g', cap', cur', rfl, _, hgb', _⟩
    · exact .inr (by simp [Value.ownBlock])
    · refine .inr fun e => ?_
      obtain rfl : g = g' := by simpa [Value.ownBlock] using e
      rw [hgb] at hgb'
      simp at hgb'
      exact hne hgb'.2

theorem Cells.apart {α : Type} {f : α → Value} {E t : TypeId} {B g : Nat} {w : World} {v : Value} {l : List α} {cs : Array Value} (h : Cells w g cs t) (h' : OwnOf f E B w v l) (hne : t ≠ E) : some g ≠ v.ownBlock := by
  rcases h'.2 with ⟨rfl, _⟩ | ⟨g', cap', cur', rfl, _, hgb', _⟩
  · simp [Value.ownBlock]
  · intro e
    obtain rfl : g = g' := by simpa [Value.ownBlock] using e
    rw [show w.heap[g]? = _ from h] at hgb'
    simp at hgb'
    exact hne hgb'.2

theorem row_one {α : Type} (f : α → Value) (w : World) (c : α) (v : Value) (hv : v = f c) (E : TypeId) : RowOf f (w.alloc (.cells #[v] E)) (.slice (some ⟨w.heap.size, 0, none⟩) 1 1) [c] := by
  subst hv
  refine ⟨_, 1, rfl, Nat.le_refl _, (by decide), (fun h => by cases h), fun x hx _ => ?_⟩
  cases hx
  refine ⟨rfl, by simp, fun j hj => ?_⟩
  rw [World.cell?_alloc_mark]
  simp at hj
  subst hj
  rfl

/-- The rows that slices lead to. -/
def Rows (R : Value → List UInt8 → Prop) (vs : List Sl) (ls : List (List UInt8)) : Prop := vs.length = ls.length ∧ ∀ j (h1 : j < vs.length) (h2 : j < ls.length), R (slV vs[j]) ls[j]
theorem Rows.nil {R : Value → List UInt8 → Prop} : Rows R [] [] := ⟨rfl, fun j h => by simp at h⟩
theorem Rows.imp {R R' : Value → List UInt8 → Prop} {vs : List Sl} {ls : List (List UInt8)} (h : Rows R vs ls) (hi : ∀ s l, s ∈ vs → R (slV s) l → R' (slV s) l) : Rows R' vs ls :=
  ⟨h.1, fun j h1 h2 => hi _ _ (List.getElem_mem h1) (h.2 j h1 h2)⟩
theorem Rows.snoc {R : Value → List UInt8 → Prop} {vs : List Sl} {ls : List (List UInt8)} (h : Rows R vs ls) {s : Sl} {l : List UInt8} (hs : R (slV s) l) : Rows R (vs ++ [s]) (ls ++ [l]) := by
  obtain ⟨h0, h1⟩ := h
  refine ⟨by simp [h0], fun j a b => ?_⟩
  simp at a b
  by_cases hj : j < vs.length
  · rw [List.getElem_append_left hj, List.getElem_append_left (by omega)]; exact h1 j hj (by omega)
  · obtain rfl : j = vs.length := by omega
    simp [h0]
    exact hs
abbrev OwnsB (B : Nat) (w : World) : List Sl → List (List UInt8) → Prop := Rows fun v l => OwnB B w v l

set_option maxHeartbeats 2000000 in
set_option maxRecDepth 100000 in
theorem Split_any (v : Value) (l : List UInt8) (w : World) (hv : BytesAt w v l) (hlen : l.length ≤ 100000) :
    Calls Try.prog 24 #[v] w fun x w' => ∃ vo vs, x = .returned (.tuple #[vo, .int .i64 ((split l).2 : Nat)]) ∧ OwnS w.heap.size w' vo vs ∧ OwnsB w.heap.size w' vs (split l).1 ∧ Below w.heap.size w w' := by
  go_enter Try.func24, Try.ntmps24
  go_wp2_with fail
  refine (New_any v l w hv (by omega)).mono ?_
  rintro e1 w1 ⟨g, b, rfl, hrd, hg1, hb1, hbel1⟩
  have hglt := hrd.lt
  have hz1 := hbel1.size
  go_wp2_with fail
  go_loopw [5] (fun o wr => ∃ vs fs l', OwnS w1.heap.size wr o vs ∧ OwnsB w1.heap.size wr vs fs ∧ RdAt wr g b l' 0 ∧ fore fs (split l') = split l ∧ vs.length + l'.length ≤ l.length ∧ Below w.heap.size w wr ∧ w1.heap.size ≤ wr.heap.size) (fun o _ => l.length - lenV o)
  case atStart => exact ⟨[], [], l, OwnOf.nil, Rows.nil, hrd, fore_nil l, by simp, hbel1, Nat.le_refl _⟩
  case round =>
    obtain ⟨vs, fs, l', ho, hfs, hrd', hsp, hle, hbel, hz⟩ := hrel
    have HS := Lib.hid hsp
    clear hsp hrd hbel1
    go_wp2_with fail
    refine (Left_any g _ l' 0 _ hrd').mono ?_
    rintro e2 w2 ⟨rfl, rfl⟩
    by_cases hl0 : l' = []
    · subst hl0
      have HS2 := HS.out
      rw [fore_end] at HS2
      have HS3 := Lib.hid HS2
      clear HS HS2
      go_wp2
      go_ret2
      rw [← HS3.out]
      exact ⟨_, vs, rfl, ho.base_le hz1, hfs.imp (fun s l _ h => h.base_le hz1), hbel⟩
    · have hpos : 0 < l'.length := List.length_pos_iff.2 hl0
      obtain ⟨f, l2, e, hfr⟩ : ∃ f l2 e, rdFrame big l' 0 = (f, l2, e) := ⟨_, _, _, rfl⟩
      have hF := RFrame_any g b l' 0 big wr hrd' (by omega) (by decide)
      rw [hfr] at hF
      go_wp2_with fail
      refine hF.mono ?_
      clear hF
      rintro e2 w2 ⟨vf, rfl, hof, hrd2, hgr⟩
      have hz2 := hgr.size
      have hbel2 : Below w.heap.size w w2 := hbel.grown hgr (by omega) (fun k hk => by cases hk; exact hg1)
      go_wp2_with fail
      refine (Err_any g _ l2 e _ hrd2).mono ?_
      rintro e2 w3 ⟨rfl, rfl⟩
      by_cases he : e = 0
      · subst he
        have hf2 : (rdFrame big l' 0).2.2 = 0 := by rw [hfr]
        have HS2 := HS.out
        rw [fore_good hl0 hf2] at HS2
        have hless := rdFrame_less hf2 hl0
        rw [hfr] at HS2 hless
        have HS3 := Lib.hid HS2
        clear HS HS2 hfr hf2
        have hof2 : OwnB w1.heap.size w2 vf f := hof.base_le hz
        obtain ⟨af, nf, cf, rfl, -⟩ := hof2.row.shape
        have ho2 := ho.past hgr hglt
        have hfs2 : OwnsB w1.heap.size w2 vs fs := hfs.imp fun s l _ h => h.past hgr hglt
        go_wp2_with (with_reducible first | refine stop_append ?_ | refine stop_make ?_ | refine stop_slice ?_ | refine stop_copy ?_); refine Stop.out ?_
        refine wpList_append_row (f := slV) rfl _ _ 44 rfl w1.heap.size 22 24 _ Try.underlying44 Try.infoS rfl oneS vs [(af, nf, cf)] (by exact ho2.alloc _) (by exact row_one slV w2 (af, nf, cf) _ rfl 22) (by unfold maxLen; simp; omega) (by simp; omega) (by simp; omega) _ (Below.refl _ _) ?_
        intro v3 w3 ho3 hb3 hg3
        have hg3' : (w2.alloc (.cells #[.slice af nf cf] 22)).grownBy w3 u5.ownBlock := hg3
        clear hg3 hb3
        have hz3 := hg3'.size
        simp only [World.size_alloc] at hz3
        have ho2a := ho2.alloc (.cells #[.slice af nf cf] 22)
        have hk : ∀ s m, OwnB w1.heap.size w2 (slV s) m → OwnB w1.heap.size w3 (slV s) m := fun s m h => (h.alloc _).kept hg3' ((h.alloc _).apart ho2a (by decide))
        have hge := ho2.own_ge
        have hrd3 : RdAt w3 g b l2 0 := (hrd2.alloc _).kept hg3' (fun k hk => ⟨by have := hge k hk; omega, fun hb => by have := hge k hk; have := hb1 k hb; omega⟩)
        have hbel3 : Below w.heap.size w w3 := (hbel2.alloc (by omega) _).grown hg3' (by simp; omega) (fun k hk => by have := hge k hk; omega)
        have hfs3 : OwnsB w1.heap.size w3 (vs ++ [(af, nf, cf)]) (fs ++ [f]) := (hfs2.imp fun s l _ h => hk s l h).snoc (hk (af, nf, cf) f hof2)
        obtain ⟨a3, c3, rfl, -⟩ := ho3.row.len
        have ho4 : OwnS w1.heap.size w3 (.slice a3 (vs.length + 1) c3) (vs ++ [(af, nf, cf)]) := by simpa using ho3
        have hlv : lenV u5 = vs.length := by obtain ⟨a, c, rfl, -⟩ := ho2.row.len; rfl
        clear hk hge ho2a
        go_wp2
        go_roundw
        case rel => exact ⟨_, _, l2, ho4, hfs3, hrd3, HS3.out, by simp; omega, hbel3, by omega⟩
        case measure =>
          show l.length - (vs.length + 1) < l.length - lenV u5
          rw [hlv]; omega
      · have hbx : ((e : Int) != 0) = true := by simp; omega
        have HS2 := HS.out
        rw [fore_bad hl0 (by rw [hfr]; exact he), hfr] at HS2
        have HS3 := Lib.hid HS2
        clear HS HS2 he hfr
        go_wp2_with fail
        refine (Err_any g _ l2 e _ hrd2).mono ?_
        rintro e2 w3 ⟨rfl, rfl⟩
        go_wp2
        go_ret2
        rw [← HS3.out]
        exact ⟨_, [], rfl, OwnOf.nil, Rows.nil, hbel2⟩
end Go.Proofs.Ytoccanppfdeggaa
