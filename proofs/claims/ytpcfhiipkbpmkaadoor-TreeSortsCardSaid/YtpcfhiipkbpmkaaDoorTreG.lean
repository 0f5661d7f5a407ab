/- The walks of get of both sides (layer 8). -/
import Derived.Test.YtpcfhiipkbpmkaaDoorTreE
namespace Go.Proofs.YtpcfhiipkbpmkaaDoor
open Go.RowKit Go.Tab

def findK (key : ByteArray) : List ByteArray → List Tree → Option Tree
  | k :: ks, t :: ts => if k = key then some t else findK key ks ts
  | _, _ => none
theorem findK_end {key : ByteArray} {a : List ByteArray} {b : List Tree} {k : Nat} (h : a.length ≤ k ∨ b.length ≤ k) : findK key (a.drop k) (b.drop k) = none := by
  rcases h with h | h
  · rw [List.drop_eq_nil_of_le h]; simp [findK]
  · rw [List.drop_eq_nil_of_le h]; cases a.drop k <;> simp [findK]
theorem findK_step {key : ByteArray} {a : List ByteArray} {b : List Tree} {k : Nat} (h1 : k < a.length) (h2 : k < b.length) :
    findK key (a.drop k) (b.drop k) = if a[k] = key then some b[k] else findK key (a.drop (k + 1)) (b.drop (k + 1)) := by
  rw [List.drop_eq_getElem_cons h1, List.drop_eq_getElem_cons h2]; simp [findK]
def zeroT : Tree := .mk 0 false false ⟨#[]⟩ 0 ⟨#[]⟩ [] []
/-- What is told for a key, and whether. -/
def GotP (w0 w : World) (o : Option Tree) (e : Ending) (w' : World) : Prop :=
  (∃ cs, e = .returned (.tuple #[valV cs, .bool o.isSome]) ∧ ValAt w0 (o.getD zeroT) cs) ∧ Below w.heap.size w w'
def getT (key : ByteArray) : Tree → Option Tree
  | .mk kind _ _ _ _ _ keys kids => if kind = 6 then findK key keys kids else none
theorem zero_at (w : World) : ValAt w zeroT [.int .i64 0, .bool false, .bool false, .string ⟨#[]⟩, .int .i64 0, .string ⟨#[]⟩, .slice none 0 0, .slice none 0 0] := by
  simp only [zeroT, ValAt]
  exact ⟨_, none, 0, rfl, RowOf.nil, Nat.le_refl _, by decide, fun _ => rfl, fun x h => by cases h⟩

set_option maxHeartbeats 4000000 in
set_option maxRecDepth 100000 in
theorem get_not (kind : Int) (is neg : Bool) (digits : ByteArray) (exp : Int) (str : ByteArray) (keys : List ByteArray) (kids : List Tree) (key : ByteArray) (w0 w : World) (hbw : Below w0.heap.size w0 w) (cs : List Value)
    (hv : ValAt w0 (.mk kind is neg digits exp str keys kids) cs) (hkind : ¬ kind = 6) :
    Calls Tryd.prog 51 #[valV cs, .string key] w (GotP w0 w none) := by
  simp only [ValAt] at hv
  obtain ⟨kv, a, cap, rfl, hk, -⟩ := hv
  obtain ⟨ka, kc, rfl, -⟩ := hk.len
  simp only [valV]
  have hq : (kind != 6) = true := by rw [bne_iff_ne]; exact hkind
  clear hkind hk
  go_enter Tryd.func51, Tryd.ntmps51
  go_wp2
  refine bodyPost_ret (v := .tuple #[.agg #[.int .i64 0, .bool false, .bool false, .string ⟨#[]⟩, .int .i64 0, .string ⟨#[]⟩, .slice none 0 0, .slice none 0 0], .bool false]) (by simp [results, Tryd.results51, go_sem, *]) rfl ⟨⟨_, rfl, zero_at _⟩, ?_⟩
  (repeat' (first | (with_reducible refine Below.setCell ?_ ?_ _) | (with_reducible refine Below.alloc ?_ ?_ _) | (with_reducible refine Below.drew ?_) | (with_reducible assumption) | (with_reducible exact Below.refl _ _) | (simp only [World.size_alloc, World.size_setCell, World.size_drew]; done) | (simp only [World.size_alloc, World.size_setCell, World.size_drew]; omega) | omega))


set_option maxHeartbeats 4000000 in
set_option maxRecDepth 100000 in
theorem get_yes (is neg : Bool) (digits : ByteArray) (exp : Int) (str : ByteArray) (keys : List ByteArray) (kids : List Tree) (key : ByteArray) (w0 w : World) (hbw : Below w0.heap.size w0 w) (cs : List Value)
    (hv : ValAt w0 (.mk 6 is neg digits exp str keys kids) cs) :
    Calls Tryd.prog 51 #[valV cs, .string key] w (GotP w0 w (findK key keys kids)) := by
  simp only [ValAt] at hv
  obtain ⟨kv, a, cap, rfl, hk, hl, hm, hnil, hx⟩ := hv
  obtain ⟨ka, kc, rfl, hkl0, hkm0, -⟩ := hk.len
  replace hk := hk.below hbw (Nat.le_refl _)
  unfold maxLen at hm hkm0
  simp only [valV]
  have hb0 : Below w.heap.size w (w.alloc (.cells #[.int .i64 6, .bool is, .bool neg, .string digits, .int .i64 exp, .string str, .slice ka keys.length kc, .slice a kids.length cap] 27)) := (Below.refl _ w).alloc (Nat.le_refl _) _
  have hx0 := Cells.new w #[.int .i64 6, .bool is, .bool neg, .string digits, .int .i64 exp, .string str, .slice ka keys.length kc, .slice a kids.length cap] 27
  have hk1 := hk.alloc (.cells #[.int .i64 6, .bool is, .bool neg, .string digits, .int .i64 exp, .string str, .slice ka keys.length kc, .slice a kids.length cap] 27)
  by_cases hle : keys.length ≤ kids.length
  · have hend : keys.length ≤ keys.length ∨ kids.length ≤ keys.length := .inl (Nat.le_refl _)
    go_enter Tryd.func51, Tryd.ntmps51
    go_wp2_with fail
    go_loop [18] (fun i => ∃ k : Nat, k ≤ keys.length ∧ i = .int .i64 (k : Int) ∧ findK key (keys.drop k) (kids.drop k) = findK key keys kids) (fun i => keys.length - (intOf i).toNat)
    case atStart => exact ⟨0, Nat.zero_le _, rfl, by simp⟩
    case round =>
      obtain ⟨k, hkN, rfl, hrest⟩ := hrel
      have HR := Lib.hid hrest
      clear hrest
      have hx0c0 := hx0.cell 0 _ rfl
      have hx0f0 := hx0.frozen 0
      have hx0c1 := hx0.cell 1 _ rfl
      have hx0f1 := hx0.frozen 1
      have hx0c2 := hx0.cell 2 _ rfl
      have hx0f2 := hx0.frozen 2
      have hx0c3 := hx0.cell 3 _ rfl
      have hx0f3 := hx0.frozen 3
      have hx0c4 := hx0.cell 4 _ rfl
      have hx0f4 := hx0.frozen 4
      have hx0c5 := hx0.cell 5 _ rfl
      have hx0f5 := hx0.frozen 5
      have hx0c6 := hx0.cell 6 _ rfl
      have hx0f6 := hx0.frozen 6
      have hx0c7 := hx0.cell 7 _ rfl
      have hx0f7 := hx0.frozen 7
      by_cases hkl : k < keys.length
      · have h1 : k < keys.length := by omega
        have h2 : k < kids.length := by omega
        have hS := Lib.hid (findK_step (key := key) h1 h2)
        obtain ⟨bb, off, rfl, hlt, hcell⟩ := hk.at h1
        have hck := hcell k h1
        clear hcell
        by_cases heq : keys[k] = key
        · rw [heq] at hck
          rw [if_pos heq] at hS
          clear heq
          have hne : kids ≠ [] := by intro h0; rw [h0] at h2; simp at h2
          cases a with
          | none => have := hnil rfl; omega
          | some x =>
            obtain ⟨kb, koff, sp⟩ := x
            obtain ⟨rfl, hltk, hkids⟩ := hx _ rfl hne
            simp only at hltk hkids
            have hkl := h2
            obtain ⟨kc0, hkc, hkv⟩ := KidsAt.get (KidsAt.below (Below.refl w0.heap.size w0) (hltk) kids _ hkids) k hkl
            obtain ⟨kkind, kis, kneg, kdig, kexp, kstr, kka, kkn, kkc, ksa, ksn, ksc, rfl, m0, m1, m2, m3, m4, m5, m6, m7⟩ := kid_at hkv hkc
            replace m0 := (hbw.cell (by exact hltk)).trans m0
            replace m1 := (hbw.cell (by exact hltk)).trans m1
            replace m2 := (hbw.cell (by exact hltk)).trans m2
            replace m3 := (hbw.cell (by exact hltk)).trans m3
            replace m4 := (hbw.cell (by exact hltk)).trans m4
            replace m5 := (hbw.cell (by exact hltk)).trans m5
            replace m6 := (hbw.cell (by exact hltk)).trans m6
            replace m7 := (hbw.cell (by exact hltk)).trans m7
            have hltW := Nat.lt_of_lt_of_le hltk hbw.size
            generalize kids[k] = kid at *
            go_wp2
            refine bodyPost_ret (v := .tuple #[.agg #[.int .i64 kkind, .bool kis, .bool kneg, .string kdig, .int .i64 kexp, .string kstr, .slice kka kkn kkc, .slice ksa ksn ksc], .bool true]) (by simp [results, Tryd.results51, go_sem, *]) rfl ?_
            rw [← HR.out, hS.out]
            refine ⟨⟨_, rfl, hkv⟩, ?_⟩
            (repeat' (first | (with_reducible refine Below.setCell ?_ ?_ _) | (with_reducible refine Below.alloc ?_ ?_ _) | (with_reducible refine Below.drew ?_) | (with_reducible assumption) | (with_reducible exact Below.refl _ _) | (simp only [World.size_alloc, World.size_setCell, World.size_drew]; done) | (simp only [World.size_alloc, World.size_setCell, World.size_drew]; omega) | omega))
        · rw [if_neg heq] at hS
          have hS2 := Lib.hid (hS.out.symm.trans HR.out)
          generalize keys[k] = kk at *
          go_wp2
          · exfalso
            have hh : (kk.toList == key.toList) = true := by assumption
            rw [str_ne heq] at hh
            cases hh
          · go_round
            case rel => exact ⟨k + 1, by omega, by go_num, hS2.out⟩
            case measure => simp [intOf]; omega
      · obtain rfl : k = keys.length := by omega
        have hE := Lib.hid (findK_end (key := key) hend)
        go_wp2
        refine bodyPost_ret (v := .tuple #[.agg #[.int .i64 0, .bool false, .bool false, .string ⟨#[]⟩, .int .i64 0, .string ⟨#[]⟩, .slice none 0 0, .slice none 0 0], .bool false]) (by simp [results, Tryd.results51, go_sem, *]) rfl ?_
        rw [← HR.out, hE.out]
        refine ⟨⟨_, rfl, zero_at _⟩, ?_⟩
        (repeat' (first | (with_reducible refine Below.setCell ?_ ?_ _) | (with_reducible refine Below.alloc ?_ ?_ _) | (with_reducible refine Below.drew ?_) | (with_reducible assumption) | (with_reducible exact Below.refl _ _) | (simp only [World.size_alloc, World.size_setCell, World.size_drew]; done) | (simp only [World.size_alloc, World.size_setCell, World.size_drew]; omega) | omega))
  · have hle' : kids.length < keys.length := by omega
    have hend : keys.length ≤ kids.length ∨ kids.length ≤ kids.length := .inr (Nat.le_refl _)
    clear hle
    go_enter Tryd.func51, Tryd.ntmps51
    go_wp2_with fail
    go_loop [18] (fun i => ∃ k : Nat, k ≤ kids.length ∧ i = .int .i64 (k : Int) ∧ findK key (keys.drop k) (kids.drop k) = findK key keys kids) (fun i => kids.length - (intOf i).toNat)
    case atStart => exact ⟨0, Nat.zero_le _, rfl, by simp⟩
    case round =>
      obtain ⟨k, hkN, rfl, hrest⟩ := hrel
      have HR := Lib.hid hrest
      clear hrest
      have hx0c0 := hx0.cell 0 _ rfl
      have hx0f0 := hx0.frozen 0
      have hx0c1 := hx0.cell 1 _ rfl
      have hx0f1 := hx0.frozen 1
      have hx0c2 := hx0.cell 2 _ rfl
      have hx0f2 := hx0.frozen 2
      have hx0c3 := hx0.cell 3 _ rfl
      have hx0f3 := hx0.frozen 3
      have hx0c4 := hx0.cell 4 _ rfl
      have hx0f4 := hx0.frozen 4
      have hx0c5 := hx0.cell 5 _ rfl
      have hx0f5 := hx0.frozen 5
      have hx0c6 := hx0.cell 6 _ rfl
      have hx0f6 := hx0.frozen 6
      have hx0c7 := hx0.cell 7 _ rfl
      have hx0f7 := hx0.frozen 7
      by_cases hkl : k < kids.length
      · have h1 : k < keys.length := by omega
        have h2 : k < kids.length := by omega
        have hS := Lib.hid (findK_step (key := key) h1 h2)
        obtain ⟨bb, off, rfl, hlt, hcell⟩ := hk.at h1
        have hck := hcell k h1
        clear hcell
        by_cases heq : keys[k] = key
        · rw [heq] at hck
          rw [if_pos heq] at hS
          clear heq
          have hne : kids ≠ [] := by intro h0; rw [h0] at h2; simp at h2
          cases a with
          | none => have := hnil rfl; omega
          | some x =>
            obtain ⟨kb, koff, sp⟩ := x
            obtain ⟨rfl, hltk, hkids⟩ := hx _ rfl hne
            simp only at hltk hkids
            have hkl := h2
            obtain ⟨kc0, hkc, hkv⟩ := KidsAt.get (KidsAt.below (Below.refl w0.heap.size w0) (hltk) kids _ hkids) k hkl
            obtain ⟨kkind, kis, kneg, kdig, kexp, kstr, kka, kkn, kkc, ksa, ksn, ksc, rfl, m0, m1, m2, m3, m4, m5, m6, m7⟩ := kid_at hkv hkc
            replace m0 := (hbw.cell (by exact hltk)).trans m0
            replace m1 := (hbw.cell (by exact hltk)).trans m1
            replace m2 := (hbw.cell (by exact hltk)).trans m2
            replace m3 := (hbw.cell (by exact hltk)).trans m3
            replace m4 := (hbw.cell (by exact hltk)).trans m4
            replace m5 := (hbw.cell (by exact hltk)).trans m5
            replace m6 := (hbw.cell (by exact hltk)).trans m6
            replace m7 := (hbw.cell (by exact hltk)).trans m7
            have hltW := Nat.lt_of_lt_of_le hltk hbw.size
            generalize kids[k] = kid at *
            go_wp2
            refine bodyPost_ret (v := .tuple #[.agg #[.int .i64 kkind, .bool kis, .bool kneg, .string kdig, .int .i64 kexp, .string kstr, .slice kka kkn kkc, .slice ksa ksn ksc], .bool true]) (by simp [results, Tryd.results51, go_sem, *]) rfl ?_
            rw [← HR.out, hS.out]
            refine ⟨⟨_, rfl, hkv⟩, ?_⟩
            (repeat' (first | (with_reducible refine Below.setCell ?_ ?_ _) | (with_reducible refine Below.alloc ?_ ?_ _) | (with_reducible refine Below.drew ?_) | (with_reducible assumption) | (with_reducible exact Below.refl _ _) | (simp only [World.size_alloc, World.size_setCell, World.size_drew]; done) | (simp only [World.size_alloc, World.size_setCell, World.size_drew]; omega) | omega))
        · rw [if_neg heq] at hS
          have hS2 := Lib.hid (hS.out.symm.trans HR.out)
          generalize keys[k] = kk at *
          go_wp2
          · exfalso
            have hh : (kk.toList == key.toList) = true := by assumption
            rw [str_ne heq] at hh
            cases hh
          · go_round
            case rel => exact ⟨k + 1, by omega, by go_num, hS2.out⟩
            case measure => simp [intOf]; omega
      · obtain rfl : k = kids.length := by omega
        have hE := Lib.hid (findK_end (key := key) hend)
        go_wp2
        refine bodyPost_ret (v := .tuple #[.agg #[.int .i64 0, .bool false, .bool false, .string ⟨#[]⟩, .int .i64 0, .string ⟨#[]⟩, .slice none 0 0, .slice none 0 0], .bool false]) (by simp [results, Tryd.results51, go_sem, *]) rfl ?_
        rw [← HR.out, hE.out]
        refine ⟨⟨_, rfl, zero_at _⟩, ?_⟩
        (repeat' (first | (with_reducible refine Below.setCell ?_ ?_ _) | (with_reducible refine Below.alloc ?_ ?_ _) | (with_reducible refine Below.drew ?_) | (with_reducible assumption) | (with_reducible exact Below.refl _ _) | (simp only [World.size_alloc, World.size_setCell, World.size_drew]; done) | (simp only [World.size_alloc, World.size_setCell, World.size_drew]; omega) | omega))

theorem get_any (t : Tree) (key : ByteArray) (w0 w : World) (hbw : Below w0.heap.size w0 w) (cs : List Value) (hv : ValAt w0 t cs) :
    Calls Tryd.prog 51 #[valV cs, .string key] w (GotP w0 w (getT key t)) := by
  cases t with
  | mk kind is neg digits exp str keys kids =>
    by_cases h : kind = 6
    · subst h
      have := get_yes is neg digits exp str keys kids key w0 w hbw cs hv
      simpa [getT] using this
    · have := get_not kind is neg digits exp str keys kids key w0 w hbw cs hv h
      simpa [getT, h] using this
end Go.Proofs.YtpcfhiipkbpmkaaDoor
