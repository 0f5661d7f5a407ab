/- Values of the document's kind as they lie in memory: a tree; arguments that came in, read as trees. -/
import Derived.Test.YtpcfhiipkbpmkaaDoorRows
import Derived.Test.YtpcfhiipkbpmkaaDoorKit
import Derived.Deep.Slices
import Derived.SliceStrings
import Derived.ChangeArms
namespace Go.Proofs.YtpcfhiipkbpmkaaDoor
open Go.RowKit Go.Tab Go.ChangeShapes

inductive Tree where
  | mk (kind : Int) (is neg : Bool) (digits : ByteArray) (exp : Int) (str : ByteArray) (keys : List ByteArray) (kids : List Tree) : Tree

def ksBulk : List ByteArray → Nat
  | [] => 0
  | k :: r => k.size + 1 + ksBulk r
mutual
/-- How much there is of it. -/
def Tree.bulk : Tree → Nat
  | .mk _ _ _ d _ s ks kids => 1 + d.size + s.size + ksBulk ks + bulkAll kids
def bulkAll : List Tree → Nat
  | [] => 0
  | t :: r => t.bulk + bulkAll r
end
mutual
/-- The cells cs are, in w, the tree. -/
def ValAt (w : World) : Tree → List Value → Prop
  | .mk kind is neg digits exp str keys kids, cs => ∃ kv a cap, cs = [.int .i64 kind, .bool is, .bool neg, .string digits, .int .i64 exp, .string str, kv, .slice a kids.length cap] ∧ RowOf Value.string w kv keys ∧
      kids.length ≤ cap ∧ cap ≤ maxLen ∧ (a = none → cap = 0) ∧ ∀ x, a = some x → kids ≠ [] → x.spot = none ∧ x.block < w.heap.size ∧ KidsAt w x.block x.off kids
def KidsAt (w : World) (b off : Nat) : List Tree → Prop
  | [] => True
  | t :: r => (∃ cs, (∀ j u, cs[j]? = some u → w.cell? ⟨b, off + j, none⟩ = some u) ∧ ValAt w t cs) ∧ KidsAt w b (off + 8) r
end

mutual
theorem ValAt.below {w w' : World} (hb : Below w.heap.size w w') : ∀ (t : Tree) (cs : List Value), ValAt w t cs → ValAt w' t cs
  | .mk kind is neg digits exp str keys kids, cs, h => by
    simp only [ValAt] at h ⊢
    obtain ⟨kv, a, cap, h1, h2, h3, h4, h5, h6⟩ := h
    refine ⟨kv, a, cap, h1, h2.below hb (Nat.le_refl _), h3, h4, h5, fun x hx hne => ?_⟩
    obtain ⟨g1, g2, g3⟩ := h6 x hx hne
    exact ⟨g1, Nat.lt_of_lt_of_le g2 hb.size, KidsAt.below hb g2 kids x.off g3⟩
theorem KidsAt.below {w w' : World} (hb : Below w.heap.size w w') {b : Nat} (hlt : b < w.heap.size) : ∀ (l : List Tree) (off : Nat), KidsAt w b off l → KidsAt w' b off l
  | [], _, _ => by simp only [KidsAt]
  | t :: r, off, h => by
    simp only [KidsAt] at h ⊢
    obtain ⟨⟨cs, h1, h2⟩, h3⟩ := h
    exact ⟨⟨cs, fun j u hu => (hb.cell (p := ⟨b, off + j, none⟩) hlt).trans (h1 j u hu), ValAt.below hb t cs h2⟩, KidsAt.below hb hlt r _ h3⟩
end
theorem KidsAt.get {w : World} {b : Nat} : ∀ {l : List Tree} {off : Nat}, KidsAt w b off l → ∀ k (hk : k < l.length), ∃ cs, (∀ j u, cs[j]? = some u → w.cell? ⟨b, off + k * 8 + j, none⟩ = some u) ∧ ValAt w l[k] cs
  | t :: r, off, h, 0, _ => by
    simp only [KidsAt] at h
    simpa using h.1
  | t :: r, off, h, k + 1, hk => by
    simp only [KidsAt] at h
    obtain ⟨cs, h1, h2⟩ := KidsAt.get h.2 k (by simpa using hk)
    refine ⟨cs, fun j u hu => ?_, by simpa using h2⟩
    rw [← h1 j u hu]
    congr 2
    omega
theorem bulk_kid : ∀ {l : List Tree} {k : Nat} (hk : k < l.length), l[k].bulk ≤ bulkAll l
  | t :: r, 0, _ => by simp only [bulkAll, List.getElem_cons_zero]; omega
  | t :: r, k + 1, hk => by
    have := bulk_kid (l := r) (k := k) (by simpa using hk)
    simp only [bulkAll, List.getElem_cons_succ]; omega
theorem bulk_pos (t : Tree) : 1 ≤ t.bulk := by cases t; simp only [Tree.bulk]; omega
theorem len_bulk : ∀ l : List Tree, l.length ≤ bulkAll l
  | [] => by simp [bulkAll]
  | t :: r => by have := len_bulk r; have := bulk_pos t; simp only [bulkAll, List.length_cons]; omega
theorem len_ks : ∀ l : List ByteArray, l.length ≤ ksBulk l
  | [] => by simp [ksBulk]
  | t :: r => by have := len_ks r; simp only [ksBulk, List.length_cons]; omega

mutual
/-- No slice and no text in it has more than the statements' reach. -/
def Fits : Tree → Prop
  | .mk _ _ _ d _ s ks kids => d.size ≤ 140737488351232 ∧ s.size ≤ 140737488351232 ∧ ks.length ≤ 140737488351232 ∧ (∀ k ∈ ks, k.size ≤ 140737488351232) ∧ kids.length ≤ 140737488351232 ∧ FitsAll kids
def FitsAll : List Tree → Prop
  | [] => True
  | t :: r => Fits t ∧ FitsAll r
end
theorem Fits.kid : ∀ {l : List Tree} {k : Nat} (h : k < l.length), FitsAll l → Fits l[k]
  | t :: r, 0, _, h => by simp only [FitsAll] at h; exact h.1
  | t :: r, k + 1, hk, h => by
    simp only [FitsAll] at h
    exact Fits.kid (l := r) (k := k) (by simpa using hk) h.2

section
variable {H : Type} {enc : TypeId × Value → H} {W : World} {base : Nat} {spare : Nat → Bool} {held : Bool}
theorem cells_at {w : World} {base n : Nat} {a : Addr} {cs : List Value} (h : w.cells? base a n = some cs) : cs.length = n ∧ ∀ j u, cs[j]? = some u → w.cell? (a.add j) = some u := by
  unfold World.cells? at h
  split at h
  · have hl := mapM_some_length h
    simp at hl
    refine ⟨hl, fun j u hu => ?_⟩
    have hj := (List.getElem?_eq_some_iff.1 hu).1
    have := mapM_some_get h j j (List.getElem?_range (by omega))
    rw [hu] at this
    exact this
  · cases h

theorem kids_of : ∀ (l : List (DataW H)) (b off : Nat) (h : ∀ i (hi : i < l.length), ∃ t cs, (∀ j u, cs[j]? = some u → W.cell? ⟨b, off + i * 8 + j, none⟩ = some u) ∧ ValAt W t cs ∧ t.bulk ≤ Rows.uptoBulk l[i] ∧ ((∀ m ∈ l[i].weights Tryd.prog 27, m ≤ reachBytes) → Fits t)),
    ∃ kids : List Tree, kids.length = l.length ∧ KidsAt W b off kids ∧ bulkAll kids ≤ Rows.uptoBulkAll l ∧ ((∀ m ∈ DataW.weightsAll Tryd.prog 27 l, m ≤ reachBytes) → FitsAll kids)
  | [], _, _, _ => ⟨[], rfl, (by unfold KidsAt; trivial), by simp [bulkAll], fun _ => by simp only [FitsAll]⟩
  | d :: r, b, off, h => by
    obtain ⟨t, cs, h1, h2, h3, h4⟩ := h 0 (by simp)
    obtain ⟨kids, g1, g2, g3, g4⟩ := kids_of r b (off + 8) (fun i hi => by
      obtain ⟨t, cs, k1, k2, k3, k4⟩ := h (i + 1) (by simp; omega)
      refine ⟨t, cs, fun j u hu => ?_, k2, by simpa using k3, by simpa using k4⟩
      rw [← k1 j u hu]
      congr 2
      omega)
    refine ⟨t :: kids, by simp [g1], ?_, ?_, fun hw => ?_⟩
    · simp only [KidsAt]
      exact ⟨⟨cs, fun j u hu => by have := h1 j u hu; simpa using this, h2⟩, g2⟩
    · simp only [bulkAll, Rows.uptoBulkAll]
      simp only [List.getElem_cons_zero] at h3
      omega
    · simp only [FitsAll]
      simp only [DataW.weightsAll, List.mem_append] at hw
      exact ⟨h4 (fun m hm => hw m (.inl (by simpa using hm))), g4 (fun m hm => hw m (.inr hm))⟩
theorem Tryd.byStr : Tryd.prog.bytesOf 9 = 16 := by kernel_rfl
theorem Tryd.byVal : Tryd.prog.bytesOf 27 = 112 := by kernel_rfl
theorem mem_strs {k : ByteArray} : ∀ {l : List ByteArray}, k ∈ l → k.size ∈ DataW.weightsAll Tryd.prog 9 (strs l : List (DataW H))
  | a :: r, h => by
    simp only [strs, List.map_cons, DataW.weightsAll, DataW.weights, List.mem_append]
    rcases List.mem_cons.1 h with rfl | h
    · exact .inl (List.mem_singleton.2 rfl)
    · exact .inr (mem_strs h)

theorem Tryd.uValue : ∃ f0 f1 f2 f3 f4 f5 : Field, Tryd.prog.underlying 27 = some (.struct #[f0, f1, f2, f3, f4, f5]) ∧ f0.type = 3 ∧ f0.offset = 0 ∧ f1.type = 4 ∧ f1.offset = 1 ∧ f2.type = 23 ∧ f2.offset = 2 ∧ f3.type = 9 ∧ f3.offset = 5 ∧ f4.type = 24 ∧ f4.offset = 6 ∧ f5.type = 25 ∧ f5.offset = 7 :=
  ⟨_, _, _, _, _, _, Tryd.underlying27, rfl, rfl, rfl, rfl, rfl, rfl, rfl, rfl, rfl, rfl, rfl, rfl⟩
theorem Tryd.uNumber : ∃ f0 f1 f2 : Field, Tryd.prog.underlying 23 = some (.struct #[f0, f1, f2]) ∧ f0.type = 4 ∧ f0.offset = 0 ∧ f1.type = 9 ∧ f1.offset = 1 ∧ f2.type = 3 ∧ f2.offset = 2 :=
  ⟨_, _, _, Tryd.underlying23, rfl, rfl, rfl, rfl, rfl, rfl⟩
theorem Tryd.cInt : Tryd.prog.cellsOf 3 = 1 := by kernel_rfl
theorem Tryd.cBool : Tryd.prog.cellsOf 4 = 1 := by kernel_rfl
theorem Tryd.cStr : Tryd.prog.cellsOf 9 = 1 := by kernel_rfl
theorem Tryd.cNum : Tryd.prog.cellsOf 23 = 3 := by kernel_rfl
theorem Tryd.cStrs : Tryd.prog.cellsOf 24 = 1 := by kernel_rfl
theorem Tryd.cVals : Tryd.prog.cellsOf 25 = 1 := by kernel_rfl
theorem Tryd.cVal : Tryd.prog.cellsOf 27 = 8 := by kernel_rfl
theorem len3 {α : Type} {l : List α} (h : l.length = 3) : ∃ a b c, l = [a, b, c] := by
  match l, h with
  | [a, b, c], _ => exact ⟨a, b, c, rfl⟩
theorem len6 {α : Type} {l : List α} (h : l.length = 6) : ∃ a b c d e f, l = [a, b, c, d, e, f] := by
  match l, h with
  | [a, b, c, d, e, f], _ => exact ⟨a, b, c, d, e, f, rfl⟩
theorem len8 {α : Type} {l : List α} (h : l.length = 8) : ∃ a b c d e f g i, l = [a, b, c, d, e, f, g, i] := by
  match l, h with
  | [a, b, c, d, e, f, g, i], _ => exact ⟨a, b, c, d, e, f, g, i, rfl⟩

theorem ks_bulk (l : List ByteArray) : ksBulk l ≤ Rows.uptoBulkAll (l.map fun s => (DataW.lit (.string s.data.toList) : DataW H)) := by
  induction l with
  | nil => simp [ksBulk]
  | cons k r ih =>
    simp only [ksBulk, List.map_cons, Rows.uptoBulkAll, Rows.uptoBulk]
    have : k.size = k.data.toList.length := rfl
    omega

set_option maxHeartbeats 2000000 in
set_option maxRecDepth 100000 in
theorem val_open : ∀ (n : Nat) (cs : List Value) (x : DataW H × List MemPlace), DataW.trod enc Tryd.prog W base spare held n 27 cs = some x → ∃ t, ValAt W t cs ∧ t.bulk ≤ Rows.uptoBulk x.1 ∧ ((∀ m ∈ x.1.weights Tryd.prog 27, m ≤ reachBytes) → Fits t)
  | n, cs, x, h => by
    obtain ⟨f0, f1, f2, f3, f4, f5, hu, t0, o0, t1, o1, t2, o2, t3, o3, t4, o4, t5, o5⟩ := Tryd.uValue
    obtain ⟨xs, n1, rfl, rfl, hlen, hxl, hf⟩ := DataW.trod_struct hu h
    rw [Tryd.cVal] at hlen
    obtain ⟨c0, c1, c2, c3, c4, c5, c6, c7, rfl⟩ := len8 hlen
    obtain ⟨y0, y1, y2, y3, y4, y5, rfl⟩ := len6 (by simpa using hxl)
    have e0 := hf 0 f0 rfl
    have e1 := hf 1 f1 rfl
    have e2 := hf 2 f2 rfl
    have e3 := hf 3 f3 rfl
    have e4 := hf 4 f4 rfl
    have e5 := hf 5 f5 rfl
    rw [t0, o0, Tryd.cInt] at e0
    rw [t1, o1, Tryd.cBool] at e1
    rw [t2, o2, Tryd.cNum] at e2
    rw [t3, o3, Tryd.cStr] at e3
    rw [t4, o4, Tryd.cStrs] at e4
    rw [t5, o5, Tryd.cVals] at e5
    simp at e0 e1 e2 e3 e4 e5
    obtain ⟨kind, g0, rfl, -⟩ := DataW.trod_int Tryd.underlying3 e0
    obtain ⟨is, g1, rfl⟩ := DataW.trod_bool Tryd.underlying4 e1
    obtain ⟨str, g3, rfl, hstr⟩ := DataW.trod_string Tryd.underlying9 e3
    obtain ⟨p0, p1, p2, hun, s0, q0, s1, q1, s2, q2⟩ := Tryd.uNumber
    obtain ⟨zs, n2, rfl, rfl, hlen2, hzl, hfz⟩ := DataW.trod_struct hun e2
    obtain ⟨z0, z1, z2, rfl⟩ := len3 (by simpa using hzl)
    have d0 := hfz 0 p0 rfl
    have d1 := hfz 1 p1 rfl
    have d2 := hfz 2 p2 rfl
    rw [s0, q0, Tryd.cBool] at d0
    rw [s1, q1, Tryd.cStr] at d1
    rw [s2, q2, Tryd.cInt] at d2
    simp at d0 d1 d2
    obtain ⟨neg, k0, rfl⟩ := DataW.trod_bool Tryd.underlying4 d0
    obtain ⟨digits, k1, rfl, hdig⟩ := DataW.trod_string Tryd.underlying9 d1
    obtain ⟨exp, k2, rfl, -⟩ := DataW.trod_int Tryd.underlying3 d2
    simp at g0 g1 g3 k0 k1 k2
    subst g0 g1 g3 k0 k1 k2
    have hkeys : ∃ keys, RowOf Value.string W c6 keys ∧ ksBulk keys ≤ Rows.uptoBulk y4.1 ∧ ((∀ m ∈ y4.1.weights Tryd.prog 24, m ≤ reachBytes) → keys.length ≤ 140737488351232 ∧ ∀ k ∈ keys, k.size ≤ 140737488351232) := by
      rcases open_strings Tryd.underlying24 Tryd.underlying9 Tryd.cStr e4 with ⟨h1, h2⟩ | ⟨a, ln, cp, ss, h1, hb, hl, hm, hsl, hx, hcell, hsz⟩
      · simp at h1
        subst h1
        exact ⟨[], RowOf.nil, by simp [ksBulk], fun _ => ⟨by simp, by simp⟩⟩
      · simp at h1
        subst h1
        have hln : ln ≤ ss.length := by rw [hsl]; split <;> omega
        have htl : (ss.take ln).length = ln := by rw [List.length_take]; omega
        refine ⟨ss.take ln, ⟨some a, cp, by rw [htl], by rw [htl]; exact hl, hm, (fun h => by cases h), fun y hy hne => ?_⟩, ?_, fun hw => ?_⟩
        · cases hy
          have h0 : 0 < ss.length := by
            rcases Nat.eq_zero_or_pos ss.length with h | h
            · rw [List.eq_nil_of_length_eq_zero h] at hne; simp at hne
            · exact h
          have hc0 := hcell 0 h0
          obtain ⟨bb, off, sp⟩ := a
          have hsp : sp = none := by simpa [Addr.add] using World.cell?_spot hc0
          subst hsp
          refine ⟨rfl, World.block_lt_of_cell? W _ hc0, fun j hj => ?_⟩
          rw [htl] at hj
          have := hcell j (by omega)
          rw [Addr.add_lit] at this
          rw [this, List.getD_eq_getElem?_getD, List.getElem?_eq_getElem (by omega)]
          simp
        · rw [hx]
          have := ks_bulk (H := H) (ss.take ln)
          simp only [Rows.uptoBulk, strs]
          omega
        · rw [hx] at hw
          simp only [DataW.weights, Tryd.underlying24, Tryd.byStr, List.mem_cons, List.mem_append] at hw
          refine ⟨?_, fun k hk => ?_⟩
          · have := hw _ (.inl rfl)
            simp only [strs, List.length_map] at this
            unfold reachBytes at this
            omega
          · have := hw _ (.inr (.inl (mem_strs hk)))
            unfold reachBytes at this
            omega
    obtain ⟨keys, hk1, hk2, hk3⟩ := hkeys
    have hkids : ∃ (kids : List Tree) (a : Option Addr) (cap : Nat), c7 = .slice a kids.length cap ∧ kids.length ≤ cap ∧ cap ≤ maxLen ∧ (a = none → cap = 0) ∧ (∀ x, a = some x → kids ≠ [] → x.spot = none ∧ x.block < W.heap.size ∧ KidsAt W x.block x.off kids) ∧ bulkAll kids ≤ Rows.uptoBulk y5.1 ∧ ((∀ m ∈ y5.1.weights Tryd.prog 25, m ≤ reachBytes) → kids.length ≤ 140737488351232 ∧ FitsAll kids) := by
      rcases DataW.trod_slice Tryd.underlying25 e5 with ⟨h1, h2⟩ | ⟨a, ln, cp, elems, rest, n3, hn3, h1, hx, hb, hl, hm, hel, hcell, -, -⟩
      · simp at h1
        subst h1
        exact ⟨[], none, 0, rfl, Nat.le_refl _, by decide, fun _ => rfl, (fun x h => by cases h), by simp [bulkAll], fun _ => ⟨by simp, by simp only [FitsAll]⟩⟩
      · simp at h1
        subst h1
        have each : ∀ i, i < ln → ∃ cs', W.cells? base (a.add (i * 8)) 8 = some cs' ∧ DataW.trod enc Tryd.prog W base spare held n3 27 cs' = some (elems.getD i (.nil, [])) := fun i hi => by
          have := hcell i hi
          rw [Tryd.cVal, List.getElem?_eq_getElem (by omega)] at this
          obtain ⟨cs', r1, r2⟩ := Option.bind_eq_some_iff.1 this
          exact ⟨cs', r1, by rw [r2, List.getD_eq_getElem?_getD, List.getElem?_eq_getElem (by omega)]; rfl⟩
        by_cases h0 : ln = 0
        · subst h0
          exact ⟨[], some a, cp, rfl, hl, hm, (fun h => by cases h), (fun x _ h => absurd rfl h), by simp [bulkAll], fun _ => ⟨by simp, by simp only [FitsAll]⟩⟩
        · have hsp : a.spot = none := by
            obtain ⟨cs', r1, r2⟩ := each 0 (by omega)
            obtain ⟨l1, l2⟩ := cells_at r1
            obtain ⟨u0, u1, u2, u3, u4, u5, u6, u7, rfl⟩ := len8 l1
            have := World.cell?_spot (l2 0 u0 rfl)
            simpa [Addr.add] using this
          obtain ⟨bb, off, sp⟩ := a
          simp only at hsp
          subst hsp
          have hlt : bb < W.heap.size := by
            obtain ⟨cs', r1, r2⟩ := each 0 (by omega)
            obtain ⟨l1, l2⟩ := cells_at r1
            obtain ⟨u0, u1, u2, u3, u4, u5, u6, u7, rfl⟩ := len8 l1
            have := World.block_lt_of_cell? W _ (l2 0 u0 rfl)
            simpa [Addr.add] using this
          obtain ⟨kids, r1, r2, r3, r4⟩ := kids_of (H := H) (W := W) (elems.map (·.1)) bb off (fun i hi => by
            simp at hi
            obtain ⟨cs', r1, r2⟩ := each i (by omega)
            obtain ⟨l1, l2⟩ := cells_at r1
            obtain ⟨t, v1, v2, v3⟩ := val_open n3 cs' _ r2
            refine ⟨t, cs', fun j u hu => ?_, v1, ?_, ?_⟩
            · have := l2 j u hu
              rw [Addr.add_lit, Addr.add_lit] at this
              exact this
            · rw [List.getD_eq_getElem?_getD, List.getElem?_eq_getElem hi] at v2
              simpa using v2
            · rw [List.getD_eq_getElem?_getD, List.getElem?_eq_getElem hi] at v3
              simpa using v3)
          simp at r1
          refine ⟨kids, some ⟨bb, off, none⟩, cp, by rw [r1, hel], by omega, hm, (fun h => by cases h), (fun x hx _ => by cases hx; exact ⟨rfl, hlt, r2⟩), ?_, fun hw => ?_⟩
          · rw [hx]
            simp only [Rows.uptoBulk]
            omega
          · rw [hx] at hw
            simp only [DataW.weights, Tryd.underlying25, Tryd.byVal, List.mem_cons, List.mem_append] at hw
            refine ⟨?_, r4 (fun m hm => hw m (.inr (.inl hm)))⟩
            have := hw _ (.inl rfl)
            simp only [List.length_map] at this
            unfold reachBytes at this
            omega
    obtain ⟨kids, a, cap, rfl, h1, h2, h3, h4, h5, h6⟩ := hkids
    refine ⟨.mk kind is neg digits exp str keys kids, ?_, ?_, fun hw => ?_⟩
    · simp only [ValAt]
      exact ⟨c6, a, cap, rfl, hk1, h1, h2, h3, h4⟩
    · have e1 : digits.size = digits.data.toList.length := rfl
      have e2 : str.size = str.data.toList.length := rfl
      simp only [Tree.bulk, List.map_cons, List.map_nil, Rows.uptoBulk, Rows.uptoBulkAll]
      omega
    · have e1 : digits.size = digits.data.toList.length := rfl
      have e2 : str.size = str.data.toList.length := rfl
      simp only [DataW.weights, hu, hun, List.map_cons, List.map_nil, DataW.weightsEach, t0, t1, t2, t3, t4, t5, s0, s1, s2, List.mem_append, List.mem_cons, List.not_mem_nil, or_false, false_or] at hw
      obtain ⟨k1, k2⟩ := hk3 (fun m hm => hw m (by simp [hm]))
      obtain ⟨k3, k4⟩ := h6 (fun m hm => hw m (by simp [hm]))
      have k5 := hw _ (.inl rfl)
      have k6 := hw _ (.inr (.inl rfl))
      unfold reachBytes at k5 k6
      simp only [Fits]
      exact ⟨by omega, by omega, k1, k2, k3, k4⟩
  termination_by n => n
  decreasing_by all_goals omega
end
end Go.Proofs.YtpcfhiipkbpmkaaDoor
