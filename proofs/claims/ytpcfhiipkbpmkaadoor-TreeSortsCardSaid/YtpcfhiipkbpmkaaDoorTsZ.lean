/- The walk of the reference's Sort, of an object (layer 8): the least key over and over. -/
import Derived.Test.YtpcfhiipkbpmkaaDoorTsX
namespace Go.Proofs.YtpcfhiipkbpmkaaDoor
open Go.RowKit Go.Tab

theorem lessB_bytes : ∀ (l m : List UInt8), Op.bytesLess l m = lessN (l.map UInt8.toNat) (m.map UInt8.toNat)
  | _, [] => by simp [Op.bytesLess, lessN]
  | [], b :: m => by simp [Op.bytesLess, lessN]
  | a :: l, b :: m => by
    have ih := lessB_bytes l m
    simp only [Op.bytesLess, List.map_cons, lessN, ih]
    have e1 : decide (a < b) = decide (a.toNat < b.toNat) := by simp only [decide_eq_decide]; exact UInt8.lt_iff_toNat_lt
    have e2 : (a == b) = decide (a.toNat = b.toNat) := by
      rw [Bool.eq_iff_iff]; simp [UInt8.toNat_inj]
    rw [e1, e2]
theorem lessB_str (a b : ByteArray) : Op.bytesLess a.toList b.toList = ltK a b := by
  rw [lessB_bytes, ByteArray.toList_eq, ByteArray.toList_eq]; rfl
theorem Tryd.infoInt : (Tryd.prog.info? 3).map (fun i => (i.zero, i.size, i.bytes)) = some (some (.int .i64 0), 1, 8) := by kernel_rfl
theorem KidRow.lower {base base' : Nat} {w : World} {v kv : Value} {ts : List Tree} (h : KidRow base w v kv ts) (hb : base' ≤ base) : KidRow base' w v kv ts := by
  obtain ⟨L, h1, h2, h3⟩ := h
  refine ⟨L, h1, fun s hs => ValIn.move (Nat.le_refl _) (fun _ _ _ => rfl) (fun k hk _ => ⟨by have := hk.1; omega, hk.2⟩) _ _ (h2 s hs), h3.1, ?_⟩
  rcases h3.2 with h | ⟨g, cap, cur, hv, hg, r⟩
  · exact .inl h
  · exact .inr ⟨g, cap, cur, hv, by omega, r⟩
/-- Which ones are gone. -/
def Flags (n : Nat) (c : List Nat) (fl : List Int) : Prop := fl.length = n ∧ ∀ j (h : j < fl.length), fl[j] = if j ∈ c then 1 else 0
theorem Flags.start (n : Nat) : Flags n [] (List.replicate n 0) := ⟨by simp, fun j h => by simp⟩
theorem Flags.step {n : Nat} {c : List Nat} {fl : List Int} (h : Flags n c fl) (b : Nat) : Flags n (c ++ [b]) (fl.set b 1) := by
  refine ⟨by rw [List.length_set]; exact h.1, fun j hj => ?_⟩
  rw [List.getElem_set]
  have hj2 : j < fl.length := by simpa using hj
  by_cases hb : b = j
  · subst hb; simp
  · rw [if_neg hb, h.2 j hj2]
    have : (j ∈ c ++ [b]) ↔ j ∈ c := by
      rw [List.mem_append]
      exact ⟨fun h => h.elim id (fun h => absurd (by simpa using h) (fun e : j = b => hb e.symm)), .inl⟩
    by_cases hc : j ∈ c
    · rw [if_pos hc, if_pos (this.2 hc)]
    · rw [if_neg hc, if_neg (fun h => hc (this.1 h))]
def keyOf' (keys : List ByteArray) (i : Nat) : ByteArray := keys[i]!
/-- What lies between two rounds: the boxes, which ones are gone, the result's two rows. -/
def SelI (w : World) (n G : Nat) (C0 : Array Value) (is neg : Bool) (digits : ByteArray) (exp : Int) (str : ByteArray) (keys : List ByteArray) (vs : List Tree) (c : List Nat) (wr : World) : Prop :=
  Cells wr w.heap.size C0 27 ∧ Cells wr (w.heap.size + 1) #[.int .i64 0, .bool false, .bool false, .string ⟨#[]⟩, .int .i64 0, .string ⟨#[]⟩, .slice none 0 0, .slice none 0 0] 27 ∧
  (∃ fl, Flags n c fl ∧ OwnOf (Value.int .i64) 3 (w.heap.size + 3) wr (.slice (some ⟨G, 0, none⟩) n n) fl) ∧
  (∃ kv v, Cells wr (w.heap.size + 1 + 1) #[.int .i64 6, .bool is, .bool neg, .string digits, .int .i64 exp, .string str, kv, v] 27 ∧ OwnOf Value.string 9 (w.heap.size + 4) wr kv (c.map (keys[·]!)) ∧ KidRow (w.heap.size + 4) wr v kv (c.map (fun i => vs.getD i zeroT))) ∧ w.heap.size + 4 ≤ wr.heap.size ∧ Below w.heap.size w wr
theorem SelI.below {w wr w2 : World} {n G : Nat} {C0 : Array Value} {is neg : Bool} {digits : ByteArray} {exp : Int} {str : ByteArray} {keys : List ByteArray} {vs : List Tree} {c : List Nat} (h : SelI w n G C0 is neg digits exp str keys vs c wr) (hb : Below wr.heap.size wr w2) : SelI w n G C0 is neg digits exp str keys vs c w2 := by
  obtain ⟨h1, h2, ⟨fl, h3, h4⟩, ⟨kv, v, h5, h6, h7⟩, h8, h9⟩ := h
  exact ⟨h1.below hb h1.lt, h2.below hb h2.lt, ⟨fl, h3, h4.below hb (Nat.le_refl _)⟩, ⟨kv, v, h5.below hb h5.lt, h6.below hb (Nat.le_refl _), h7.below hb⟩, Nat.le_trans h8 hb.size, h9.trans (hb.mono h9.size)⟩

theorem rows_apart {w : World} {b b' n n' size size' : Nat} {e e' : TypeId} {v v' : Value} {xs xs' : List Value} (h : w.ownsRow b e size v n xs) (h' : w.ownsRow b' e' size' v' n' xs') (hne : e ≠ e') : v.ownBlock = none ∨ v.ownBlock ≠ v'.ownBlock := by
  rcases h.2 with ⟨rfl, _⟩ | ⟨g, cap, cur, rfl, _, hg, _⟩
  · exact .inl rfl
  · right
    intro e0
    rcases h'.2 with ⟨rfl, _⟩ | ⟨g', cap', cur', rfl, _, hg', _⟩
    · cases e0
    · simp only [Value.ownBlock, Option.some.injEq] at e0
      subst e0
      rw [hg] at hg'
      injection hg' with hg'
      injection hg' with _ h2 _
      exact hne h2
/-- What lies within a round. -/
def SelM (w : World) (n : Nat) (C0 : Array Value) (is neg : Bool) (digits : ByteArray) (exp : Int) (str : ByteArray) (fl : List Int) (kv v : Value) (kl : List ByteArray) (ts : List Tree) (c : List Nat) (wr : World) : Prop :=
  Cells wr w.heap.size C0 27 ∧ Cells wr (w.heap.size + 1) #[.int .i64 0, .bool false, .bool false, .string ⟨#[]⟩, .int .i64 0, .string ⟨#[]⟩, .slice none 0 0, .slice none 0 0] 27 ∧ Flags n c fl ∧ OwnOf (Value.int .i64) 3 (w.heap.size + 3) wr (.slice (some ⟨w.heap.size + 1 + 1 + 1, 0, none⟩) n n) fl ∧
  Cells wr (w.heap.size + 1 + 1) #[.int .i64 6, .bool is, .bool neg, .string digits, .int .i64 exp, .string str, kv, v] 27 ∧ OwnOf Value.string 9 (w.heap.size + 4) wr kv kl ∧ KidRow (w.heap.size + 4) wr v kv ts ∧ w.heap.size + 4 ≤ wr.heap.size ∧ Below w.heap.size w wr
theorem SelM.below {w wr w2 : World} {n : Nat} {C0 : Array Value} {is neg : Bool} {digits : ByteArray} {exp : Int} {str : ByteArray} {fl : List Int} {kv v : Value} {kl : List ByteArray} {ts : List Tree} {c : List Nat} (h : SelM w n C0 is neg digits exp str fl kv v kl ts c wr) (hb : Below wr.heap.size wr w2) : SelM w n C0 is neg digits exp str fl kv v kl ts c w2 := by
  obtain ⟨h1, h2, h3, h4, h5, h6, h7, h8, h9⟩ := h
  exact ⟨h1.below hb h1.lt, h2.below hb h2.lt, h3, h4.below hb (Nat.le_refl _), h5.below hb h5.lt, h6.below hb (Nat.le_refl _), h7.below hb, Nat.le_trans h8 hb.size, h9.trans (hb.mono h9.size)⟩
theorem SelM.keys {w wA w6 : World} {n : Nat} {C0 : Array Value} {is neg : Bool} {digits : ByteArray} {exp : Int} {str : ByteArray} {fl : List Int} {kv v : Value} {kl : List ByteArray} {ts : List Tree} {c : List Nat} {key : ByteArray} {k g cap : Nat} (h : SelM w n C0 is neg digits exp str fl kv v kl ts c wA) (hk : kl.length = k)
    (q1 : w6.ownsRow (w.heap.size + 4) 9 1 (.slice (some ⟨g, 0, none⟩) (k + 1) cap) (k + 1) (kl.map Value.string ++ [.string key])) (q2 : wA.grownBy w6 kv.ownBlock) (q3 : kv.ownBlock = some g ∨ g = wA.heap.size) :
    SelM w n C0 is neg digits exp str fl (.slice (some ⟨g, 0, none⟩) (k + 1) cap) v (kl ++ [key]) ts c (w6.setCell ⟨w.heap.size + 1 + 1, 6, none⟩ (.slice (some ⟨g, 0, none⟩) (k + 1) cap)) := by
  obtain ⟨h1, h2, h3, h4, h5, h6, h7, h8, h9⟩ := h
  have hlo := h6.own_ge
  have hne : ∀ x, x < w.heap.size + 4 → some x ≠ kv.ownBlock := fun x hx e => by have := hlo x e.symm; omega
  have hg4 := (World.ownsRow.lt q1 g rfl).1
  obtain ⟨L, l1, l2, l3⟩ := h7
  have hap := rows_apart l3 h6 (by decide : 27 ≠ 9)
  have h7' : KidRow (w.heap.size + 4) wA v kv ts := ⟨L, l1, l2, l3⟩
  have hown : OwnOf Value.string 9 (w.heap.size + 4) w6 (.slice (some ⟨g, 0, none⟩) (k + 1) cap) (kl ++ [key]) := by
    unfold OwnOf
    rw [List.length_append, List.map_append, hk]
    exact q1
  refine ⟨(h1.kept q2 (hne _ (by omega))).setOther _ _ (by show w.heap.size + 1 + 1 ≠ _; omega), (h2.kept q2 (hne _ (by omega))).setOther _ _ (by show w.heap.size + 1 + 1 ≠ _; omega), h3, (h4.kept q2 (.inr (fun e => hne (w.heap.size + 1 + 1 + 1) (by omega) e))).setOther _ _ (fun e => ?_), (h5.kept q2 (hne _ (by omega))).setI 6 _, hown.setOther _ _ (fun e => ?_), (h7'.keys (g := g) q2 rfl q3 hap).set (by omega) 6 _, ?_, ?_⟩
  · have e2 : w.heap.size + 1 + 1 + 1 = w.heap.size + 1 + 1 := Option.some.inj e
    omega
  · have e2 : g = w.heap.size + 1 + 1 := Option.some.inj e
    omega
  · rw [World.size_setCell]; exact Nat.le_trans h8 q2.size
  · exact (h9.grown q2 h9.size (fun x hx => by have := hlo x hx; omega)).setCell (by show w.heap.size ≤ w.heap.size + 1 + 1; omega) _
theorem SelM.kids {w wA w6 : World} {n : Nat} {C0 : Array Value} {is neg : Bool} {digits : ByteArray} {exp : Int} {str : ByteArray} {fl : List Int} {kv v : Value} {kl : List ByteArray} {ts : List Tree} {c : List Nat} {k g cap : Nat} {t : Tree} {cs : List Value} {L : List (Tree × List Value)} (h : SelM w n C0 is neg digits exp str fl kv v kl ts c wA) (hL1 : L.map (·.1) = ts) (hk : L.length = k)
    (hL2 : ∀ s ∈ L, ValIn (fun k => w.heap.size + 4 ≤ k ∧ some k ≠ v.ownBlock ∧ some k ≠ kv.ownBlock) wA s.1 s.2) (hL3 : wA.ownsRow (w.heap.size + 4) 27 8 v L.length (L.flatMap (·.2))) (hv : ValIn (fun k => w.heap.size + 4 ≤ k ∧ some k ≠ v.ownBlock ∧ some k ≠ kv.ownBlock) wA t cs)
    (q1 : w6.ownsRow (w.heap.size + 4) 27 8 (.slice (some ⟨g, 0, none⟩) (k + 1) cap) (k + 1) (L.flatMap (·.2) ++ cs)) (q2 : wA.grownBy w6 v.ownBlock) (q3 : v.ownBlock = some g ∨ g = wA.heap.size) :
    SelM w n C0 is neg digits exp str fl kv (.slice (some ⟨g, 0, none⟩) (k + 1) cap) kl (ts ++ [t]) c (w6.setCell ⟨w.heap.size + 1 + 1, 7, none⟩ (.slice (some ⟨g, 0, none⟩) (k + 1) cap)) := by
  obtain ⟨h1, h2, h3, h4, h5, h6, h7, h8, h9⟩ := h
  have hlo := fun x hx => (World.ownsRow.lt hL3 x hx).1
  have hne : ∀ x, x < w.heap.size + 4 → some x ≠ v.ownBlock := fun x hx e => by have := hlo x e.symm; omega
  have hap := rows_apart h6 hL3 (by decide : 9 ≠ 27)
  subst hk hL1
  have hkr := KidRow.push (kv := kv) hL2 hv q2 q3 q1
  refine ⟨(h1.kept q2 (hne _ (by omega))).setOther _ _ (by show w.heap.size + 1 + 1 ≠ _; omega), (h2.kept q2 (hne _ (by omega))).setOther _ _ (by show w.heap.size + 1 + 1 ≠ _; omega), h3, (h4.kept q2 (.inr (fun e => hne (w.heap.size + 1 + 1 + 1) (by omega) e))).setOther _ _ (fun e => ?_), (h5.kept q2 (hne _ (by omega))).setI 7 _, (h6.kept q2 hap).setOther _ _ (fun e => ?_), hkr.set (by omega) 7 _, ?_, ?_⟩
  · have e2 : w.heap.size + 1 + 1 + 1 = w.heap.size + 1 + 1 := Option.some.inj e
    omega
  · have := h6.own_ge _ e
    have e2 : w.heap.size + 4 ≤ w.heap.size + 1 + 1 := this
    omega
  · rw [World.size_setCell]; exact Nat.le_trans h8 q2.size
  · exact (h9.grown q2 h9.size (fun x hx => by have := hlo x hx; omega)).setCell (by show w.heap.size ≤ w.heap.size + 1 + 1; omega) _
set_option linter.unusedSimpArgs false in
set_option maxHeartbeats 8000000 in
set_option maxRecDepth 100000 in
theorem rSort_obj (n : Nat) (IH : RSort n) (is neg : Bool) (digits : ByteArray) (exp : Int) (str : ByteArray) (keys : List ByteArray) (kids : List Tree) (h : (Tree.mk 6 is neg digits exp str keys kids).bulk ≤ n + 1) (hmax : (Tree.mk 6 is neg digits exp str keys kids).bulk ≤ 1048576)
    (hw : wholeT (.mk 6 is neg digits exp str keys kids)) (w : World) (cs : List Value) (hv : ValAt w (.mk 6 is neg digits exp str keys kids) cs) :
    Calls Tryd.prog 30 #[valV cs] w (CopyP (sortT (.mk 6 is neg digits exp str keys kids)) w) := by
  have hkb : bulkAll kids ≤ n ∧ bulkAll kids ≤ 1048576 ∧ ksBulk keys ≤ 1048576 := by simp only [Tree.bulk] at h hmax; omega
  simp only [ValAt] at hv
  obtain ⟨kv0, a, cap, rfl, hk, hl, hm, hnil, hx⟩ := hv
  obtain ⟨ka, kc, rfl, hkl0, hkm0, -⟩ := hk.len
  have hll := len_bulk kids
  have hlk := len_ks keys
  unfold maxLen at hm hkm0
  simp only [wholeT] at hw
  have HW := Lib.hid ((wholeAll_iff kids).1 hw.2)
  have HLEN := Lib.hid (hw.1.2.2.2.2.2.2.1 rfl)
  have HND := Lib.hid hw.1.2.2.2.2.2.2.2.2.2.2
  have hl1 : keys.length ≤ kids.length := Nat.le_of_eq HLEN.out
  have hl2 : kids.length ≤ keys.length := Nat.le_of_eq HLEN.out.symm
  obtain ⟨vs, hvs⟩ : ∃ vs, vs = sortAllT kids := ⟨_, rfl⟩
  have hsort : sortT (.mk 6 is neg digits exp str keys kids) = .mk 6 is neg digits exp str ((sortF (keys.zip vs)).map (·.1)) ((sortF (keys.zip vs)).map (·.2)) := by rw [sortT, if_pos rfl, hvs]
  rw [hsort]
  have HVS := Lib.hid hvs
  have HK := Lib.hid hk
  obtain ⟨i0, hi0, hi1⟩ := Option.map_eq_some_iff.1 Tryd.infoVal
  simp only [Prod.mk.injEq] at hi1
  obtain ⟨hz0, hz1, hz2⟩ := hi1
  obtain ⟨j0, hj0, hj1⟩ := Option.map_eq_some_iff.1 Tryd.infoInt
  simp only [Prod.mk.injEq] at hj1
  obtain ⟨hy0, hy1, hy2⟩ := hj1
  obtain ⟨s0, hs0, hs1⟩ := Option.map_eq_some_iff.1 Tryd.infoStr
  simp only [Prod.mk.injEq] at hs1
  obtain ⟨ht0, ht1, ht2⟩ := hs1
  simp only [valV]
  clear h hmax hw hsort hk hvs
  have hb0 : Below w.heap.size w (((w.alloc (.cells #[.int .i64 6, .bool is, .bool neg, .string digits, .int .i64 exp, .string str, .slice ka keys.length kc, .slice a kids.length cap] 27)).alloc (.cells #[.int .i64 0, .bool false, .bool false, .string ⟨#[]⟩, .int .i64 0, .string ⟨#[]⟩, .slice none 0 0, .slice none 0 0] 27)).alloc (.cells #[.int .i64 6, .bool is, .bool neg, .string digits, .int .i64 exp, .string str, .slice none 0 0, .slice none 0 0] 27)) := by (repeat' (first | (with_reducible refine Below.setCell ?_ ?_ _) | (with_reducible refine Below.alloc ?_ ?_ _) | (with_reducible refine Below.drew ?_) | (with_reducible assumption) | (with_reducible exact Below.refl _ _) | (simp only [World.size_alloc, World.size_setCell, World.size_drew]; done) | (simp only [World.size_alloc, World.size_setCell, World.size_drew]; omega) | omega))
  obtain ⟨hc0, hc1, hc2, hz3⟩ := three_new (w := w) (c1 := #[.int .i64 6, .bool is, .bool neg, .string digits, .int .i64 exp, .string str, .slice ka keys.length kc, .slice a kids.length cap]) (c2 := #[.int .i64 0, .bool false, .bool false, .string ⟨#[]⟩, .int .i64 0, .string ⟨#[]⟩, .slice none 0 0, .slice none 0 0]) (c3 := #[.int .i64 6, .bool is, .bool neg, .string digits, .int .i64 exp, .string str, .slice none 0 0, .slice none 0 0]) (T := 27) ⟨rfl, rfl, rfl, Nat.le_refl _, fun _ _ _ => rfl⟩
  have HS := Lib.hid (And.intro hb0 (And.intro hc0 (And.intro hc1 (And.intro hc2 hz3))))
  clear hb0 hc0 hc1 hc2 hz3
  go_enter Tryd.func30, Tryd.ntmps30
  go_wp2_with (with_reducible first | refine stop_append ?_ | refine stop_make ?_ | refine stop_slice ?_ | refine stop_copy ?_); refine Stop.out ?_
  refine wpList_make_full _ rfl _ _ 73 rfl (w.heap.size + 3) 3 j0 _ 1 Tryd.underlying73 hj0 hy0 hy1 _ _ keys.length keys.length keys.length rfl rfl rfl rfl (by rw [hy2]; omega) (by unfold maxLen; omega) (by simp) ?_
  intro w2 hown2 hg2
  simp only [World.size_alloc] at hown2 ⊢
  obtain ⟨hb0, hc0, hc1, hc2, hz3⟩ := HS.out
  have hz4 : w.heap.size + 1 + 1 + 1 < w2.heap.size := (World.ownsRow.lt hown2 _ rfl).2
  have hI : SelI w keys.length (w.heap.size + 1 + 1 + 1) #[.int .i64 6, .bool is, .bool neg, .string digits, .int .i64 exp, .string str, .slice ka keys.length kc, .slice a kids.length cap] is neg digits exp str keys vs [] w2 := by
    refine ⟨hc0.kept hg2 (by simp), hc1.kept hg2 (by simp), ⟨_, Flags.start _, ?_⟩, ⟨_, _, hc2.kept hg2 (by simp), OwnOf.nil, KidRow.nil _ _ _⟩, by omega, hb0.grown hg2 hb0.size (fun k e => by cases e)⟩
    unfold OwnOf
    rw [Nat.mul_one] at hown2
    rw [List.length_replicate, List.map_replicate]
    have e : (madeCells (Value.int IntKind.i64 0).cells keys.length).toList = List.replicate keys.length (Value.int .i64 0) := toList_madeCells_one _ _
    rw [← e]
    exact hown2
  have HI := Lib.hid hI
  clear hown2 hg2 hb0 hc0 hc1 hc2 hz3 hz4 hI HS
  have h2c := HI.out.1.cell 6 _ rfl
  go_wp2_with fail
  clear h2c
  go_loopw [46] (fun i wr => ∃ c rest, i = .int .i64 ((c.length : Nat) : Int) ∧ Sel keys c rest ∧ SelI w keys.length (w.heap.size + 1 + 1 + 1) #[.int .i64 6, .bool is, .bool neg, .string digits, .int .i64 exp, .string str, .slice ka keys.length kc, .slice a kids.length cap] is neg digits exp str keys vs c wr) (fun i _ => keys.length - (intOf i).toNat)
  case atStart => exact ⟨[], _, rfl, Sel.start keys, HI.out⟩
  case round =>
    clear HI
    obtain ⟨c, rest, rfl, hsel, hI⟩ := hrel
    obtain ⟨w3, rfl⟩ : ∃ w3, w3 = wr := ⟨_, rfl⟩
    have hlt3 := hsel.lt
    by_cases hr : rest = []
    · subst hr
      have hcl : c.length = keys.length := by have := hlt3.2.2; simpa using this
      have hdone := hsel.done (vs := vs) (by rw [HVS.out, sortAllT_len]; exact HLEN.out) HND.out
      obtain ⟨h1, h2, -, ⟨kv, v, h5, h6, h7⟩, h8, h9⟩ := hI
      have hval := sort_done (w := w) (kind := 6) (is := is) (neg := neg) (d := digits) (e := exp) (s := str) (h6.base_le (by omega)) (h7.lower (by omega)) [.int .i64 6, .bool is, .bool neg, .string digits, .int .i64 exp, .string str, kv, v]
      have e1 : c.map (keys[·]!) = (sortF (keys.zip vs)).map (·.1) := by rw [← hdone, List.map_map]; rfl
      have e2 : c.map (fun i => vs.getD i zeroT) = (sortF (keys.zip vs)).map (·.2) := by rw [← hdone, List.map_map]; rfl
      rw [e1, e2] at hval
      obtain ⟨a1, cap1, hv1, -⟩ := h6.row.len
      obtain ⟨a2, cap2, hv2, -⟩ := h7.cells
      subst hv1 hv2
      rw [e1, e2] at hval h5
      have HVAL := Lib.hid hval
      have HBE := Lib.hid (setAll_below (w.heap.size + 1) w.heap.size (Nat.le_succ _) [.int .i64 6, .bool is, .bool neg, .string digits, .int .i64 exp, .string str, .slice a1 ((sortF (keys.zip vs)).map (·.1)).length cap1, .slice a2 ((sortF (keys.zip vs)).map (·.2)).length cap2] 0 _ _ h9)
      have x0 := h1
      clear h7 IH hval h9 h6 hsel hdone e1 e2 hlt3
      generalize ((sortF (keys.zip vs)).map (·.1)).length = N1 at *
      generalize ((sortF (keys.zip vs)).map (·.2)).length = N2 at *
      have h1c0 := h1.cell 0 _ rfl
      have h1f0 := h1.frozen 0
      have h1c1 := h1.cell 1 _ rfl
      have h1f1 := h1.frozen 1
      have h1c2 := h1.cell 2 _ rfl
      have h1f2 := h1.frozen 2
      have h1c3 := h1.cell 3 _ rfl
      have h1f3 := h1.frozen 3
      have h1c4 := h1.cell 4 _ rfl
      have h1f4 := h1.frozen 4
      have h1c5 := h1.cell 5 _ rfl
      have h1f5 := h1.frozen 5
      have h1c6 := h1.cell 6 _ rfl
      have h1f6 := h1.frozen 6
      have h1c7 := h1.cell 7 _ rfl
      have h1f7 := h1.frozen 7
      have h2c0 := h2.cell 0 _ rfl
      have h2f0 := h2.frozen 0
      have h2c1 := h2.cell 1 _ rfl
      have h2f1 := h2.frozen 1
      have h2c2 := h2.cell 2 _ rfl
      have h2f2 := h2.frozen 2
      have h2c3 := h2.cell 3 _ rfl
      have h2f3 := h2.frozen 3
      have h2c4 := h2.cell 4 _ rfl
      have h2f4 := h2.frozen 4
      have h2c5 := h2.cell 5 _ rfl
      have h2f5 := h2.frozen 5
      have h2c6 := h2.cell 6 _ rfl
      have h2f6 := h2.frozen 6
      have h2c7 := h2.cell 7 _ rfl
      have h2f7 := h2.frozen 7
      have h5c0 := h5.cell 0 _ rfl
      have h5f0 := h5.frozen 0
      have h5c1 := h5.cell 1 _ rfl
      have h5f1 := h5.frozen 1
      have h5c2 := h5.cell 2 _ rfl
      have h5f2 := h5.frozen 2
      have h5c3 := h5.cell 3 _ rfl
      have h5f3 := h5.frozen 3
      have h5c4 := h5.cell 4 _ rfl
      have h5f4 := h5.frozen 4
      have h5c5 := h5.cell 5 _ rfl
      have h5f5 := h5.frozen 5
      have h5c6 := h5.cell 6 _ rfl
      have h5f6 := h5.frozen 6
      have h5c7 := h5.cell 7 _ rfl
      have h5f7 := h5.frozen 7
      clear h1 h2 h5 x0
      go_wp2_with fail
      refine bodyPost_ret (v := .agg #[.int .i64 6, .bool is, .bool neg, .string digits, .int .i64 exp, .string str, .slice a1 N1 cap1, .slice a2 N2 cap2]) (by simp [results, Tryd.results30, go_sem, *]) rfl ?_
      exact ⟨⟨_, rfl, HVAL.out⟩, HBE.out⟩
    · have hrl : 0 < rest.length := List.length_pos_iff.2 hr
      have hcl : c.length < keys.length := by omega
      have HSEL := Lib.hid hsel
      have HI3 := Lib.hid hI
      have HLT := Lib.hid hlt3
      clear hsel hI hlt3
      go_wp2_with fail
      go_loopw [6, 7] (fun b i wr => ∃ bi : Int, ∃ j : Nat, j ≤ keys.length ∧ b = .int .i64 bi ∧ i = .int .i64 (j : Int) ∧ Best keys rest j bi ∧ Below w3.heap.size w3 wr) (fun _ i _ => keys.length - (intOf i).toNat)
      case atStart => exact ⟨-1, 0, Nat.zero_le _, rfl, rfl, Best.start _ _, Below.refl _ _⟩
      case round =>
        obtain ⟨bi, j, hj, rfl, rfl, hbest, hbl⟩ := hrel
        have HB := Lib.hid hbest
        obtain ⟨h1, h2, ⟨fl, h3, h4⟩, h5⟩ := HI3.out.below hbl
        have hx6 := h1.cell 6 _ rfl
        have hx6l := h1.lt
        by_cases hjl : j < keys.length
        · have hfl : j < fl.length := by rw [h3.1]; exact hjl
          have hgj := h4.cellAt j hfl
          rw [h3.2 j hfl] at hgj
          have hGl := World.block_lt_of_cell? wr _ hgj
          have HBL := Lib.hid hbl
          obtain ⟨ba, oa, rfl, hba, hkc⟩ := (HK.out.below (HI3.out.below hbl).2.2.2.2.2 (Nat.le_refl _)).at hjl
          rcases HSEL.out.has hjl with ⟨hin, hnot⟩ | ⟨hnot, hin⟩
          · rw [if_pos hin] at hgj
            have HN := Lib.hid (HB.out.gone hnot)
            clear hkc hbest h1 h2 h3 h4 h5 hin hnot hbl HB
            go_wp2_with fail
            go_quiet (fail)
            all_goals
              go_wp2
              go_roundw
            case rel => exact ⟨bi, j + 1, hjl, rfl, by go_num, HN.out, HBL.out.trans (below_draws w3.heap.size wr _)⟩
            case measure => simp [intOf]; omega
          · rw [if_neg hnot] at hgj
            by_cases hb1 : bi = -1
            · subst hb1
              have HN := Lib.hid (HB.out.first hin)
              clear hkc hbest h1 h2 h3 h4 h5 hin hnot hbl HB
              go_wp2_with fail
              go_quiet (fail)
              all_goals
                go_wp2
                go_roundw
              case rel => exact ⟨j, j + 1, hjl, rfl, by go_num, HN.out, HBL.out.trans (below_draws w3.heap.size wr _)⟩
              case measure => simp [intOf]; omega
            · obtain ⟨m, rfl, hm1, hm2⟩ : ∃ m : Nat, bi = m ∧ m ∈ rest ∧ m < j := by
                rcases hbest with ⟨e, _⟩ | ⟨m, e, e1, e2, _⟩
                · exact absurd e hb1
                · exact ⟨m, e, e1, e2⟩
              have hml : m < keys.length := by omega
              have kj := hkc j hjl
              have km := hkc m hml
              have ej : keys[j]! = keys[j] := getElem!_pos keys j hjl
              have em : keys[m]! = keys[m] := getElem!_pos keys m hml
              cases hcmp : ltK keys[j] keys[m]
              · have hlb : Op.bytesLess keys[j].toList keys[m].toList = false := by rw [lessB_str]; exact hcmp
                have HN := Lib.hid (HB.out.more (by rw [ej, em]; exact hcmp) HND.out hjl hml)
                clear hkc hbest h1 h2 h3 h4 h5 hin hnot hbl HB ej em hcmp hb1 hm1
                generalize keys[j] = x at *
                generalize keys[m] = y at *
                go_wp2_with fail
                go_quiet (fail)
                all_goals
                  go_wp2
                  go_roundw
                case rel => exact ⟨m, j + 1, hjl, rfl, by go_num, HN.out, HBL.out.trans (below_draws w3.heap.size wr _)⟩
                case measure => simp [intOf]; omega
              · have hlb : Op.bytesLess keys[j].toList keys[m].toList = true := by rw [lessB_str]; exact hcmp
                have HN := Lib.hid (HB.out.less hin (by rw [ej, em]; exact hcmp))
                clear hkc hbest h1 h2 h3 h4 h5 hin hnot hbl HB ej em hcmp hb1 hm1
                generalize keys[j] = x at *
                generalize keys[m] = y at *
                go_wp2_with fail
                go_quiet (fail)
                all_goals
                  go_wp2
                  go_roundw
                case rel => exact ⟨j, j + 1, hjl, rfl, by go_num, HN.out, HBL.out.trans (below_draws w3.heap.size wr _)⟩
                case measure => simp [intOf]; omega
        · obtain rfl : j = keys.length := by omega
          obtain ⟨m, rfl, hmr, hmin⟩ := HB.out.done HLT.out.2.1 hr
          have hml := HLT.out.2.1 m hmr
          obtain ⟨w4, rfl⟩ : ∃ w4, w4 = wr := ⟨_, rfl⟩
          have HSEL2 := Lib.hid (HSEL.out.step hmr hmin)
          have HI4 := Lib.hid (HI3.out.below hbl)
          clear HB hmr hmin hbest hbl h4 h5 fl h3
          obtain ⟨-, -, ⟨fl, h3, h4⟩, ⟨kv, v, h5, h6, h7⟩, h8, h9⟩ := HI4.out
          have hfl : m < fl.length := by rw [h3.1]; exact hml
          have hgm := h4.cellAt m hfl
          have hgf := h4.frozenAt m
          have hGl := World.block_lt_of_cell? w4 _ hgm
          have hkvb := h6.own_ge
          have H5 : Cells (w4.setCell ⟨w.heap.size + 1 + 1 + 1, m, none⟩ (.int .i64 1)) w.heap.size #[.int .i64 6, .bool is, .bool neg, .string digits, .int .i64 exp, .string str, .slice ka keys.length kc, .slice a kids.length cap] 27 ∧ Cells (w4.setCell ⟨w.heap.size + 1 + 1 + 1, m, none⟩ (.int .i64 1)) (w.heap.size + 1) #[.int .i64 0, .bool false, .bool false, .string ⟨#[]⟩, .int .i64 0, .string ⟨#[]⟩, .slice none 0 0, .slice none 0 0] 27 ∧ Flags keys.length (c ++ [m]) (fl.set m 1) ∧
              OwnOf (Value.int .i64) 3 (w.heap.size + 3) (w4.setCell ⟨w.heap.size + 1 + 1 + 1, m, none⟩ (.int .i64 1)) (.slice (some ⟨w.heap.size + 1 + 1 + 1, 0, none⟩) keys.length keys.length) (fl.set m 1) ∧
              Cells (w4.setCell ⟨w.heap.size + 1 + 1 + 1, m, none⟩ (.int .i64 1)) (w.heap.size + 1 + 1) #[.int .i64 6, .bool is, .bool neg, .string digits, .int .i64 exp, .string str, kv, v] 27 ∧
              OwnOf Value.string 9 (w.heap.size + 4) (w4.setCell ⟨w.heap.size + 1 + 1 + 1, m, none⟩ (.int .i64 1)) kv (c.map (keys[·]!)) ∧ KidRow (w.heap.size + 4) (w4.setCell ⟨w.heap.size + 1 + 1 + 1, m, none⟩ (.int .i64 1)) v kv (c.map (fun i => vs.getD i zeroT)) ∧ w.heap.size + 4 ≤ (w4.setCell ⟨w.heap.size + 1 + 1 + 1, m, none⟩ (.int .i64 1)).heap.size ∧ Below w.heap.size w (w4.setCell ⟨w.heap.size + 1 + 1 + 1, m, none⟩ (.int .i64 1)) :=
            ⟨HI4.out.1.setOther _ _ (by show w.heap.size + 1 + 1 + 1 ≠ _; omega), HI4.out.2.1.setOther _ _ (by show w.heap.size + 1 + 1 + 1 ≠ _; omega), h3.step m, h4.stored m 1, h5.setOther _ _ (by show w.heap.size + 1 + 1 + 1 ≠ _; omega), h6.setOther _ _ (fun e => by have this : w.heap.size + 4 ≤ w.heap.size + 1 + 1 + 1 := hkvb _ e; omega), h7.set (by omega) _ _, by rw [World.size_setCell]; exact h8, h9.setCell (by show w.heap.size ≤ w.heap.size + 1 + 1 + 1; omega) _⟩
          have HH5 := Lib.hid H5
          have hx6 := h1.cell 6 _ rfl
          have hx6l := h1.lt
          clear H5 h1 h2 h4 h5 h6 h7 h9
          go_wp2_with fail
          generalize w4.setCell ⟨w.heap.size + 1 + 1 + 1, m, none⟩ (.int .i64 1) = w5 at *
          obtain ⟨h1, h2, h3', h4, h5, h6, h7, h8', h9⟩ := HH5.out
          obtain ⟨ba, oa, rfl, hba, hkc⟩ := (HK.out.below h9 (Nat.le_refl _)).at hml
          have km := hkc m hml
          have ekm : keys[m]! = keys[m] := getElem!_pos keys m hml
          have HEK := Lib.hid ekm
          have hz5l : c.length ≤ 1048576 := by omega
          have z0 := h1.lt
          have z2 := h5.lt
          have hbal : ba < w.heap.size := HK.out.block_lt (by intro e; rw [e] at hml; simp at hml) ba rfl
          have c06 := h1.cell 6 _ rfl
          have o6 := h5.cell 6 _ rfl
          have hs1 : w5.cell? ⟨w.heap.size, 6, none⟩ = some (.slice (some ⟨ba, oa, none⟩) keys.length kc) ∧ w5.cell? ⟨ba, oa + m, none⟩ = some (.string keys[m]) := ⟨c06, km⟩
          have hkl6 := h6.own_ge
          have HKEY : Hid ((c ++ [m]).map (keys[·]!) = c.map (keys[·]!) ++ [keys[m]]) := Lib.hid (by rw [List.map_append, ← ekm]; rfl)
          clear hkc ekm
          generalize keys[m] = key at *
          have HOW6 : Hid (w5.ownsRow (w.heap.size + 4) 9 1 kv c.length ((c.map (keys[·]!)).map Value.string)) := Lib.hid (by have h6' := h6; unfold OwnOf at h6'; rwa [List.length_map] at h6')
          clear h6 h7 h4
          go_region_law (first
            | (refine step_append_lies _ rfl _ _ 24 rfl (w.heap.size + 4) 9 s0 _ 1 16 Tryd.underlying24 hs0 ht0 ht1 ht2 rfl (by decide) kv c.length ((c.map (keys[·]!)).map Value.string) (by rfl) (by exact (show (w5.alloc (.cells #[.string key] 9)).ownsRow _ _ _ _ _ _ from World.ownsRow.alloc HOW6.out _)) ⟨w5.heap.size, 0, none⟩ 1 1 [.string key] (by rfl) rfl (by intro j u hu; rw [Addr.add_lit, Nat.zero_add]; first | (rw [World.cell?_alloc_new]; simpa using hu) | (show (w5.alloc (.cells #[.string key] 9)).cell? _ = _; rw [World.cell?_alloc_new]; simpa using hu)) (by intro u hu; simp at hu; subst hu; rfl) (by omega) (by unfold maxLen; omega) (by omega) (by simp; omega) _ rfl ?_; intro g6 cap6 w6 hown6 hgrow6 hat6 hlt6; have hx2 := (h5.alloc (.cells #[.string key] 9)).drew.kept hgrow6 (fun e => by have := hkl6 _ e.symm; omega); have o6f := hx2.frozen 6; have o6c := hx2.cell 6 _ rfl; have hs2 : w6.cell? ⟨w.heap.size, 6, none⟩ = some (.slice (some ⟨ba, oa, none⟩) keys.length kc) ∧ w6.cell? ⟨ba, oa + m, none⟩ = some (.string key) := ⟨((h1.alloc (.cells #[.string key] 9)).drew.kept hgrow6 (fun e => by have := hkl6 _ e.symm; omega)).cell 6 _ rfl, (cell_same (hgrow6.block ba (by simp; omega) (fun e => by have := hkl6 _ e.symm; omega)) _).trans ((cell_same (Below.heap_alloc w5 (.cells #[.string key] 9) ba (by omega)) _).trans hs1.2)⟩; have HG6 := Lib.hid (And.intro hown6 (And.intro hgrow6 (And.intro hat6 hlt6))); clear hown6 hgrow6 hat6 hx2))
          all_goals
            have hM := SelM.keys (w := w) (k := c.length) (wA := (w5.alloc (.cells #[.string key] 9)).drew) (key := key) (SelM.below (show SelM w keys.length #[.int .i64 6, .bool is, .bool neg, .string digits, .int .i64 exp, .string str, .slice (some ⟨ba, oa, none⟩) keys.length kc, .slice a kids.length cap] is neg digits exp str _ kv v _ _ (c ++ [m]) w5 from HH5.out) (((Below.refl _ w5).alloc (Nat.le_refl _) _).drew)) (by rw [List.length_map]) HG6.out.1 HG6.out.2.1 HG6.out.2.2.1
            rw [← HKEY.out] at hM
            have HM := Lib.hid hM
            clear hM HG6 HH5 HOW6 hs1 hs2 o6 o6c o6f c06 km h1 h2 h3' h5 h9 h8' hkl6 hgm hgf h3 hkvb h8 hx6
            go_wp2_with fail
            generalize w6.setCell ⟨w.heap.size + 1 + 1, 6, none⟩ (Value.slice (some ⟨g6, 0, none⟩) (c.length + 1) cap6) = w7 at *
            obtain ⟨n1, n2, n3, n4, n5, n6, n7, n8, n9⟩ := HM.out
            have hmk : m < kids.length := by omega
            have hne : kids ≠ [] := by intro h0; rw [h0] at hmk; simp at hmk
            cases a with
            | none => have := hnil rfl; omega
            | some x =>
            obtain ⟨bb, off, sp⟩ := x
            obtain ⟨rfl, hlt, hkids⟩ := hx _ rfl hne
            simp only at hlt hkids
            obtain ⟨kc0, hkc, hkv⟩ := KidsAt.get (KidsAt.below n9 hlt kids _ hkids) m hmk
            obtain ⟨kkind, kis, kneg, kdig, kexp, kstr, kka, kkn, kkc, ksa, ksn, ksc, rfl, m0, m1, m2, m3, m4, m5, m6, m7⟩ := kid_at hkv hkc
            have hr1 := Nat.lt_of_lt_of_le hlt n9.size
            have hC := IH kids[m] (by have := bulk_kid hmk; omega) (by have := bulk_kid hmk; omega) (HW.out m hmk) w7.drew _ (ValAt.below (Below.refl _ w7).drew _ _ hkv)
            have HTK : Hid ((c ++ [m]).map (fun i => vs.getD i zeroT) = c.map (fun i => vs.getD i zeroT) ++ [sortT kids[m]]) := Lib.hid (by
              rw [List.map_append, List.map_cons, List.map_nil]
              have hm2 : m < (sortAllT kids).length := by rw [sortAllT_len]; exact hmk
              rw [HVS.out, List.getD_eq_getElem?_getD, List.getElem?_eq_getElem hm2]
              simp only [sortAllT_map, List.getElem_map, Option.getD_some])
            obtain ⟨L, hL1, hL2, hL3⟩ := n7
            have hLk : L.length = c.length := by have := congrArg List.length hL1; simpa using this
            have hvl := fun g hg => (World.ownsRow.lt hL3 g hg).2
            have hvb := fun g hg => (World.ownsRow.lt hL3 g hg).1
            have hg6l := fun g hg => (World.ownsRow.lt n6 g hg).2
            have HL := Lib.hid (And.intro hL1 (And.intro hL2 hL3))
            have HN5 := Lib.hid n5
            have hy0 := n1.lt
            have hy2 := n5.lt
            have hcc7 := n1.cell 7 _ rfl
            have o7 := n5.cell 7 _ rfl
            clear hkids hkc hkv hL1 hL2 hL3 n1 n2 n3 n4 n5 n6
            generalize kids[m] = kid at *
            simp only [valV] at hC
            have hs1 : RdS w.heap.size bb (off + m * 8) (.slice (some ⟨bb, off, none⟩) kids.length cap) (.int .i64 kkind) (.bool kis) (.bool kneg) (.string kdig) (.int .i64 kexp) (.string kstr) (.slice kka kkn kkc) (.slice ksa ksn ksc) w7 := ⟨hcc7, m0, m1, m2, m3, m4, m5, m6, m7⟩
            go_wp2_with fail
            go_region_law (first
              | (go_simp; go_at_call 30; refine hC.mono ?_; rintro e w8 ⟨⟨cs2, rfl, hin⟩, hb2⟩; obtain ⟨kind3, is3, neg3, dig3, exp3, str3, ka3, kn3, kc3, sa3, sn3, sc3, rfl⟩ := ValIn.shape hin; have HIN := Lib.hid hin; have hs2 := hs1.move (W' := w8) (hb2.block _ hy0) (hb2.block _ hr1); have o7b := ((HN5.out.drew).below hb2 hy2).cell 7 _ rfl; have hz2b : w7.heap.size ≤ w8.heap.size := hb2.size; have hy2b : w.heap.size + 1 + 1 < w8.heap.size := Nat.lt_of_lt_of_le hy2 hz2b; have hy2c : ¬ w8.heap.size = w.heap.size + 1 + 1 := (by omega); have hy2d : ¬ w.heap.size + 1 + 1 = w8.heap.size := (by omega); have HB2 := Lib.hid hb2; have HOW2 := Lib.hid (own_keeps HL.out.2.2 (fun g hg => hb2.block g (hvl g hg))); have hs3 := hs2.move (W' := w8.alloc (.cells #[.int .i64 kind3, .bool is3, .bool neg3, .string dig3, .int .i64 exp3, .string str3, .slice ka3 kn3 kc3, .slice sa3 sn3 sc3] 27)) (Below.heap_alloc _ _ _ (by omega)) (Below.heap_alloc _ _ _ (by omega)); clear hin hb2; simp only [valV])
              | (refine step_append_lies _ rfl _ _ 25 rfl (w.heap.size + 4) 27 i0 _ 8 112 Tryd.underlying25 hi0 hz0 hz1 hz2 rfl (by decide) v L.length (L.flatMap (·.2)) (by rfl) (by exact World.ownsRow.alloc HOW2.out _) ⟨w8.heap.size, 0, none⟩ 1 1 [.int .i64 kind3, .bool is3, .bool neg3, .string dig3, .int .i64 exp3, .string str3, .slice ka3 kn3 kc3, .slice sa3 sn3 sc3] (by rfl) rfl (by intro j u hu; rw [Addr.add_lit, Nat.zero_add, World.cell?_alloc_new]; simpa using hu) (cells8_one _ _ _ _ _ _ _ _ _ _ _ _) (by omega) (by unfold maxLen; omega) (by omega) (by simp; omega) _ rfl ?_; intro g9 cap9 w9 hown9 hgrow9 hat9 hlt9; have hx2 := (((HN5.out.drew).below HB2.out hy2).alloc (.cells #[.int .i64 kind3, .bool is3, .bool neg3, .string dig3, .int .i64 exp3, .string str3, .slice ka3 kn3 kc3, .slice sa3 sn3 sc3] 27)).kept hgrow9 (fun e => by have := hvb _ e.symm; omega); have hs4 := hs3.move (W' := w9) (hgrow9.block _ (by simp; omega) (fun e => by have := hvb _ e.symm; omega)) (hgrow9.block _ (by simp; omega) (fun e => by have := hvb _ e.symm; omega)); have o7f := hx2.frozen 7; have o7c := hx2.cell 7 _ rfl; have HG := Lib.hid (And.intro hown9 (And.intro hgrow9 hat9)); clear hown9 hgrow9 hat9 hx2))
            all_goals
              have hbA : Below w7.heap.size w7 (w8.alloc (.cells #[.int .i64 kind3, .bool is3, .bool neg3, .string dig3, .int .i64 exp3, .string str3, .slice ka3 kn3 kc3, .slice sa3 sn3 sc3] 27)) := (Below.refl _ w7).drew.trans ((HB2.out.trans ((Below.refl _ w8).alloc (Nat.le_refl _) (.cells #[.int .i64 kind3, .bool is3, .bool neg3, .string dig3, .int .i64 exp3, .string str3, .slice ka3 kn3 kc3, .slice sa3 sn3 sc3] 27) |>.mono hz2b)))
              have hbB : Below w8.heap.size w8 (w8.alloc (.cells #[.int .i64 kind3, .bool is3, .bool neg3, .string dig3, .int .i64 exp3, .string str3, .slice ka3 kn3 kc3, .slice sa3 sn3 sc3] 27)) := (Below.refl _ w8).alloc (Nat.le_refl _) _
              have hK := SelM.kids (w := w) (k := c.length) (t := sortT kid) (cs := [.int .i64 kind3, .bool is3, .bool neg3, .string dig3, .int .i64 exp3, .string str3, .slice ka3 kn3 kc3, .slice sa3 sn3 sc3]) (HM.out.below hbA) HL.out.1 hLk (fun s hs => ValIn.below hbA _ _ (HL.out.2.1 s hs)) (World.ownsRow.alloc HOW2.out _) (ValIn.below hbB _ _ (ValIn.out HIN.out (by show w.heap.size + 4 ≤ w7.heap.size; omega) hvl hg6l)) (by have q := HG.out.1; rw [hLk] at q; exact q) HG.out.2.1 HG.out.2.2
              rw [← HTK.out] at hK
              have HKK := Lib.hid hK
              clear hbA hbB hK
              go_wp2_with fail
              go_roundw
            all_goals first
              | (obtain ⟨y1, y2, y3, y4, y5, y6, y7, y8, y9⟩ := HKK.out; exact ⟨c ++ [m], _, by simp, HSEL2.out, y1, y2, ⟨_, y3, y4⟩, ⟨_, _, y5, y6, y7⟩, y8, y9⟩)
              | (simp [intOf]; omega)
end Go.Proofs.YtpcfhiipkbpmkaaDoor
