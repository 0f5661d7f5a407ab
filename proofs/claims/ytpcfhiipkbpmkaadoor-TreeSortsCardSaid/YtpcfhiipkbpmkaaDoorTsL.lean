/- The order of fields by their keys, and what slices.SortFunc does with it (layer 8). -/
import Derived.Test.YtpcfhiipkbpmkaaDoorTsS
import Derived.Test.YtpcfhiipkbpmkaaDoorTsP
import Derived.Test.YtpcfhiipkbpmkaaDoorTsK
namespace Go.Proofs.YtpcfhiipkbpmkaaDoor
open Go.RowKit Go.Tab Go.Sort Go.Shelf

/-- A field: a key and a value's eight cells; the tree that they are. -/
structure F9 where
  key : ByteArray
  t : Tree
  kind : Int
  is : Bool
  neg : Bool
  dig : ByteArray
  exp : Int
  str : ByteArray
  ka : Option Addr
  kn : Nat
  kc : Nat
  sa : Option Addr
  sn : Nat
  sc : Nat
def F9.zero : F9 := ⟨⟨#[]⟩, zeroT, 0, false, false, ⟨#[]⟩, 0, ⟨#[]⟩, none, 0, 0, none, 0, 0⟩
instance : Inhabited F9 := ⟨F9.zero⟩
def F9.cells (x : F9) : List Value := [.int .i64 x.kind, .bool x.is, .bool x.neg, .string x.dig, .int .i64 x.exp, .string x.str, .slice x.ka x.kn x.kc, .slice x.sa x.sn x.sc]
def F9.enc (x : F9) : List Value := [.string x.key, .int .i64 x.kind, .bool x.is, .bool x.neg, .string x.dig, .int .i64 x.exp, .string x.str, .slice x.ka x.kn x.kc, .slice x.sa x.sn x.sc]
def F9.fld (x : F9) : Fld := (x.key, x.t)
def cmpF (x y : F9) : Int := Lib.compareBytes x.key.data.toList y.key.data.toList

theorem cmpB_less : ∀ (l m : List UInt8), decide (Lib.compareBytes l m < 0) = lessN (l.map UInt8.toNat) (m.map UInt8.toNat)
  | [], [] => by simp [Lib.compareBytes, lessN]
  | [], _ :: _ => by simp [Lib.compareBytes, lessN]
  | _ :: _, [] => by simp [Lib.compareBytes, lessN]
  | a :: l, b :: m => by
    have ih := cmpB_less l m
    have e0 : Lib.compareBytes (a :: l) (b :: m) = if a < b then -1 else if b < a then 1 else Lib.compareBytes l m := rfl
    have e1 : (a < b) ↔ a.toNat < b.toNat := UInt8.lt_iff_toNat_lt
    have e2 : (b < a) ↔ b.toNat < a.toNat := UInt8.lt_iff_toNat_lt
    simp only [List.map_cons, lessN]
    by_cases h1 : a < b
    · have e3 : Lib.compareBytes (a :: l) (b :: m) = -1 := by rw [e0, if_pos h1]
      rw [e3, decide_eq_true (e1.1 h1)]; rfl
    · have g1 : ¬ a.toNat < b.toNat := fun h => h1 (e1.2 h)
      by_cases h2 : b < a
      · have e3 : Lib.compareBytes (a :: l) (b :: m) = 1 := by rw [e0, if_neg h1, if_pos h2]
        have := e2.1 h2
        rw [e3, decide_eq_false g1, decide_eq_false (by omega : ¬ a.toNat = b.toNat)]
        rfl
      · have e3 : Lib.compareBytes (a :: l) (b :: m) = Lib.compareBytes l m := by rw [e0, if_neg h1, if_neg h2]
        have g2 : ¬ b.toNat < a.toNat := fun h => h2 (e2.2 h)
        rw [e3, ih, decide_eq_false g1, decide_eq_true (by omega : a.toNat = b.toNat)]
        rfl
theorem ltF (x y : F9) : ltOf cmpF x y = ltK x.key y.key := cmpB_less _ _
theorem swoF : SWO (ltOf cmpF) where
  irrefl x := by rw [ltF]; exact ltK_irr _
  trans x y z h1 h2 := by rw [ltF] at *; exact ltK_trans h1 h2
  ntrans x y z h1 h2 := by
    rw [ltF] at *
    cases h3 : ltK x.key z.key
    · rfl
    · cases h4 : ltK y.key x.key
      · rw [ltK_conn h1 h4] at h3; rw [h3] at h2; cases h2
      · have := ltK_trans h4 h3; rw [this] at h2; cases h2

/-- A list sorted so is the one that the plain law tells. -/
theorem sorted_fld {d d' : Array F9} (hp : PermIn 0 d.size d d') (hs : SortedIn (ltOf cmpF) 0 d.size d') (hn : (d.toList.map (·.key)).Nodup) :
    d'.toList.Perm d.toList ∧ d'.toList.map F9.fld = sortF (d.toList.map F9.fld) := by
  obtain ⟨p1, p2, p3⟩ := hp
  have e1 : d'.extract 0 d.size = d' := by rw [← p1]; exact Array.extract_size
  have e2 : d.extract 0 d.size = d := Array.extract_size
  rw [e1, e2] at p3
  refine ⟨p3, sortF_eq ?_ (p3.map F9.fld) ?_⟩
  · unfold Rising
    rw [List.pairwise_map, List.pairwise_iff_getElem]
    intro i j hi hj hij
    have hi' : i < d'.size := by simpa using hi
    have hj' : j < d'.size := by simpa using hj
    have h := hs i j (Nat.zero_le _) hij (by omega)
    rw [ltF, getElem!_pos d' i hi', getElem!_pos d' j hj'] at h
    have hn2 : (d'.toList.map (·.key)).Nodup := ((p3.map (·.key)).nodup_iff).2 hn
    cases h3 : ltK d'[i].key d'[j].key
    · have e := ltK_conn h3 h
      have := (List.getElem_inj (xs := d'.toList.map (·.key)) (i := i) (j := j) (h₀ := by simpa using hi') (h₁ := by simpa using hj') hn2).1 (by simpa using e)
      omega
    · simpa [F9.fld] using h3
  · rw [List.map_map]
    exact hn

set_option maxHeartbeats 800000 in
set_option maxRecDepth 100000 in
theorem text_any (x : F9) (w : World) : Calls Tryd.prog 83 #[.agg x.enc.toArray] w fun e w' => e = .returned (.string x.key) ∧ ∃ q os', w' = grow (w.drewN q) os' := by
  obtain ⟨key, t, kind, is, neg, dig, exp, str, ka, kn, kc, sa, sn, sc⟩ := x
  simp only [F9.enc]
  go_enter Tryd.func83, Tryd.ntmps83
  go_wp2
  go_ret
  exact ⟨rfl, 0, _, by rw [alloc_eq_grow]; rfl⟩
theorem comp_any (a b : ByteArray) (w : World) : Calls Tryd.prog 74 #[.string a, .string b] w fun e w' => e = .returned (.int .i64 (Lib.compareBytes a.data.toList b.data.toList)) ∧ ∃ q os', w' = grow (w.drewN q) os' :=
  (Any.strings_Compare Tryd.strsCompare a b w).mono fun _ _ ⟨he, hw⟩ => ⟨he, 0, #[], by rw [hw, grow_empty]; rfl⟩

theorem grown_two (w : World) (o1 o2 : Obj) (n : Nat) (os : Array Obj) : ∃ q os', grow (((w.alloc o1).alloc o2).drewN n) os = grow (w.drewN q) os' :=
  ⟨n, #[o1] ++ #[o2] ++ os, by rw [alloc_eq_grow, alloc_eq_grow, grow_grow]; show grow (grow (w.drewN n) _) os = _; rw [grow_grow]⟩
set_option maxHeartbeats 800000 in
set_option maxRecDepth 100000 in
theorem cmp_any (X : Nat) (x y : F9) (w : World) (hX : w.cell? ⟨X, 0, none⟩ = some (.func (.func 83) #[] #[])) :
    Calls Tryd.prog 114 #[.agg x.enc.toArray, .agg y.enc.toArray, .pointer (some ⟨X, 0, none⟩)] w fun e w' => e = .returned (.int .i64 (cmpF x y)) ∧ ∃ q os', w' = grow (w.drewN q) os' := by
  have hT1 := text_any x
  have hT2 := text_any y
  have hC := comp_any x.key y.key
  have hXl := World.block_lt_of_cell? w _ hX
  unfold cmpF
  generalize Lib.compareBytes x.key.data.toList y.key.data.toList = r at *
  obtain ⟨key, t, kind, is, neg, dig, exp, str, ka, kn, kc, sa, sn, sc⟩ := x
  obtain ⟨key2, t2, kind2, is2, neg2, dig2, exp2, str2, ka2, kn2, kc2, sa2, sn2, sc2⟩ := y
  simp only [F9.enc] at hT1 hT2 hC ⊢
  have b1 := (Cells.new w #[.string key, .int .i64 kind, .bool is, .bool neg, .string dig, .int .i64 exp, .string str, .slice ka kn kc, .slice sa sn sc] 97).alloc (.cells #[.string key2, .int .i64 kind2, .bool is2, .bool neg2, .string dig2, .int .i64 exp2, .string str2, .slice ka2 kn2 kc2, .slice sa2 sn2 sc2] 97)
  have b2 := Cells.new (w.alloc (.cells #[.string key, .int .i64 kind, .bool is, .bool neg, .string dig, .int .i64 exp, .string str, .slice ka kn kc, .slice sa sn sc] 97)) #[.string key2, .int .i64 kind2, .bool is2, .bool neg2, .string dig2, .int .i64 exp2, .string str2, .slice ka2 kn2 kc2, .slice sa2 sn2 sc2] 97
  have hX1 : ((w.alloc (.cells #[.string key, .int .i64 kind, .bool is, .bool neg, .string dig, .int .i64 exp, .string str, .slice ka kn kc, .slice sa sn sc] 97)).alloc (.cells #[.string key2, .int .i64 kind2, .bool is2, .bool neg2, .string dig2, .int .i64 exp2, .string str2, .slice ka2 kn2 kc2, .slice sa2 sn2 sc2] 97)).cell? ⟨X, 0, none⟩ = some (.func (.func 83) #[] #[]) :=
    (((Below.refl _ w).alloc (Nat.le_refl _) _).alloc (by simp) _).cell (p := ⟨X, 0, none⟩) hXl |>.trans hX
  have hw2 : ∃ w2, w2 = (w.alloc (.cells #[.string key, .int .i64 kind, .bool is, .bool neg, .string dig, .int .i64 exp, .string str, .slice ka kn kc, .slice sa sn sc] 97)).alloc (.cells #[.string key2, .int .i64 kind2, .bool is2, .bool neg2, .string dig2, .int .i64 exp2, .string str2, .slice ka2 kn2 kc2, .slice sa2 sn2 sc2] 97) := ⟨_, rfl⟩
  obtain ⟨w2, hw2⟩ := hw2
  have HW := Lib.hid hw2
  simp only [World.size_alloc] at b2
  go_enter Tryd.func114, Tryd.ntmps114
  go_wp2_with fail
  rw [← hw2] at b1 b2 hX1 ⊢
  clear hw2
  have mixed : Tryd.prog.follows .mixedOrders = true := by kernel_rfl
  have hXg := cell_grown (World.block_lt_of_cell? _ _ hX1) hX1
  have p0 := cell_grown (b1.lt) ((b1).cell 0 _ rfl)
  have p1 := cell_grown (b1.lt) ((b1).cell 1 _ rfl)
  have p2 := cell_grown (b1.lt) ((b1).cell 2 _ rfl)
  have p3 := cell_grown (b1.lt) ((b1).cell 3 _ rfl)
  have p4 := cell_grown (b1.lt) ((b1).cell 4 _ rfl)
  have p5 := cell_grown (b1.lt) ((b1).cell 5 _ rfl)
  have p6 := cell_grown (b1.lt) ((b1).cell 6 _ rfl)
  have p7 := cell_grown (b1.lt) ((b1).cell 7 _ rfl)
  have p8 := cell_grown (b1.lt) ((b1).cell 8 _ rfl)
  have q0 := cell_grown (b2.lt) ((b2).cell 0 _ rfl)
  have q1 := cell_grown (b2.lt) ((b2).cell 1 _ rfl)
  have q2 := cell_grown (b2.lt) ((b2).cell 2 _ rfl)
  have q3 := cell_grown (b2.lt) ((b2).cell 3 _ rfl)
  have q4 := cell_grown (b2.lt) ((b2).cell 4 _ rfl)
  have q5 := cell_grown (b2.lt) ((b2).cell 5 _ rfl)
  have q6 := cell_grown (b2.lt) ((b2).cell 6 _ rfl)
  have q7 := cell_grown (b2.lt) ((b2).cell 7 _ rfl)
  have q8 := cell_grown (b2.lt) ((b2).cell 8 _ rfl)
  clear b1 b2 hX1 hX hXl
  go_quiet_grown (first | (go_at_call 83; first | exact Calls.grown_of (hT1 _) | exact Calls.grown_of (hT2 _)) | (go_at_call 74; exact Calls.grown_of (hC _)))
  go_wp2
  go_ret
  exact ⟨rfl, by rw [HW.out]; exact grown_two _ _ _ _ _⟩

theorem old_putRow {α : Type} [Inhabited α] (enc : α → List Value) (k : Nat) (w : World) (blk m : Nat) (dk : Array α) (os : Array Obj) : Changed (fun b => b = blk) w (sortWorldK enc k w blk 0 m dk os) := by
  refine ⟨rfl, rfl, rfl, size_sortWorldK_c enc k w blk 0 m dk os, fun b hb hne => ?_⟩
  unfold sortWorldK
  have hs : b < (putRowK enc k (Sort.ahead w m) blk 0 dk).heap.size := by rw [size_putRowK]; exact hb
  rw [heap_grow_old _ _ hs]
  show (Array.modify w.heap blk _)[b]? = _
  rw [Array.getElem?_modify, if_neg (fun e => hne e.symm)]
theorem cmpLays_any (X blk size : Nat) (w : World) (hX : w.cell? ⟨X, 0, none⟩ = some (.func (.func 83) #[] #[])) (hne : X ≠ blk) :
    CmpLays Tryd.prog 114 #[.pointer (some ⟨X, 0, none⟩)] F9.enc 9 cmpF blk 0 size w := fun m os dk _ x y =>
  cmp_any X x y _ (by
    have hXl := World.block_lt_of_cell? w _ hX
    rw [cell_same ((old_putRow F9.enc 9 w blk m dk os).block X hXl hne)]
    exact hX)

/-- slices.SortFunc, of fields, by their keys. -/
theorem sortFields_any (X blk cap : Nat) (L : List F9) (w : World) (hX : w.cell? ⟨X, 0, none⟩ = some (.func (.func 83) #[] #[])) (hne : X ≠ blk) (hblk : blk < w.heap.size)
    (hc : ∀ i (h : i < L.length) c u, L[i].enc[c]? = some u → w.cell? ⟨blk, i * 9 + c, none⟩ = some u) (hf : ∀ off, w.frozen? ⟨blk, off, none⟩ = false) (hn : L.length ≤ 1048576) (hk : (L.map (·.key)).Nodup) :
    Calls Tryd.prog 81 #[.slice (some ⟨blk, 0, none⟩) L.length cap, .func (.func 114) #[] #[.pointer (some ⟨X, 0, none⟩)]] w fun e w' =>
      e = .returned (.tuple #[]) ∧ ∃ L' : List F9, L'.Perm L ∧ L'.map F9.fld = sortF (L.map F9.fld) ∧ Changed (fun b => b = blk) w w' ∧ ∀ i (h : i < L'.length) c u, L'[i].enc[c]? = some u → w'.cell? ⟨blk, i * 9 + c, none⟩ = some u := by
  have hlen9 : ∀ x : F9, x.enc.length = 9 := fun _ => rfl
  have hH : HoldsK F9.enc 9 w blk 0 L.toArray := by
    intro j hj
    rw [size_flatK] at hj
    have hj' : j < L.length * 9 := by simpa using hj
    have hi : j / 9 < L.length := by omega
    refine ⟨?_, hf _⟩
    rw [get_flatK _ _ _ _ (by simpa using hj'), Nat.zero_add]
    have e1 : L.toArray[j / 9]! = L[j / 9] := by rw [getElem!_pos L.toArray (j / 9) (by simpa using hi)]; simp
    rw [e1]
    have hm : j % 9 < L[j / 9].enc.length := by rw [hlen9]; omega
    have := hc (j / 9) hi (j % 9) L[j / 9].enc[j % 9] (List.getElem?_eq_getElem hm)
    rw [show j / 9 * 9 + j % 9 = j by omega] at this
    rw [this, getElem!_pos L[j / 9].enc (j % 9) hm]
    rfl
  have h := AnyQ.slices_SortFunc Tryd.sortFields 9 Tryd.isAgg97 Tryd.sizeOf97 F9.enc hlen9 (fun x v hv => by simp [F9.enc] at hv; rcases hv with rfl | rfl | rfl | rfl | rfl | rfl | rfl | rfl | rfl <;> rfl) cmpF swoF 114 #[.pointer (some ⟨X, 0, none⟩)] blk 0 cap L.toArray w
    (enters_of Tryd.func114 (by kernel_rfl) rfl) (cmpLays_any X blk _ w hX hne) hH hblk (by simp; omega)
  rw [show (L.toArray.size : Nat) = L.length by simp] at h
  refine h.mono ?_
  rintro e w' ⟨rfl, d', n, os, hp, hs, rfl⟩
  obtain ⟨g1, g2⟩ := sorted_fld (d := L.toArray) (by simpa using hp) (by simpa using hs) (by simpa using hk)
  have hsz : d'.size = L.length := by simpa using hp.1
  refine ⟨rfl, d'.toList, by simpa using g1, by simpa using g2, old_putRow _ _ _ _ _ _ _, fun i hi c u hu => ?_⟩
  have hH' := holdsK_sortWorldK_c F9.enc 9 w blk 0 L.toArray d' n os hH hblk (by simpa using hsz)
  have hi' : i < d'.size := by simpa using hi
  have hc9 : c < 9 := by have := (List.getElem?_eq_some_iff.1 hu).1; rw [hlen9] at this; exact this
  have := (HoldsK.cell hH' hi' hc9).1
  rw [Nat.zero_add] at this
  rw [this, getElem!_pos d' i hi']
  obtain ⟨hlt, he⟩ := List.getElem?_eq_some_iff.1 hu
  rw [getElem!_pos d'[i].enc c (by rw [hlen9]; exact hc9)]
  simp only [Array.getElem_toList] at he
  rw [he]
end Go.Proofs.YtpcfhiipkbpmkaaDoor
