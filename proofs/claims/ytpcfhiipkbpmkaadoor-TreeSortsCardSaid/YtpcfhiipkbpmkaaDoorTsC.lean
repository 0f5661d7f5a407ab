/- The walk of Copy, once more: what it hands back lies apart (layer 8). -/
import Derived.Test.YtpcfhiipkbpmkaaDoorTsS
namespace Go.Proofs.YtpcfhiipkbpmkaaDoor
open Go.RowKit Go.Tab

/-- Block B is being filled with copies of the kids: the first k are there, each between bounds of its own. -/
def FillS (T : TypeId) (B : Nat) (kids : List Tree) (k : Nat) (w : World) : Prop := ∃ arr, Cells w B arr T ∧ arr.size = kids.length * 8 ∧
  ∃ bd : Nat → Nat, bd 0 = B + 1 ∧ bd k ≤ w.heap.size ∧ (∀ j, bd j ≤ bd (j + 1)) ∧ ∀ j (h : j < kids.length), j < k → ∃ cs, (∀ i u, cs[i]? = some u → arr[j * 8 + i]? = some u) ∧ ValSep w kids[j] cs (bd j) (bd (j + 1))
theorem FillS.below {T : TypeId} {B k : Nat} {kids : List Tree} {w w' : World} (h : FillS T B kids k w) (hb : Below w.heap.size w w') : FillS T B kids k w' := by
  obtain ⟨arr, h1, h2, bd, b0, b1, b2, h3⟩ := h
  refine ⟨arr, h1.below hb h1.lt, h2, bd, b0, Nat.le_trans b1 hb.size, b2, fun j hj hjk => ?_⟩
  obtain ⟨cs, g1, g2⟩ := h3 j hj hjk
  exact ⟨cs, g1, g2.below hb⟩
theorem bd_mono {bd : Nat → Nat} (h : ∀ j, bd j ≤ bd (j + 1)) : ∀ i j, i ≤ j → bd i ≤ bd j := fun i j hij => by
  induction hij with
  | refl => exact Nat.le_refl _
  | step _ ih => exact Nat.le_trans ih (h _)
theorem FillS.step {T : TypeId} {B k lo hi : Nat} {kids : List Tree} {w : World} (h : ∃ w0, FillS T B kids k w0 ∧ w0.heap.size ≤ lo ∧ Below w0.heap.size w0 w) (hk : k < kids.length) {cs : List Value} (hcs : cs.length = 8) (hlh : lo ≤ hi) (hhi : hi ≤ w.heap.size) (hv : ValSep w kids[k] cs lo hi) :
    FillS T B kids (k + 1) (setAll w B (k * 8) cs) := by
  obtain ⟨w0, ⟨arr, h1, h2, bd, b0, b1, b2, h3⟩, hlo, hb⟩ := h
  have hBlo : B < lo := Nat.lt_of_lt_of_le h1.lt hlo
  have hmove : ∀ (t : Tree) (cs' : List Value) (l r : Nat), B < l → ValSep w t cs' l r → ValSep (setAll w B (k * 8) cs) t cs' l r := fun t cs' l r hl hv' =>
    ValSep.move (Nat.le_of_eq (setAll_size B _ _ _).symm) t cs' l r (fun m hm _ => setAll_other B _ _ _ m (by have := hm.1; omega)) hv'
  have hb0 : ∀ j, B < bd j := fun j => by have := bd_mono b2 0 j (Nat.zero_le _); omega
  refine ⟨_, (h1.below hb h1.lt).put cs (k * 8), by rw [putAll_size]; exact h2, fun j => if j ≤ k then bd j else max (bd k) hi, ?_, ?_, fun j => ?_, fun j hj hjk => ?_⟩
  · simp [b0]
  · rw [setAll_size]
    simp only [show ¬ k + 1 ≤ k by omega, if_false]
    have := hb.size
    omega
  · dsimp only
    by_cases h1 : j + 1 ≤ k
    · rw [if_pos (by omega), if_pos h1]; exact b2 j
    · rw [if_neg h1]
      by_cases h2 : j ≤ k
      · rw [if_pos h2]
        have := bd_mono b2 j k h2
        omega
      · rw [if_neg h2]; exact Nat.le_refl _
  · by_cases hjk' : j = k
    · subst hjk'
      refine ⟨cs, fun i u hu => putAll_in cs arr (j * 8) i u (by omega) hu, ?_⟩
      dsimp only
      rw [if_pos (Nat.le_refl _), if_neg (by omega), Nat.max_eq_right (by omega)]
      exact hmove _ _ _ _ (hb0 j) (hv.wide (by omega))
    · obtain ⟨cs', g1, g2⟩ := h3 j hj (by omega)
      have hl8 := ValIn.len8 (ValSep.in _ _ _ _ g2)
      refine ⟨cs', fun i u hu => ?_, ?_⟩
      · rw [putAll_out]
        · exact g1 i u hu
        · have := (List.getElem?_eq_some_iff.1 hu).1
          left
          omega
      · dsimp only
        rw [if_pos (by omega), if_pos (by omega)]
        exact hmove _ _ _ _ (hb0 j) (g2.below hb)
theorem FillS.done {T : TypeId} {B : Nat} {kids : List Tree} {w : World} (h : FillS T B kids kids.length w) : KidsSep w B 0 kids (B + 1) w.heap.size := by
  obtain ⟨arr, h1, h2, bd, b0, b1, b2, h3⟩ := h
  rw [← b0]
  refine KidsSep.make kids 0 _ bd b2 (fun j hj => Nat.le_trans (bd_mono b2 j _ hj) b1) (fun k hk => ?_)
  obtain ⟨cs, g1, g2⟩ := h3 k hk hk
  exact ⟨cs, fun j u hu => h1.cell _ _ (by rw [Nat.zero_add]; exact g1 j u hu), g2⟩
/-- A copy: the same value, in memory of its own, its parts apart. -/
def CopyQ (t : Tree) (w : World) (e : Ending) (w' : World) : Prop := (∃ cs lo, e = .returned (valV cs) ∧ w.heap.size ≤ lo ∧ lo ≤ w'.heap.size ∧ ValSep w' t cs lo w'.heap.size) ∧ Below w.heap.size w w'
/-- The copy as it lies in the result's cell. -/
theorem copyS_done {kind : Int} {is neg : Bool} {digits : ByteArray} {exp : Int} {str : ByteArray} {keys : List ByteArray} {kids : List Tree} {w wr : World} {kv : Value} {a : Option Addr} {m : Nat} (hown : OwnOf Value.string 9 (w.heap.size + 3) wr kv keys)
    (hm : kids.length ≤ maxLen) (hkm : keys ≠ [] → ∀ b, kv.ownBlock = some b → b < m) (hlm : w.heap.size + 3 ≤ m) (hmh : m ≤ wr.heap.size) (hk : ∀ x, a = some x → kids ≠ [] → x.spot = none ∧ (x.block < wr.heap.size ∧ Btw (w.heap.size + 3) m x.block ∧ ∀ off, wr.frozen? ⟨x.block, off, none⟩ = false) ∧ kv.ownBlock ≠ some x.block ∧ KidsSep wr x.block x.off kids m wr.heap.size) (hn : a = none → kids.length = 0) (l : List Value) :
    ValSep (setAll wr (w.heap.size + 1) 0 l) (.mk kind is neg digits exp str keys kids) [.int .i64 kind, .bool is, .bool neg, .string digits, .int .i64 exp, .string str, kv, .slice a kids.length kids.length] (w.heap.size + 3) (setAll wr (w.heap.size + 1) 0 l).heap.size := by
  rw [setAll_size]
  refine ValSep.move (w := wr) (Nat.le_of_eq (setAll_size _ _ _ _).symm) _ _ _ _ (fun m hm _ => setAll_other _ _ _ _ m (by have := hm.1; omega)) ?_
  simp only [ValSep]
  exact ⟨kv, a, kids.length, m, rfl, ⟨hown.row, fun b hb hne => ⟨⟨hown.own_ge b hb, hkm hne b hb⟩, fun off => by obtain ⟨g, cap, rfl, -⟩ := hown.shape hne; simp [Value.ownBlock] at hb; subst hb; exact hown.frozenAt off⟩⟩, hlm, hmh, Nat.le_refl _, hm, hn, hk⟩

set_option maxHeartbeats 4000000 in
set_option maxRecDepth 100000 in
theorem CopyS_step (n : Nat) (IH : ∀ (t : Tree), t.bulk ≤ n → t.bulk ≤ 1048576 → ∀ (w : World) (cs : List Value), ValAt w t cs → Calls Tryd.prog 23 #[valV cs] w (CopyQ t w))
    (kind : Int) (is neg : Bool) (digits : ByteArray) (exp : Int) (str : ByteArray) (keys : List ByteArray) (kids : List Tree)
    (h : (Tree.mk kind is neg digits exp str keys kids).bulk ≤ n + 1) (hmax : (Tree.mk kind is neg digits exp str keys kids).bulk ≤ 1048576)
    (w : World) (cs : List Value) (hv : ValAt w (.mk kind is neg digits exp str keys kids) cs) :
    Calls Tryd.prog 23 #[valV cs] w (CopyQ (.mk kind is neg digits exp str keys kids) w) := by
  have hkb : bulkAll kids ≤ n ∧ 1 + digits.size + str.size + ksBulk keys + bulkAll kids ≤ 1048576 := by simp only [Tree.bulk] at h hmax; omega
  simp only [ValAt] at hv
  obtain ⟨kv, a, cap, rfl, hk, hl, hm, hnil, hx⟩ := hv
  obtain ⟨ka, kc, rfl, hkl0, hkm0, -⟩ := hk.len
  have hll := len_bulk kids
  have hlk := len_ks keys
  unfold maxLen at hm hkm0
  simp only [valV]
  clear h hmax
  go_enter Tryd.func23, Tryd.ntmps23
  go_wp2_with (with_reducible first | refine stop_append ?_ | refine stop_make ?_ | refine stop_slice ?_ | refine stop_copy ?_); refine Stop.out ?_
  refine wpList_append_row (f := Value.string) rfl _ _ 24 rfl (w.heap.size + 3) 9 16 _ Tryd.underlying24 Tryd.infoStr rfl oneStr [] keys (by exact OwnOf.nil) (by exact ((hk.alloc _).alloc _).alloc _) (by unfold maxLen; simp; omega) (by simp; omega) (by simp) _ (Below.refl _ _) ?_
  intro v1 w1 hown1 hb1' hg1
  have hb1 : Below w.heap.size w w1 := by
    refine Below.trans ?_ (hb1'.mono (by omega))
    (repeat' (first | (with_reducible refine Below.setCell ?_ ?_ _) | (with_reducible refine Below.alloc ?_ ?_ _) | (with_reducible refine Below.drew ?_) | (with_reducible assumption) | (with_reducible exact Below.refl _ _) | (simp only [World.size_alloc, World.size_setCell, World.size_drew]; done) | (simp only [World.size_alloc, World.size_setCell, World.size_drew]; omega) | omega))
  clear hb1'
  simp only [List.nil_append] at hown1
  obtain ⟨a1, c1, rfl, hl1, hm1, -⟩ := hown1.row.len
  obtain ⟨hc0, hc1, hc2, hz1⟩ := three_new (c1 := #[.int .i64 kind, .bool is, .bool neg, .string digits, .int .i64 exp, .string str, .slice ka keys.length kc, .slice a kids.length cap]) hg1
  clear hg1
  have hz0 : w.heap.size < w1.heap.size := by omega
  have hz2 : w.heap.size + 1 < w1.heap.size := by omega
  have hz3 : w.heap.size + 1 + 1 < w1.heap.size := by omega
  have hc0c0 := hc0.cell 0 _ rfl
  have hc0f0 := hc0.frozen 0
  have hc0c1 := hc0.cell 1 _ rfl
  have hc0f1 := hc0.frozen 1
  have hc0c2 := hc0.cell 2 _ rfl
  have hc0f2 := hc0.frozen 2
  have hc0c3 := hc0.cell 3 _ rfl
  have hc0f3 := hc0.frozen 3
  have hc0c4 := hc0.cell 4 _ rfl
  have hc0f4 := hc0.frozen 4
  have hc0c5 := hc0.cell 5 _ rfl
  have hc0f5 := hc0.frozen 5
  have hc0c6 := hc0.cell 6 _ rfl
  have hc0f6 := hc0.frozen 6
  have hc0c7 := hc0.cell 7 _ rfl
  have hc0f7 := hc0.frozen 7
  have hc1c0 := hc1.cell 0 _ rfl
  have hc1f0 := hc1.frozen 0
  have hc1c1 := hc1.cell 1 _ rfl
  have hc1f1 := hc1.frozen 1
  have hc1c2 := hc1.cell 2 _ rfl
  have hc1f2 := hc1.frozen 2
  have hc1c3 := hc1.cell 3 _ rfl
  have hc1f3 := hc1.frozen 3
  have hc1c4 := hc1.cell 4 _ rfl
  have hc1f4 := hc1.frozen 4
  have hc1c5 := hc1.cell 5 _ rfl
  have hc1f5 := hc1.frozen 5
  have hc1c6 := hc1.cell 6 _ rfl
  have hc1f6 := hc1.frozen 6
  have hc1c7 := hc1.cell 7 _ rfl
  have hc1f7 := hc1.frozen 7
  have hc2c0 := hc2.cell 0 _ rfl
  have hc2f0 := hc2.frozen 0
  have hc2c1 := hc2.cell 1 _ rfl
  have hc2f1 := hc2.frozen 1
  have hc2c2 := hc2.cell 2 _ rfl
  have hc2f2 := hc2.frozen 2
  have hc2c3 := hc2.cell 3 _ rfl
  have hc2f3 := hc2.frozen 3
  have hc2c4 := hc2.cell 4 _ rfl
  have hc2f4 := hc2.frozen 4
  have hc2c5 := hc2.cell 5 _ rfl
  have hc2f5 := hc2.frozen 5
  have hc2c6 := hc2.cell 6 _ rfl
  have hc2f6 := hc2.frozen 6
  have hc2c7 := hc2.cell 7 _ rfl
  have hc2f7 := hc2.frozen 7
  have hB : w.heap.size < w1.heap.size := hz0
  have hown1 := Lib.hid hown1
  by_cases hne : kids = []
  · subst hne
    clear hx
    go_wp2_with fail
    go_loopw [24] (fun i wr => i = .int .i64 0 ∧ Cells wr (w.heap.size + 1) #[.int .i64 0, .bool false, .bool false, .string ⟨#[]⟩, .int .i64 0, .string ⟨#[]⟩, .slice none 0 0, .slice none 0 0] 27 ∧ Cells wr (w.heap.size + 1 + 1) #[.int .i64 kind, .bool is, .bool neg, .string digits, .int .i64 exp, .string str, .slice a1 keys.length c1, .slice none 0 0] 27 ∧
      OwnOf Value.string 9 (w.heap.size + 3) wr (.slice a1 keys.length c1) keys ∧ Below w.heap.size w wr) (fun i _ => 1 - (intOf i).toNat)
    case atStart =>
      refine ⟨rfl, (hc1.setOther _ _ (by show w.heap.size + 1 + 1 ≠ _; omega)).setOther _ _ (by show w.heap.size + 1 + 1 ≠ _; omega), (hc2.setI 6 _).setI 7 _,
        (hown1.out.setOther _ _ (own_ne_box hown1.out hc2 (by decide))).setOther _ _ (own_ne_box hown1.out hc2 (by decide)), ?_⟩
      (repeat' (first | (with_reducible refine Below.setCell ?_ ?_ _) | (with_reducible refine Below.alloc ?_ ?_ _) | (with_reducible refine Below.drew ?_) | (with_reducible assumption) | (with_reducible exact Below.refl _ _) | (simp only [World.size_alloc, World.size_setCell, World.size_drew]; done) | (simp only [World.size_alloc, World.size_setCell, World.size_drew]; omega) | omega))
    case round =>
      clear hc0c0 hc0c1 hc0c2 hc0c3 hc0c4 hc0c5 hc0c6 hc0c7 hc0f0 hc0f1 hc0f2 hc0f3 hc0f4 hc0f5 hc0f6 hc0f7 hc1c0 hc1c1 hc1c2 hc1c3 hc1c4 hc1c5 hc1c6 hc1c7 hc1f0 hc1f1 hc1f2 hc1f3 hc1f4 hc1f5 hc1f6 hc1f7 hc2c0 hc2c1 hc2c2 hc2c3 hc2c4 hc2c5 hc2c6 hc2c7 hc2f0 hc2f1 hc2f2 hc2f3 hc2f4 hc2f5 hc2f6 hc2f7 hc0 hc1 hc2
      obtain ⟨rfl, hd1, hd2, hown, hbl⟩ := hrel
      have hy1 := hd1.lt
      have hy2 := hd2.lt
      have HOWN := Lib.hid hown
      have HBL := Lib.hid hbl
      clear hown hbl
      have hd1c0 := hd1.cell 0 _ rfl
      have hd1f0 := hd1.frozen 0
      have hd1c1 := hd1.cell 1 _ rfl
      have hd1f1 := hd1.frozen 1
      have hd1c2 := hd1.cell 2 _ rfl
      have hd1f2 := hd1.frozen 2
      have hd1c3 := hd1.cell 3 _ rfl
      have hd1f3 := hd1.frozen 3
      have hd1c4 := hd1.cell 4 _ rfl
      have hd1f4 := hd1.frozen 4
      have hd1c5 := hd1.cell 5 _ rfl
      have hd1f5 := hd1.frozen 5
      have hd1c6 := hd1.cell 6 _ rfl
      have hd1f6 := hd1.frozen 6
      have hd1c7 := hd1.cell 7 _ rfl
      have hd1f7 := hd1.frozen 7
      have hd2c0 := hd2.cell 0 _ rfl
      have hd2f0 := hd2.frozen 0
      have hd2c1 := hd2.cell 1 _ rfl
      have hd2f1 := hd2.frozen 1
      have hd2c2 := hd2.cell 2 _ rfl
      have hd2f2 := hd2.frozen 2
      have hd2c3 := hd2.cell 3 _ rfl
      have hd2f3 := hd2.frozen 3
      have hd2c4 := hd2.cell 4 _ rfl
      have hd2f4 := hd2.frozen 4
      have hd2c5 := hd2.cell 5 _ rfl
      have hd2f5 := hd2.frozen 5
      have hd2c6 := hd2.cell 6 _ rfl
      have hd2f6 := hd2.frozen 6
      have hd2c7 := hd2.cell 7 _ rfl
      have hd2f7 := hd2.frozen 7
      clear hd1 hd2
      go_wp2_with fail
      refine bodyPost_ret (v := .agg #[.int .i64 kind, .bool is, .bool neg, .string digits, .int .i64 exp, .string str, .slice a1 keys.length c1, .slice none 0 0]) (by simp [results, Tryd.results23, go_sem, *]) rfl ?_
      exact ⟨⟨[.int .i64 kind, .bool is, .bool neg, .string digits, .int .i64 exp, .string str, .slice a1 keys.length c1, .slice none 0 0], w.heap.size + 3, rfl, by omega, by simp only [World.size_setCell]; omega, copyS_done (kids := []) (m := wr.heap.size) HOWN.out (by decide) (fun hne b hb => HOWN.out.row.block_lt hne b hb) (by omega) (Nat.le_refl _) (fun x h => by cases h) (fun _ => rfl) [.int .i64 kind, .bool is, .bool neg, .string digits, .int .i64 exp, .string str, .slice a1 keys.length c1, .slice none 0 0]⟩, setAll_below _ _ (by omega) [.int .i64 kind, .bool is, .bool neg, .string digits, .int .i64 exp, .string str, .slice a1 keys.length c1, .slice none 0 0] 0 _ _ HBL.out⟩
  · have hn0 : 0 < kids.length := by rcases kids with _ | ⟨_, _⟩ <;> simp_all
    cases a with
    | none => have := hnil rfl; omega
    | some x =>
    obtain ⟨bb, off, sp⟩ := x
    obtain ⟨rfl, hlt, hkids⟩ := hx _ rfl hne
    simp only at hlt hkids
    clear hx hnil
    go_wp2_with (with_reducible first | refine stop_append ?_ | refine stop_make ?_ | refine stop_slice ?_ | refine stop_copy ?_); refine Stop.out ?_
    refine wpList_make_all rfl _ _ _ rfl 27 112 8 _ Tryd.underlying25 Tryd.infoVal _ _ kids.length rfl rfl (by omega) (by unfold maxLen; omega) ?_
    intro M w2 hM hw2
    have hd0 : Cells w2 w.heap.size #[.int .i64 kind, .bool is, .bool neg, .string digits, .int .i64 exp, .string str, .slice ka keys.length kc, .slice (some ⟨bb, off, none⟩) kids.length cap] 27 := by
      rw [hw2]; exact ((hc0.setOther _ _ (by show w.heap.size + 1 + 1 ≠ _; omega)).setOther _ _ (by show w.heap.size + 1 + 1 ≠ _; omega)).alloc _
    have hd1 : Cells w2 (w.heap.size + 1) #[.int .i64 0, .bool false, .bool false, .string ⟨#[]⟩, .int .i64 0, .string ⟨#[]⟩, .slice none 0 0, .slice none 0 0] 27 := by
      rw [hw2]; exact ((hc1.setOther _ _ (by show w.heap.size + 1 + 1 ≠ _; omega)).setOther _ _ (by show w.heap.size + 1 + 1 ≠ _; omega)).alloc _
    have hd2 : Cells w2 (w.heap.size + 1 + 1) #[.int .i64 kind, .bool is, .bool neg, .string digits, .int .i64 exp, .string str, .slice a1 keys.length c1, .slice none 0 0] 27 := by
      rw [hw2]; exact ((hc2.setI 6 _).setI 7 _).alloc _
    have hdB : Cells w2 w1.heap.size M 27 := by
      rw [hw2]
      have := Cells.new ((w1.setCell { block := w.heap.size + 1 + 1, off := 6 } (Value.slice a1 keys.length c1)).setCell { block := w.heap.size + 1 + 1, off := 7 } (Value.slice none 0 0)) M 27
      simpa [World.size_setCell] using this
    have hb2 : Below w.heap.size w w2 := by
      rw [hw2]; (repeat' (first | (with_reducible refine Below.setCell ?_ ?_ _) | (with_reducible refine Below.alloc ?_ ?_ _) | (with_reducible refine Below.drew ?_) | (with_reducible assumption) | (with_reducible exact Below.refl _ _) | (simp only [World.size_alloc, World.size_setCell, World.size_drew]; done) | (simp only [World.size_alloc, World.size_setCell, World.size_drew]; omega) | omega))
    have hown2 : OwnOf Value.string 9 (w.heap.size + 3) w2 (.slice a1 keys.length c1) keys := by
      rw [hw2]
      exact ((hown1.out.setOther _ _ (own_ne_box hown1.out hc2 (by decide))).setOther _ _ (own_ne_box hown1.out hc2 (by decide))).alloc _
    have hz4 : w2.heap.size = w1.heap.size + 1 := by rw [hw2]; simp [World.size_setCell]
    simp only [World.size_setCell]
    clear hw2 hc0c0 hc0c1 hc0c2 hc0c3 hc0c4 hc0c5 hc0c6 hc0c7 hc0f0 hc0f1 hc0f2 hc0f3 hc0f4 hc0f5 hc0f6 hc0f7 hc1c0 hc1c1 hc1c2 hc1c3 hc1c4 hc1c5 hc1c6 hc1c7 hc1f0 hc1f1 hc1f2 hc1f3 hc1f4 hc1f5 hc1f6 hc1f7 hc2c0 hc2c1 hc2c2 hc2c3 hc2c4 hc2c5 hc2c6 hc2c7 hc2f0 hc2f1 hc2f2 hc2f3 hc2f4 hc2f5 hc2f6 hc2f7
    have hd0c0 := hd0.cell 0 _ rfl
    have hd0f0 := hd0.frozen 0
    have hd0c1 := hd0.cell 1 _ rfl
    have hd0f1 := hd0.frozen 1
    have hd0c2 := hd0.cell 2 _ rfl
    have hd0f2 := hd0.frozen 2
    have hd0c3 := hd0.cell 3 _ rfl
    have hd0f3 := hd0.frozen 3
    have hd0c4 := hd0.cell 4 _ rfl
    have hd0f4 := hd0.frozen 4
    have hd0c5 := hd0.cell 5 _ rfl
    have hd0f5 := hd0.frozen 5
    have hd0c6 := hd0.cell 6 _ rfl
    have hd0f6 := hd0.frozen 6
    have hd0c7 := hd0.cell 7 _ rfl
    have hd0f7 := hd0.frozen 7
    have hd2c0 := hd2.cell 0 _ rfl
    have hd2f0 := hd2.frozen 0
    have hd2c1 := hd2.cell 1 _ rfl
    have hd2f1 := hd2.frozen 1
    have hd2c2 := hd2.cell 2 _ rfl
    have hd2f2 := hd2.frozen 2
    have hd2c3 := hd2.cell 3 _ rfl
    have hd2f3 := hd2.frozen 3
    have hd2c4 := hd2.cell 4 _ rfl
    have hd2f4 := hd2.frozen 4
    have hd2c5 := hd2.cell 5 _ rfl
    have hd2f5 := hd2.frozen 5
    have hd2c6 := hd2.cell 6 _ rfl
    have hd2f6 := hd2.frozen 6
    have hd2c7 := hd2.cell 7 _ rfl
    have hd2f7 := hd2.frozen 7
    have hfill : FillS 27 w1.heap.size kids 0 w2 := ⟨M, hdB, hM, fun _ => w1.heap.size + 1, rfl, (by show w1.heap.size + 1 ≤ _; omega), fun _ => Nat.le_refl _, fun j _ h => by omega⟩
    have hB3 : w.heap.size + 3 ≤ w1.heap.size := hz1
    have HKB : Hid (keys ≠ [] → ∀ b, (Value.slice a1 keys.length c1).ownBlock = some b → b < w1.heap.size) := Lib.hid (fun hne b hb => hown1.out.row.block_lt hne b hb)
    clear hown1
    generalize w1.heap.size = B at *
    go_wp2_with fail
    go_loopw [24] (fun i wr => ∃ k : Nat, k ≤ kids.length ∧ i = .int .i64 (k : Int) ∧ Cells wr w.heap.size #[.int .i64 kind, .bool is, .bool neg, .string digits, .int .i64 exp, .string str, .slice ka keys.length kc, .slice (some ⟨bb, off, none⟩) kids.length cap] 27 ∧ Cells wr (w.heap.size + 1) #[.int .i64 0, .bool false, .bool false, .string ⟨#[]⟩, .int .i64 0, .string ⟨#[]⟩, .slice none 0 0, .slice none 0 0] 27 ∧ Cells wr (w.heap.size + 1 + 1) #[.int .i64 kind, .bool is, .bool neg, .string digits, .int .i64 exp, .string str, .slice a1 keys.length c1, .slice (some ⟨B, 0, none⟩) kids.length kids.length] 27 ∧
      FillS 27 B kids k wr ∧ OwnOf Value.string 9 (w.heap.size + 3) wr (.slice a1 keys.length c1) keys ∧ Below w.heap.size w wr) (fun i _ => kids.length - (intOf i).toNat)
    case atStart =>
      refine ⟨0, Nat.zero_le _, rfl, hd0.setOther _ _ (by show w.heap.size + 1 + 1 ≠ _; omega), hd1.setOther _ _ (by show w.heap.size + 1 + 1 ≠ _; omega), hd2.setI 7 _, ?_, hown2.setOther _ _ (own_ne_box hown2 hd2 (by decide)), ?_⟩
      · obtain ⟨arr, f1, f2, bd, b0, b1, b2, -⟩ := hfill
        exact ⟨arr, f1.setOther _ _ (by show w.heap.size + 1 + 1 ≠ _; omega), f2, bd, b0, by rw [World.size_setCell]; exact b1, b2, fun j _ h => by omega⟩
      · (repeat' (first | (with_reducible refine Below.setCell ?_ ?_ _) | (with_reducible refine Below.alloc ?_ ?_ _) | (with_reducible refine Below.drew ?_) | (with_reducible assumption) | (with_reducible exact Below.refl _ _) | (simp only [World.size_alloc, World.size_setCell, World.size_drew]; done) | (simp only [World.size_alloc, World.size_setCell, World.size_drew]; omega) | omega))
    case round =>
      clear hd0c0 hd0c1 hd0c2 hd0c3 hd0c4 hd0c5 hd0c6 hd0c7 hd0f0 hd0f1 hd0f2 hd0f3 hd0f4 hd0f5 hd0f6 hd0f7 hd2c0 hd2c1 hd2c2 hd2c3 hd2c4 hd2c5 hd2c6 hd2c7 hd2f0 hd2f1 hd2f2 hd2f3 hd2f4 hd2f5 hd2f6 hd2f7 hd0 hd1 hd2 hdB hfill hown2
      obtain ⟨k, hk, rfl, hd0, hd1, hd2, hfill, hown, hbl⟩ := hrel
      have hy0 := hd0.lt
      have hy1 := hd1.lt
      have hy2 := hd2.lt
      by_cases hkl : k < kids.length
      · obtain ⟨kc0, hkc, hkv⟩ := KidsAt.get (KidsAt.below hbl hlt kids _ hkids) k hkl
        obtain ⟨kkind, kis, kneg, kdig, kexp, kstr, kka, kkn, kkc, ksa, ksn, ksc, rfl, m0, m1, m2, m3, m4, m5, m6, m7⟩ := kid_at hkv hkc
        have hr1 := Nat.lt_of_lt_of_le hlt hbl.size
        have hIH := IH kids[k] (by have := bulk_kid hkl; omega) (by have := bulk_kid hkl; omega)
        have hN := Cells.new wr #[.int .i64 kkind, .bool kis, .bool kneg, .string kdig, .int .i64 kexp, .string kstr, .slice kka kkn kkc, .slice ksa ksn ksc] 27
        have hd2a := hd2.alloc (.cells #[.int .i64 kkind, .bool kis, .bool kneg, .string kdig, .int .i64 kexp, .string kstr, .slice kka kkn kkc, .slice ksa ksn ksc] 27)
        have hfa : FillS 27 B kids k (wr.alloc (.cells #[.int .i64 kkind, .bool kis, .bool kneg, .string kdig, .int .i64 kexp, .string kstr, .slice kka kkn kkc, .slice ksa ksn ksc] 27)) := hfill.below ((Below.refl _ _).alloc (Nat.le_refl _) _)
        have hda0 := hd0.alloc (.cells #[.int .i64 kkind, .bool kis, .bool kneg, .string kdig, .int .i64 kexp, .string kstr, .slice kka kkn kkc, .slice ksa ksn ksc] 27)
        have hda1 := hd1.alloc (.cells #[.int .i64 kkind, .bool kis, .bool kneg, .string kdig, .int .i64 kexp, .string kstr, .slice kka kkn kkc, .slice ksa ksn ksc] 27)
        have howna := hown.alloc (.cells #[.int .i64 kkind, .bool kis, .bool kneg, .string kdig, .int .i64 kexp, .string kstr, .slice kka kkn kkc, .slice ksa ksn ksc] 27)
        have hbla := hbl.alloc hbl.size (.cells #[.int .i64 kkind, .bool kis, .bool kneg, .string kdig, .int .i64 kexp, .string kstr, .slice kka kkn kkc, .slice ksa ksn ksc] 27)
        have hkva := hkv.below_alloc (.cells #[.int .i64 kkind, .bool kis, .bool kneg, .string kdig, .int .i64 kexp, .string kstr, .slice kka kkn kkc, .slice ksa ksn ksc] 27)
        have hza : (wr.alloc (.cells #[.int .i64 kkind, .bool kis, .bool kneg, .string kdig, .int .i64 kexp, .string kstr, .slice kka kkn kkc, .slice ksa ksn ksc] 27)).heap.size = wr.heap.size + 1 := by simp
        have hBr : B < wr.heap.size := by obtain ⟨arr, f1, -⟩ := hfill; exact f1.lt
        have hd2c0 := hd2.cell 0 _ rfl
        have hd2f0 := hd2.frozen 0
        have hd2c1 := hd2.cell 1 _ rfl
        have hd2f1 := hd2.frozen 1
        have hd2c2 := hd2.cell 2 _ rfl
        have hd2f2 := hd2.frozen 2
        have hd2c3 := hd2.cell 3 _ rfl
        have hd2f3 := hd2.frozen 3
        have hd2c4 := hd2.cell 4 _ rfl
        have hd2f4 := hd2.frozen 4
        have hd2c5 := hd2.cell 5 _ rfl
        have hd2f5 := hd2.frozen 5
        have hd2c6 := hd2.cell 6 _ rfl
        have hd2f6 := hd2.frozen 6
        have hd2c7 := hd2.cell 7 _ rfl
        have hd2f7 := hd2.frozen 7
        go_wp2_with fail
        generalize wr.alloc (.cells #[.int .i64 kkind, .bool kis, .bool kneg, .string kdig, .int .i64 kexp, .string kstr, .slice kka kkn kkc, .slice ksa ksn ksc] 27) = wa at *
        have hC1 := hIH _ _ (ValAt.below (Below.refl _ wa).drew _ _ hkva)
        have hfad := FillS.below hfa (Below.refl _ wa).drew
        clear hIH hkv hkva hkc IH m0 m1 m2 m3 m4 m5 m6 m7 hd2c0 hd2c1 hd2c2 hd2c3 hd2c4 hd2c5 hd2c6 hd2c7 hd2f0 hd2f1 hd2f2 hd2f3 hd2f4 hd2f5 hd2f6 hd2f7 hd0 hd1 hd2 hfill hown hbl
        simp only [valV] at hC1
        have g7 := hd2a.cell 7 _ rfl
        have hn1 : ¬ B = w.heap.size + 1 + 1 := by omega
        have hn2 : ¬ w.heap.size + 1 + 1 = B := by omega
        have hn3 : ¬ B = wr.heap.size := by omega
        have hn4 : ¬ wr.heap.size = B := by omega
        have r0 := hN.cell 0 _ rfl
        have r1 := hN.cell 1 _ rfl
        have r2 := hN.cell 2 _ rfl
        have r3 := hN.cell 3 _ rfl
        have r4 := hN.cell 4 _ rfl
        have r5 := hN.cell 5 _ rfl
        have r6 := hN.cell 6 _ rfl
        have r7 := hN.cell 7 _ rfl
        go_region_held3 (fun w' => w'.cell? ⟨w.heap.size + 1 + 1, 7, none⟩ = some (.slice (some ⟨B, 0, none⟩) kids.length kids.length) ∧ w'.cell? ⟨wr.heap.size, 0, none⟩ = some (.int .i64 kkind) ∧ w'.cell? ⟨wr.heap.size, 1, none⟩ = some (.bool kis) ∧ w'.cell? ⟨wr.heap.size, 2, none⟩ = some (.bool kneg) ∧ w'.cell? ⟨wr.heap.size, 3, none⟩ = some (.string kdig) ∧ w'.cell? ⟨wr.heap.size, 4, none⟩ = some (.int .i64 kexp) ∧ w'.cell? ⟨wr.heap.size, 5, none⟩ = some (.string kstr) ∧ w'.cell? ⟨wr.heap.size, 6, none⟩ = some (.slice kka kkn kkc) ∧ w'.cell? ⟨wr.heap.size, 7, none⟩ = some (.slice ksa ksn ksc)) (first | (with_reducible exact ⟨g73, r03, r13, r23, r33, r43, r53, r63, r73⟩) | go_keep) (first | (go_at_call 23; refine hC1.mono ?_; rintro e w3 ⟨⟨cs3, lo3, rfl, hlo3, hlh3, hin⟩, hb3'⟩; have HL3 := Lib.hid (And.intro hlo3 hlh3); clear hlo3 hlh3; obtain ⟨kind3, is3, neg3, dig3, exp3, str3, ka3, kn3, kc3, sa3, sn3, sc3, rfl⟩ := ValIn.shape (ValSep.in _ _ _ _ hin); have hN3 := hN.drew.below hb3' hN.lt; have hd23 := hd2a.drew.below hb3' hd2a.lt; have g73 := hd23.cell 7 _ rfl; have r03 := hN3.cell 0 _ rfl; have r13 := hN3.cell 1 _ rfl; have r23 := hN3.cell 2 _ rfl; have r33 := hN3.cell 3 _ rfl; have r43 := hN3.cell 4 _ rfl; have r53 := hN3.cell 5 _ rfl; have r63 := hN3.cell 6 _ rfl; have r73 := hN3.cell 7 _ rfl; have HF3 := Lib.hid (FillS.below hfad hb3'); obtain ⟨arr3, ha3, hs3, -⟩ := HF3.out; have hlt3 := ha3.lt; have HIN := Lib.hid hin; clear hin; have HB3 := Lib.hid hb3'; clear hb3'; have HA3 := Lib.hid ha3; have HN3 := Lib.hid hN3; have HD23 := Lib.hid hd23; clear hN3 hd23; have z0 := ha3.cell (k * 8 + 0) _ (Array.getElem?_eq_getElem (by omega)); have y0 := ha3.frozen (k * 8 + 0); have z1 := ha3.cell (k * 8 + 1) _ (Array.getElem?_eq_getElem (by omega)); have y1 := ha3.frozen (k * 8 + 1); have z2 := ha3.cell (k * 8 + 2) _ (Array.getElem?_eq_getElem (by omega)); have y2 := ha3.frozen (k * 8 + 2); have z3 := ha3.cell (k * 8 + 3) _ (Array.getElem?_eq_getElem (by omega)); have y3 := ha3.frozen (k * 8 + 3); have z4 := ha3.cell (k * 8 + 4) _ (Array.getElem?_eq_getElem (by omega)); have y4 := ha3.frozen (k * 8 + 4); have z5 := ha3.cell (k * 8 + 5) _ (Array.getElem?_eq_getElem (by omega)); have y5 := ha3.frozen (k * 8 + 5); have z6 := ha3.cell (k * 8 + 6) _ (Array.getElem?_eq_getElem (by omega)); have y6 := ha3.frozen (k * 8 + 6); have z7 := ha3.cell (k * 8 + 7) _ (Array.getElem?_eq_getElem (by omega)); have y7 := ha3.frozen (k * 8 + 7); simp only [Nat.add_zero] at z0 y0; clear ha3; simp only [valV]))
        have HD0 := Lib.hid ((hda0.drew.below HB3.out hda0.lt).setAllOther (B := B) (o := k * 8) (l := [.int .i64 kind3, .bool is3, .bool neg3, .string dig3, .int .i64 exp3, .string str3, .slice ka3 kn3 kc3, .slice sa3 sn3 sc3]) (by omega))
        have HD1 := Lib.hid ((hda1.drew.below HB3.out hda1.lt).setAllOther (B := B) (o := k * 8) (l := [.int .i64 kind3, .bool is3, .bool neg3, .string dig3, .int .i64 exp3, .string str3, .slice ka3 kn3 kc3, .slice sa3 sn3 sc3]) (by omega))
        have HD2 := Lib.hid (HD23.out.setAllOther (B := B) (o := k * 8) (l := [.int .i64 kind3, .bool is3, .bool neg3, .string dig3, .int .i64 exp3, .string str3, .slice ka3 kn3 kc3, .slice sa3 sn3 sc3]) (by omega))
        have HF4 := Lib.hid (FillS.step ⟨_, hfad, HL3.out.1, HB3.out⟩ hkl (cs := [.int .i64 kind3, .bool is3, .bool neg3, .string dig3, .int .i64 exp3, .string str3, .slice ka3 kn3 kc3, .slice sa3 sn3 sc3]) rfl HL3.out.2 (Nat.le_refl _) HIN.out)
        have how3 := howna.drew.below HB3.out (Nat.le_refl _)
        have HOW := Lib.hid (how3.moved (w' := setAll w3 B (k * 8) [.int .i64 kind3, .bool is3, .bool neg3, .string dig3, .int .i64 exp3, .string str3, .slice ka3 kn3 kc3, .slice sa3 sn3 sc3]) (fun m hm => setAll_other B _ _ _ m (fun e => own_ne_box how3 HA3.out (by decide) (by rw [hm, e]))))
        have HBE := Lib.hid (setAll_below B w.heap.size (by omega) [.int .i64 kind3, .bool is3, .bool neg3, .string dig3, .int .i64 exp3, .string str3, .slice ka3 kn3 kc3, .slice sa3 sn3 sc3] (k * 8) _ _ (hbla.trans (Below.mono (B := wa.heap.size) ((Below.refl wa.heap.size wa).drew.trans HB3.out) hbla.size)))
        clear HF3 HIN HB3 HA3 HN3 HD23 how3 howna hda0 hda1 hd2a hN hfa hfad hbla hC1
        all_goals
          go_wp2_with fail
          go_roundw
          case rel => exact ⟨k + 1, hkl, by go_num, HD0.out, HD1.out, HD2.out, HF4.out, HOW.out, HBE.out⟩
          case measure => simp [intOf]; omega
      · obtain rfl : k = kids.length := by omega
        have HOWN := Lib.hid hown
        have HBL := Lib.hid hbl
        have HF := Lib.hid hfill
        clear hown hbl hfill IH hd0
        have hd1c0 := hd1.cell 0 _ rfl
        have hd1f0 := hd1.frozen 0
        have hd1c1 := hd1.cell 1 _ rfl
        have hd1f1 := hd1.frozen 1
        have hd1c2 := hd1.cell 2 _ rfl
        have hd1f2 := hd1.frozen 2
        have hd1c3 := hd1.cell 3 _ rfl
        have hd1f3 := hd1.frozen 3
        have hd1c4 := hd1.cell 4 _ rfl
        have hd1f4 := hd1.frozen 4
        have hd1c5 := hd1.cell 5 _ rfl
        have hd1f5 := hd1.frozen 5
        have hd1c6 := hd1.cell 6 _ rfl
        have hd1f6 := hd1.frozen 6
        have hd1c7 := hd1.cell 7 _ rfl
        have hd1f7 := hd1.frozen 7
        have hd2c0 := hd2.cell 0 _ rfl
        have hd2f0 := hd2.frozen 0
        have hd2c1 := hd2.cell 1 _ rfl
        have hd2f1 := hd2.frozen 1
        have hd2c2 := hd2.cell 2 _ rfl
        have hd2f2 := hd2.frozen 2
        have hd2c3 := hd2.cell 3 _ rfl
        have hd2f3 := hd2.frozen 3
        have hd2c4 := hd2.cell 4 _ rfl
        have hd2f4 := hd2.frozen 4
        have hd2c5 := hd2.cell 5 _ rfl
        have hd2f5 := hd2.frozen 5
        have hd2c6 := hd2.cell 6 _ rfl
        have hd2f6 := hd2.frozen 6
        have hd2c7 := hd2.cell 7 _ rfl
        have hd2f7 := hd2.frozen 7
        clear hd1 hd2
        go_wp2_with fail
        refine bodyPost_ret (v := .agg #[.int .i64 kind, .bool is, .bool neg, .string digits, .int .i64 exp, .string str, .slice a1 keys.length c1, .slice (some ⟨B, 0, none⟩) kids.length kids.length]) (by simp [results, Tryd.results23, go_sem, *]) rfl ?_
        refine ⟨⟨[.int .i64 kind, .bool is, .bool neg, .string digits, .int .i64 exp, .string str, .slice a1 keys.length c1, .slice (some ⟨B, 0, none⟩) kids.length kids.length], w.heap.size + 3, rfl, by omega, by simp only [World.size_setCell]; omega, copyS_done (m := B + 1) HOWN.out (by unfold maxLen; omega) (fun hne b hb => Nat.lt_succ_of_lt (HKB.out hne b hb)) (by omega) (by obtain ⟨arr, f1, -⟩ := HF.out; exact f1.lt) (fun x hx _ => ?_) (fun h => by cases h) [.int .i64 kind, .bool is, .bool neg, .string digits, .int .i64 exp, .string str, .slice a1 keys.length c1, .slice (some ⟨B, 0, none⟩) kids.length kids.length]⟩, setAll_below _ _ (by omega) [.int .i64 kind, .bool is, .bool neg, .string digits, .int .i64 exp, .string str, .slice a1 keys.length c1, .slice (some ⟨B, 0, none⟩) kids.length kids.length] 0 _ _ HBL.out⟩
        cases hx
        have hBl : B < wr.heap.size := by obtain ⟨arr, f1, -⟩ := HF.out; exact f1.lt
        exact ⟨rfl, ⟨hBl, ⟨hB3, Nat.lt_succ_self _⟩, fun off => by obtain ⟨arr, f1, -⟩ := HF.out; exact f1.frozen off⟩, by obtain ⟨arr, f1, -⟩ := HF.out; exact own_ne_box HOWN.out f1 (by decide), HF.out.done⟩

theorem CopyS_upto (n : Nat) : ∀ (t : Tree), t.bulk ≤ n → t.bulk ≤ 1048576 → ∀ (w : World) (cs : List Value), ValAt w t cs → Calls Tryd.prog 23 #[valV cs] w (CopyQ t w) := by
  induction n with
  | zero => intro t h; have := bulk_pos t; omega
  | succ n IH =>
    intro t h hmax w cs hv
    cases t
    exact CopyS_step n IH _ _ _ _ _ _ _ _ h hmax w cs hv
theorem CopyS_any (t : Tree) (hb : t.bulk ≤ 1048576) (w : World) (cs : List Value) (hv : ValAt w t cs) : Calls Tryd.prog 23 #[valV cs] w (CopyQ t w) :=
  CopyS_upto t.bulk t (Nat.le_refl _) hb w cs hv
end Go.Proofs.YtpcfhiipkbpmkaaDoor
