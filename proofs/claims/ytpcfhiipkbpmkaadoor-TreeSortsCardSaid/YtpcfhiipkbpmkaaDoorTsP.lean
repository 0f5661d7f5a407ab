/- The plain law of sorting a value by its keys (layer 8). -/
import Derived.Test.YtpcfhiipkbpmkaaDoorTreR
import Derived.Test.YtpcfhiipkbpmkaaDoorTreB
import Derived.Test.YtpcfhiipkbpmkaaDoorUtfQ
import Derived.Test.YtpcfhiipkbpmkaaDoorTreG
namespace Go.Proofs.YtpcfhiipkbpmkaaDoor
open Go.RowKit Go.Tab

/-- Which one of two texts comes first. -/
def ltK (a b : ByteArray) : Bool := lessN (bs a) (bs b)
theorem ltK_irr (a : ByteArray) : ltK a a = false := lessN_irr _
theorem lessN_trans : ∀ (a b c : List Nat), lessN a b = true → lessN b c = true → lessN a c = true
  | _, [], _, h, _ => by simp [lessN] at h
  | _, _ :: _, [], _, h => by simp [lessN] at h
  | [], _ :: _, _ :: _, _, _ => by simp [lessN]
  | x :: a, y :: b, z :: c, h1, h2 => by
    have ih := lessN_trans a b c
    simp only [lessN, Bool.or_eq_true, Bool.and_eq_true, decide_eq_true_eq] at h1 h2 ⊢
    rcases h1 with h1 | ⟨h1, g1⟩
    · rcases h2 with h2 | ⟨h2, g2⟩
      · exact .inl (by omega)
      · exact .inl (by omega)
    · rcases h2 with h2 | ⟨h2, g2⟩
      · exact .inl (by omega)
      · exact .inr ⟨by omega, ih g1 g2⟩
theorem lessN_conn : ∀ (a b : List Nat), lessN a b = false → lessN b a = false → a = b
  | [], [], _, _ => rfl
  | [], _ :: _, h, _ => by simp [lessN] at h
  | _ :: _, [], _, h => by simp [lessN] at h
  | x :: a, y :: b, h1, h2 => by
    have ih := lessN_conn a b
    by_cases hxy : x = y
    · subst hxy
      simp [lessN] at h1 h2
      rw [ih h1 h2]
    · simp only [lessN, Bool.or_eq_false_iff, decide_eq_false_iff_not] at h1 h2
      omega
theorem bsK_inj {a b : ByteArray} (h : bs a = bs b) : a = b := by
  unfold bs at h
  have h2 : a.data.toList = b.data.toList := (List.map_inj_right (fun x y hxy => UInt8.toNat_inj.1 hxy)).1 h
  exact ByteArray.ext (Array.ext' h2)
theorem ltK_trans {a b c : ByteArray} (h1 : ltK a b = true) (h2 : ltK b c = true) : ltK a c = true := lessN_trans _ _ _ h1 h2
theorem ltK_conn {a b : ByteArray} (h1 : ltK a b = false) (h2 : ltK b a = false) : a = b := bsK_inj (lessN_conn _ _ h1 h2)
theorem ltK_asymm {a b : ByteArray} (h1 : ltK a b = true) : ltK b a = false := by
  cases h : ltK b a
  · rfl
  · have := ltK_trans h1 h; rw [ltK_irr] at this; cases this

/-- A key and its value. -/
abbrev Fld := ByteArray × Tree
def insF (x : Fld) : List Fld → List Fld
  | [] => [x]
  | y :: l => if ltK x.1 y.1 = true then x :: y :: l else y :: insF x l
def sortF : List Fld → List Fld
  | [] => []
  | x :: l => insF x (sortF l)
def Rising (l : List Fld) : Prop := l.Pairwise (fun a b => ltK a.1 b.1 = true)
theorem insF_perm (x : Fld) : ∀ l, (insF x l).Perm (x :: l)
  | [] => List.Perm.refl _
  | y :: l => by
    unfold insF
    split
    · exact List.Perm.refl _
    · exact ((insF_perm x l).cons y).trans (List.Perm.swap x y l)
theorem sortF_perm : ∀ l, (sortF l).Perm l
  | [] => List.Perm.refl _
  | x :: l => (insF_perm x _).trans ((sortF_perm l).cons x)
theorem insF_rising (x : Fld) : ∀ l, Rising l → (∀ y ∈ l, y.1 ≠ x.1) → Rising (insF x l)
  | [], _, _ => by simp [insF, Rising]
  | y :: l, h, hn => by
    unfold Rising at h
    rw [List.pairwise_cons] at h
    unfold insF
    split
    · rename_i hlt
      unfold Rising
      rw [List.pairwise_cons, List.pairwise_cons]
      refine ⟨fun z hz => ?_, h⟩
      rcases List.mem_cons.1 hz with rfl | hz
      · exact hlt
      · exact ltK_trans hlt (h.1 z hz)
    · rename_i hlt
      have hyx : ltK y.1 x.1 = true := by
        cases hc : ltK y.1 x.1
        · exact absurd (ltK_conn hc (by simpa using hlt)) (hn y (by simp))
        · rfl
      unfold Rising
      rw [List.pairwise_cons]
      refine ⟨fun z hz => ?_, insF_rising x l h.2 (fun z hz => hn z (by simp [hz]))⟩
      rcases List.mem_cons.1 ((insF_perm x l).mem_iff.1 hz) with rfl | hz
      · exact hyx
      · exact h.1 z hz
theorem sortF_rising : ∀ l : List Fld, (l.map (·.1)).Nodup → Rising (sortF l)
  | [], _ => by simp [sortF, Rising]
  | x :: l, h => by
    rw [List.map_cons, List.nodup_cons] at h
    refine insF_rising x _ (sortF_rising l h.2) (fun y hy e => h.1 ?_)
    rw [← e]
    exact List.mem_map_of_mem ((sortF_perm l).mem_iff.1 hy)
theorem rising_eq : ∀ l m : List Fld, Rising l → Rising m → l.Perm m → l = m
  | [], m, _, _, hp => (List.Perm.nil_eq hp)
  | x :: l, [], _, _, hp => absurd (hp.symm.nil_eq) (by simp)
  | x :: l, y :: m, h1, h2, hp => by
    unfold Rising at h1 h2
    rw [List.pairwise_cons] at h1 h2
    have hxy : x = y := by
      rcases List.mem_cons.1 (hp.mem_iff.1 (List.mem_cons_self)) with h | h
      · exact h
      · rcases List.mem_cons.1 (hp.mem_iff.2 (List.mem_cons_self)) with g | g
        · exact g.symm
        · have e1 := h1.1 _ g
          have e2 := h2.1 _ h
          rw [ltK_asymm e1] at e2; cases e2
    subst hxy
    rw [rising_eq l m h1.2 h2.2 (List.Perm.cons_inv hp)]
theorem nodup_perm {l m : List Fld} (h : l.Perm m) (hn : (m.map (·.1)).Nodup) : (l.map (·.1)).Nodup := ((h.map (·.1)).nodup_iff).2 hn
theorem sortF_eq {l m : List Fld} (hm : Rising m) (hp : m.Perm l) (hn : (l.map (·.1)).Nodup) : m = sortF l :=
  rising_eq _ _ hm (sortF_rising l hn) (hp.trans (sortF_perm l).symm)

mutual
/-- A value, all keys in it rising. -/
def sortT : Tree → Tree
  | .mk kind is neg d e s ks kids => if kind = 6 then .mk kind is neg d e s ((sortF (ks.zip (sortAllT kids))).map (·.1)) ((sortF (ks.zip (sortAllT kids))).map (·.2)) else .mk kind is neg d e s [] (sortAllT kids)
def sortAllT : List Tree → List Tree
  | [] => []
  | t :: r => sortT t :: sortAllT r
end
theorem sortAllT_map : ∀ l, sortAllT l = l.map sortT
  | [] => by simp [sortAllT]
  | t :: r => by simp only [sortAllT, List.map_cons, sortAllT_map r]
theorem sortAllT_len (l : List Tree) : (sortAllT l).length = l.length := by rw [sortAllT_map, List.length_map]
theorem zip_fst {α β : Type} : ∀ (a : List α) (b : List β), a.length = b.length → (a.zip b).map (·.1) = a
  | [], [], _ => rfl
  | x :: a, y :: b, h => by simp only [List.zip_cons_cons, List.map_cons]; rw [zip_fst a b (by simpa using h)]
theorem zip_snd {α β : Type} : ∀ (a : List α) (b : List β), a.length = b.length → (a.zip b).map (·.2) = b
  | [], [], _ => rfl
  | x :: a, y :: b, h => by simp only [List.zip_cons_cons, List.map_cons]; rw [zip_snd a b (by simpa using h)]
theorem zip_of (l : List Fld) : (l.map (·.1)).zip (l.map (·.2)) = l := by
  induction l with
  | nil => rfl
  | cons x l ih => simp [ih]

theorem keysR_perm {a b : List ByteArray} (h : a.Perm b) (hk : keysR b) : keysR a := ⟨fun x hx => hk.1 x (h.mem_iff.1 hx), h.nodup_iff.2 hk.2⟩
theorem rightT_all {n : Nat} {l : List Tree} (h : ∀ k (hk : k < l.length), rightT n l[k]) : ∀ t ∈ l, rightT n t := fun t ht => by
  obtain ⟨k, hk, rfl⟩ := List.getElem_of_mem ht
  exact h k hk
theorem sort_keys {ks : List ByteArray} {kids : List Tree} (h : ks.length = kids.length) : ((sortF (ks.zip (sortAllT kids))).map (·.1)).Perm ks := by
  have := (sortF_perm (ks.zip (sortAllT kids))).map (·.1)
  rwa [zip_fst _ _ (by rw [sortAllT_len]; exact h)] at this
theorem sort_kids {ks : List ByteArray} {kids : List Tree} (h : ks.length = kids.length) : ((sortF (ks.zip (sortAllT kids))).map (·.2)).Perm (sortAllT kids) := by
  have := (sortF_perm (ks.zip (sortAllT kids))).map (·.2)
  rwa [zip_snd _ _ (by rw [sortAllT_len]; exact h)] at this

/-- What is right stays so, sorted. -/
theorem sort_right : ∀ (n : Nat) (t : Tree), rightT n t → rightT n (sortT t)
  | 0, _, h => h.elim
  | n + 1, .mk kind is neg d e s ks kids, h => by
    obtain ⟨⟨h1, h2, h3, h4, h5, h6, h7, h8, h9, h10⟩, hk⟩ := h
    have hall : ∀ t ∈ sortAllT kids, rightT n t := fun t ht => by
      rw [sortAllT_map] at ht
      obtain ⟨u, hu, rfl⟩ := List.mem_map.1 ht
      exact sort_right n u (rightT_all hk u hu)
    unfold sortT
    by_cases h6k : kind = 6
    · rw [if_pos h6k]
      have hl := h7 h6k
      have p1 := sort_keys hl
      have p2 := sort_kids hl
      refine ⟨⟨h1, h2, h3, h4, .inl h6k, .inr (.inl h6k), fun _ => by simp, h8, h9, keysR_perm p1 h10⟩, fun k hk' => hall _ (p2.mem_iff.1 (List.getElem_mem hk'))⟩
    · rw [if_neg h6k]
      refine ⟨⟨h1, h2, h3, h4, .inr rfl, ?_, fun h => absurd h h6k, h8, h9, ⟨by simp, by simp⟩⟩, fun k hk' => hall _ (List.getElem_mem hk')⟩
      rw [sortAllT_len]; exact h6
/-- Sorting what is sorted changes nothing. -/
theorem sort_sort : ∀ (n : Nat) (t : Tree), rightT n t → sortT (sortT t) = sortT t
  | 0, _, h => h.elim
  | n + 1, .mk kind is neg d e s ks kids, h => by
    obtain ⟨⟨h1, h2, h3, h4, h5, h6, h7, h8, h9, h10⟩, hk⟩ := h
    have hall : ∀ t ∈ sortAllT kids, sortT t = t := fun t ht => by
      rw [sortAllT_map] at ht
      obtain ⟨u, hu, rfl⟩ := List.mem_map.1 ht
      exact sort_sort n u (rightT_all hk u hu)
    have hid : ∀ l : List Tree, (∀ t ∈ l, sortT t = t) → sortAllT l = l := fun l hl => by
      rw [sortAllT_map]
      exact (List.map_congr_left (g := id) hl).trans (List.map_id l)
    by_cases h6k : kind = 6
    · have hl := h7 h6k
      have p2 := sort_kids hl
      have e1 : sortT (.mk kind is neg d e s ks kids) = .mk kind is neg d e s ((sortF (ks.zip (sortAllT kids))).map (·.1)) ((sortF (ks.zip (sortAllT kids))).map (·.2)) := by
        rw [sortT, if_pos h6k]
      rw [e1, sortT, if_pos h6k, hid _ (fun t ht => hall t (p2.mem_iff.1 ht)), zip_of]
      have hn : ((ks.zip (sortAllT kids)).map (·.1)).Nodup := by rw [zip_fst _ _ (by rw [sortAllT_len]; exact hl)]; exact h10.2
      have hr := sortF_rising _ hn
      rw [← sortF_eq hr (List.Perm.refl _) (nodup_perm (sortF_perm _) hn)]
    · have e1 : sortT (.mk kind is neg d e s ks kids) = .mk kind is neg d e s [] (sortAllT kids) := by rw [sortT, if_neg h6k]
      rw [e1, sortT, if_neg h6k, hid _ hall]

theorem ksBulk_perm {a b : List ByteArray} (h : a.Perm b) : ksBulk a = ksBulk b := by
  induction h with
  | nil => rfl
  | cons x _ ih => simp only [ksBulk, ih]
  | swap x y l => simp only [ksBulk]; omega
  | trans _ _ h1 h2 => rw [h1, h2]
theorem bulkAll_perm {a b : List Tree} (h : a.Perm b) : bulkAll a = bulkAll b := by
  induction h with
  | nil => rfl
  | cons x _ ih => simp only [bulkAll, ih]
  | swap x y l => simp only [bulkAll]; omega
  | trans _ _ h1 h2 => rw [h1, h2]
theorem bulkAll_map {f : Tree → Tree} : ∀ l : List Tree, (∀ t ∈ l, (f t).bulk ≤ t.bulk) → bulkAll (l.map f) ≤ bulkAll l
  | [], _ => by simp [bulkAll]
  | t :: r, h => by
    have := bulkAll_map r (fun x hx => h x (by simp [hx]))
    have := h t (by simp)
    simp only [List.map_cons, bulkAll]; omega
theorem sort_bulk : ∀ (n : Nat) (t : Tree), rightT n t → (sortT t).bulk ≤ t.bulk
  | 0, _, h => h.elim
  | n + 1, .mk kind is neg d e s ks kids, h => by
    obtain ⟨⟨h1, h2, h3, h4, h5, h6, h7, h8, h9, h10⟩, hk⟩ := h
    have hall : bulkAll (sortAllT kids) ≤ bulkAll kids := by
      rw [sortAllT_map]
      exact bulkAll_map _ (fun t ht => sort_bulk n t (rightT_all hk t ht))
    by_cases h6k : kind = 6
    · have hl := h7 h6k
      rw [sortT, if_pos h6k]
      simp only [Tree.bulk]
      rw [ksBulk_perm (sort_keys hl), bulkAll_perm (sort_kids hl)]
      omega
    · rw [sortT, if_neg h6k]
      simp only [Tree.bulk, ksBulk]
      omega

def findF (key : ByteArray) : List Fld → Option Tree
  | [] => none
  | x :: l => if x.1 = key then some x.2 else findF key l
theorem findK_zip (key : ByteArray) : ∀ (ks : List ByteArray) (ts : List Tree), findK key ks ts = findF key (ks.zip ts)
  | [], _ => by simp [findK, findF]
  | _ :: _, [] => by simp [findK, findF]
  | k :: ks, t :: ts => by simp [findK, findF, findK_zip key ks ts]
theorem findF_mem {key : ByteArray} {u : Tree} : ∀ {l : List Fld}, (l.map (·.1)).Nodup → (key, u) ∈ l → findF key l = some u
  | x :: l, hn, h => by
    rw [List.map_cons, List.nodup_cons] at hn
    unfold findF
    rcases List.mem_cons.1 h with rfl | h
    · simp
    · have : x.1 ≠ key := fun e => hn.1 (by rw [e]; exact List.mem_map_of_mem (f := (·.1)) h)
      rw [if_neg this]
      exact findF_mem hn.2 h
theorem findF_some {key : ByteArray} : ∀ {l : List Fld}, key ∈ l.map (·.1) → ∃ u, (key, u) ∈ l
  | x :: l, h => by
    rw [List.map_cons, List.mem_cons] at h
    rcases h with rfl | h
    · exact ⟨x.2, by simp⟩
    · obtain ⟨u, hu⟩ := findF_some h
      exact ⟨u, by simp [hu]⟩
/-- Each key of what is right has, sorted, its value, sorted. -/
theorem sort_find {n : Nat} {kind : Int} {is neg : Bool} {d : ByteArray} {e : Int} {s : ByteArray} {ks : List ByteArray} {kids : List Tree} (h : rightT (n + 1) (.mk kind is neg d e s ks kids)) {key : ByteArray} (hk : key ∈ ks) :
    ∃ u, getT key (.mk kind is neg d e s ks kids) = some u ∧ getT key (sortT (.mk kind is neg d e s ks kids)) = some (sortT u) ∧ rightT n u := by
  obtain ⟨⟨h1, h2, h3, h4, h5, h6, h7, h8, h9, h10⟩, hkk⟩ := h
  have h6k : kind = 6 := by
    rcases h5 with h | h
    · exact h
    · rw [List.length_eq_zero_iff] at h; subst h; cases hk
  have hl := h7 h6k
  have hn : ((ks.zip (sortAllT kids)).map (·.1)).Nodup := by rw [zip_fst _ _ (by rw [sortAllT_len]; exact hl)]; exact h10.2
  have hn2 : ((ks.zip kids).map (·.1)).Nodup := by rw [zip_fst _ _ hl]; exact h10.2
  obtain ⟨u, hu⟩ := findF_some (key := key) (l := ks.zip kids) (by rw [zip_fst _ _ hl]; exact hk)
  have hmap : ks.zip (sortAllT kids) = (ks.zip kids).map (fun x => (x.1, sortT x.2)) := by
    rw [sortAllT_map, List.zip_map_right]
    rfl
  have hu2 : (key, sortT u) ∈ ks.zip (sortAllT kids) := by
    rw [hmap]
    exact List.mem_map.2 ⟨_, hu, rfl⟩
  refine ⟨u, ?_, ?_, ?_⟩
  · rw [getT, if_pos h6k, findK_zip]; exact findF_mem hn2 hu
  · rw [sortT, if_pos h6k, getT, if_pos h6k, findK_zip, zip_of]
    exact findF_mem (nodup_perm (sortF_perm _) hn) ((sortF_perm _).mem_iff.2 hu2)
  · exact rightT_all hkk u (List.of_mem_zip hu).2

mutual
/-- Whether a value and all in it are right, but for how deep it is. -/
def wholeT : Tree → Prop
  | .mk kind is neg d e s ks kids => plainT (.mk kind is neg d e s ks kids) ∧ wholeAll kids
def wholeAll : List Tree → Prop
  | [] => True
  | t :: r => wholeT t ∧ wholeAll r
end
theorem wholeAll_iff : ∀ l : List Tree, wholeAll l ↔ ∀ k (h : k < l.length), wholeT l[k]
  | [] => by simp [wholeAll]
  | t :: r => by
    simp only [wholeAll]
    rw [wholeAll_iff r]
    constructor
    · rintro ⟨h1, h2⟩ k hk
      cases k with
      | zero => exact h1
      | succ k => exact h2 k (by simpa using hk)
    · intro h
      exact ⟨h 0 (by simp), fun k hk => h (k + 1) (by simp; omega)⟩
theorem deepAll_le (n : Nat) : ∀ l : List Tree, deepAll l ≤ n ↔ ∀ k (h : k < l.length), deep l[k] ≤ n
  | [] => by simp [deepAll]
  | t :: r => by
    have ih := deepAll_le n r
    simp only [deepAll]
    constructor
    · intro h k hk
      cases k with
      | zero => simp only [List.getElem_cons_zero]; omega
      | succ k => exact ih.1 (by omega) k (by simpa using hk)
    · intro h
      have h0 := h 0 (by simp)
      have h1 := ih.2 (fun k hk => h (k + 1) (by simp; omega))
      simp only [List.getElem_cons_zero] at h0
      omega
theorem right_iff : ∀ (n : Nat) (t : Tree), rightT n t ↔ deep t ≤ n ∧ wholeT t
  | 0, .mk kind is neg d e s ks kids => by
    simp only [rightT, false_iff, deep]
    omega
  | n + 1, .mk kind is neg d e s ks kids => by
    simp only [rightT, deep, wholeT]
    rw [wholeAll_iff]
    have hd : plainT (.mk kind is neg d e s ks kids) → ((if kind = 5 ∨ kind = 6 then deepAll kids else 0) + 1 ≤ n + 1 ↔ ∀ k (h : k < kids.length), deep kids[k] ≤ n) := fun hp => by
      by_cases hk : kind = 5 ∨ kind = 6
      · rw [if_pos hk, ← deepAll_le]; omega
      · rw [if_neg hk]
        have : kids = [] := by
          rcases hp.2.2.2.2.2.1 with h | h | h
          · exact absurd (.inl h) hk
          · exact absurd (.inr h) hk
          · exact List.length_eq_zero_iff.1 h
        subst this
        simp
    constructor
    · rintro ⟨h1, h2⟩
      exact ⟨(hd h1).2 (fun k hk => ((right_iff n _).1 (h2 k hk)).1), h1, fun k hk => ((right_iff n _).1 (h2 k hk)).2⟩
    · rintro ⟨h1, h2, h3⟩
      exact ⟨h2, fun k hk => (right_iff n _).2 ⟨(hd h2).1 h1 k hk, h3 k hk⟩⟩
end Go.Proofs.YtpcfhiipkbpmkaaDoor
