/- What Parse finds in a number's text (layer 6), plain. -/
import Derived.Test.YthiggalnjjcejaaDoorNuH
import Derived.Lib.IndexAny
import Derived.Lib.Bytealg
namespace Go.Proofs.YthiggalnjjcejaaDoor
set_option linter.unusedSimpArgs false
set_option linter.unusedVariables false

theorem idxAny_none {ch : Bs} : ∀ {l : Bs}, (∀ x ∈ l, ch.contains x = false) → Lib.indexAny l ch = -1
  | [], _ => rfl
  | b :: l, h => by
    rw [Lib.indexAny, h b (List.mem_cons_self ..), idxAny_none (fun x hx => h x (List.mem_cons_of_mem _ hx))]
    rfl
theorem idxAny_at {ch : Bs} {m : UInt8} {t : Bs} (hm : ch.contains m = true) : ∀ {l : Bs}, (∀ x ∈ l, ch.contains x = false) → Lib.indexAny (l ++ m :: t) ch = l.length
  | [], _ => by rw [List.nil_append, Lib.indexAny, if_pos hm]; rfl
  | b :: l, h => by
    rw [List.cons_append, Lib.indexAny, h b (List.mem_cons_self ..), idxAny_at hm (fun x hx => h x (List.mem_cons_of_mem _ hx))]
    have : (((l.length : Nat) : Int) == -1) = false := by rw [beq_eq_false_iff_ne]; omega
    rw [this]
    simp
theorem idxB_none {c : UInt8} : ∀ {l : Bs}, (∀ x ∈ l, x ≠ c) → Lib.indexByte l c = -1
  | [], _ => rfl
  | b :: l, h => by
    have h1 : (b == c) = false := by rw [beq_eq_false_iff_ne]; exact h b (List.mem_cons_self ..)
    rw [Lib.indexByte, h1, idxB_none (fun x hx => h x (List.mem_cons_of_mem _ hx))]
    rfl
theorem idxB_at {c : UInt8} {t : Bs} : ∀ {l : Bs}, (∀ x ∈ l, x ≠ c) → Lib.indexByte (l ++ c :: t) c = l.length
  | [], _ => by rw [List.nil_append, Lib.indexByte, if_pos (by simp)]; rfl
  | b :: l, h => by
    have h1 : (b == c) = false := by rw [beq_eq_false_iff_ne]; exact h b (List.mem_cons_self ..)
    rw [List.cons_append, Lib.indexByte, h1, idxB_at (fun x hx => h x (List.mem_cons_of_mem _ hx))]
    have : (((l.length : Nat) : Int) == -1) = false := by rw [beq_eq_false_iff_ne]; omega
    rw [this]
    simp
/-- The digits, with their point. -/
def frontT (ip fr : Bs) : Bs := ip ++ (if fr = [] then [] else 46 :: fr)
section
variable {l : Bs} {neg : Bool} {ip fr mk sg pw : Bs}
theorem NumTxt.eq' (h : NumTxt l neg ip fr mk sg pw) : l = (if neg then [45] else []) ++ (frontT ip fr ++ (mk ++ (sg ++ pw))) := by
  rw [frontT, List.append_assoc]; exact h.eq
theorem NumTxt.front_mem (h : NumTxt l neg ip fr mk sg pw) {x : UInt8} (hx : x ∈ frontT ip fr) : dg x = true ∨ x = 46 := by
  rw [frontT, List.mem_append] at hx
  rcases hx with hx | hx
  · exact .inl (List.all_eq_true.1 h.dip x hx)
  · by_cases hf : fr = []
    · rw [if_pos hf] at hx; simp at hx
    · rw [if_neg hf] at hx
      rcases List.mem_cons.1 hx with rfl | hx
      · exact .inr rfl
      · exact .inl (List.all_eq_true.1 h.dfr x hx)
theorem NumTxt.front_any (h : NumTxt l neg ip fr mk sg pw) : ∀ x ∈ frontT ip fr, ([101, 69] : Bs).contains x = false := by
  intro x hx
  have h3 : x ≠ 101 ∧ x ≠ 69 := by
    rcases h.front_mem hx with h1 | rfl
    · exact ⟨dg_ne h1 (by decide), dg_ne h1 (by decide)⟩
    · decide
  simp [h3.1, h3.2]
theorem NumTxt.cut (h : NumTxt l neg ip fr mk sg pw) : Lib.hasPrefix l [45] = neg ∧ Lib.trimPrefix l [45] = frontT ip fr ++ (mk ++ (sg ++ pw)) := by
  have he := h.eq'
  have hm : neg = false → Lib.hasPrefix l [45] = false := by
    intro hn
    subst hn
    rw [he]
    have hi := h.ip0
    have hd := h.dip
    rw [frontT]
    cases ip with
    | nil => exact absurd rfl hi
    | cons c p =>
      have hc := all_head hd (c := c) rfl
      show ([45] : Bs).isPrefixOf (c :: _) = false
      have : ((45 : UInt8) == c) = false := by rw [beq_eq_false_iff_ne]; exact (dg_ne hc (by decide)).symm
      simp [List.isPrefixOf, this]
  cases neg with
  | true =>
    have : Lib.hasPrefix l [45] = true := by rw [he]; rfl
    exact ⟨this, by rw [Lib.trimPrefix, if_pos this, he]; rfl⟩
  | false =>
    have := hm rfl
    exact ⟨this, by rw [Lib.trimPrefix, this, he]; rfl⟩
theorem NumTxt.mark_none (h : NumTxt l neg ip fr mk sg pw) (hm : mk = []) : Lib.indexAny (frontT ip fr ++ (mk ++ (sg ++ pw))) [101, 69] = -1 ∧ frontT ip fr ++ (mk ++ (sg ++ pw)) = frontT ip fr ∧ powP sg pw = 0 := by
  rcases h.exp with ⟨rfl, rfl, rfl⟩ | ⟨hm2, _, _⟩
  · simp only [List.append_nil]
    exact ⟨idxAny_none h.front_any, trivial, rfl⟩
  · subst hm; simp at hm2
theorem NumTxt.mark_some (h : NumTxt l neg ip fr mk sg pw) (hm : mk ≠ []) : Lib.indexAny (frontT ip fr ++ (mk ++ (sg ++ pw))) [101, 69] = (frontT ip fr).length ∧ (∃ m, mk = [m]) ∧ (sg = [] ∨ sg = [43] ∨ sg = [45]) ∧ pw ≠ [] := by
  rcases h.exp with ⟨rfl, _, _⟩ | ⟨hm2, hs, hp⟩
  · exact absurd rfl hm
  · rcases hm2 with rfl | rfl
    · exact ⟨idxAny_at rfl h.front_any, ⟨_, rfl⟩, hs, hp⟩
    · exact ⟨idxAny_at rfl h.front_any, ⟨_, rfl⟩, hs, hp⟩
theorem NumTxt.point_none (h : NumTxt l neg ip fr mk sg pw) (hf : fr = []) : Lib.indexByte (frontT ip fr) 46 = -1 ∧ frontT ip fr = ip ++ fr := by
  subst hf
  have : frontT ip [] = ip := by simp [frontT]
  rw [this]
  exact ⟨idxB_none (fun x hx => dg_ne (List.all_eq_true.1 h.dip x hx) (by decide)), by simp⟩
theorem NumTxt.point_some (h : NumTxt l neg ip fr mk sg pw) (hf : fr ≠ []) : Lib.indexByte (frontT ip fr) 46 = ip.length ∧ frontT ip fr = ip ++ 46 :: fr := by
  have : frontT ip fr = ip ++ 46 :: fr := by rw [frontT, if_neg hf]
  rw [this]
  exact ⟨idxB_at (fun x hx => dg_ne (List.all_eq_true.1 h.dip x hx) (by decide)), rfl⟩
theorem NumTxt.len (h : NumTxt l neg ip fr mk sg pw) : ip.length + fr.length ≤ l.length ∧ (frontT ip fr ++ (mk ++ (sg ++ pw))).length ≤ l.length ∧ (frontT ip fr).length ≤ l.length ∧ (fr ≠ [] → (frontT ip fr).length = ip.length + fr.length + 1) := by
  have he := congrArg List.length h.eq'
  have hf : (frontT ip fr).length = ip.length + (if fr = [] then 0 else fr.length + 1) := by
    rw [frontT, List.length_append]
    split <;> simp
  rw [List.length_append] at he
  have h2 : (frontT ip fr ++ (mk ++ (sg ++ pw))).length = (frontT ip fr).length + (mk ++ (sg ++ pw)).length := by rw [List.length_append]
  refine ⟨?_, by omega, by omega, fun h3 => ?_⟩
  · by_cases hfr : fr = []
    · subst hfr; simp at hf ⊢; omega
    · rw [if_neg hfr] at hf; omega
  · rw [hf, if_neg h3]; omega
theorem NumTxt.ascii (h : NumTxt l neg ip fr mk sg pw) : ∀ x ∈ frontT ip fr ++ (mk ++ (sg ++ pw)), x.toNat < 128 := by
  have hall : ∀ {a : Bs}, a.all dg = true → ∀ x ∈ a, x.toNat < 128 := fun ha x hx => by have := dg_lt (List.all_eq_true.1 ha x hx); omega
  intro x hx
  rcases List.mem_append.1 hx with hx | hx
  · rcases h.front_mem hx with h1 | rfl
    · have := dg_lt h1; omega
    · decide
  · rcases List.mem_append.1 hx with hx | hx
    · rcases h.exp with ⟨rfl, rfl, rfl⟩ | ⟨hm, hs, hp⟩
      · simp at hx
      · rcases hm with rfl | rfl <;> (simp at hx; subst hx; decide)
    · rcases List.mem_append.1 hx with hx | hx
      · rcases h.exp with ⟨rfl, rfl, rfl⟩ | ⟨hm, hs, hp⟩
        · simp at hx
        · rcases hs with rfl | rfl | rfl
          · simp at hx
          · simp at hx; subst hx; decide
          · simp at hx; subst hx; decide
      · exact hall h.dpw x hx
end
end Go.Proofs.YthiggalnjjcejaaDoor
