/- What the reference's Parse gathers, plain (layer 6). -/
import Derived.Test.YthiggalnjjcejaaDoorNuU
namespace Go.Proofs.YthiggalnjjcejaaDoor
set_option linter.unusedSimpArgs false
set_option linter.unusedVariables false

def stF (x : Bs × Int × Bool) (c : UInt8) : Bs × Int × Bool :=
  if c = 46 then (x.1, x.2.1, true) else (if x.1 ≠ [] ∨ c ≠ 48 then x.1 ++ [c] else x.1, if x.2.2 then x.2.1 - 1 else x.2.1, x.2.2)
theorem trimL_snoc (a : Bs) (c : UInt8) : Lib.trimLeftB (a ++ [c]) 48 = if Lib.trimLeftB a 48 ≠ [] ∨ c ≠ 48 then Lib.trimLeftB a 48 ++ [c] else Lib.trimLeftB a 48 := by
  unfold Lib.trimLeftB
  induction a with
  | nil =>
    by_cases h : c = 48
    · subst h; rfl
    · simp [h, List.dropWhile]
  | cons x a ih =>
    by_cases h : x = 48
    · subst h
      simpa [List.dropWhile_cons] using ih
    · simp [List.dropWhile_cons, h]
theorem stF_digits (p : Bool) : ∀ (b a : Bs) (e : Int), b.all dg = true → b.foldl stF (Lib.trimLeftB a 48, e, p) = (Lib.trimLeftB (a ++ b) 48, if p then e - b.length else e, p)
  | [], a, e, _ => by simp
  | c :: b, a, e, h => by
    rw [List.all_cons, Bool.and_eq_true] at h
    have hc : c ≠ 46 := dg_ne h.1 (by decide)
    have h1 : stF (Lib.trimLeftB a 48, e, p) c = (Lib.trimLeftB (a ++ [c]) 48, if p then e - 1 else e, p) := by
      rw [stF, if_neg hc, trimL_snoc]
    rw [List.foldl_cons, h1, stF_digits p b (a ++ [c]) _ h.2, List.append_assoc, List.singleton_append, List.length_cons]
    cases p
    · rfl
    · simp only [if_true]
      congr 2
      omega
section
variable {l : Bs} {neg : Bool} {ip fr mk sg pw : Bs}
theorem NumTxt.gather (h : NumTxt l neg ip fr mk sg pw) : ∃ p, (frontT ip fr).foldl stF ([], 0, false) = (valD ip fr, -(fr.length : Int), p) := by
  have e0 : (([] : Bs), (0 : Int), false) = (Lib.trimLeftB [] 48, (0 : Int), false) := rfl
  rw [frontT, List.foldl_append, e0, stF_digits false ip [] 0 h.dip, List.nil_append]
  by_cases hf : fr = []
  · subst hf
    exact ⟨false, by simp [valD]⟩
  · rw [if_neg hf, List.foldl_cons]
    have h1 : stF (Lib.trimLeftB ip 48, if false then (0 : Int) - ip.length else 0, false) 46 = (Lib.trimLeftB ip 48, 0, true) := rfl
    rw [h1, stF_digits true fr ip 0 h.dfr]
    exact ⟨true, by simp [valD]⟩
end
def stP (x : Nat × Bool) (c : UInt8) : Nat × Bool := (if dg c then addQ x.1 c else x.1, x.2 || decide (c = 45))
theorem stP_digits : ∀ (b : Bs) (n : Nat) (p : Bool), b.all dg = true → b.foldl stP (n, p) = (b.foldl addQ n, p)
  | [], _, _, _ => rfl
  | c :: b, n, p, h => by
    rw [List.all_cons, Bool.and_eq_true] at h
    have hc : decide (c = 45) = false := decide_eq_false (dg_ne h.1 (by decide))
    rw [List.foldl_cons, List.foldl_cons, stP, if_pos h.1, hc, Bool.or_false, stP_digits b _ p h.2]
theorem power_gather (sg pw : Bs) (hs : sg = [] ∨ sg = [43] ∨ sg = [45]) (hp : pw.all dg = true) : (sg ++ pw).foldl stP (0, false) = (pw.foldl addQ 0, decide (sg = [45])) := by
  rcases hs with rfl | rfl | rfl
  · exact stP_digits pw 0 false hp
  · rw [List.foldl_append]; exact stP_digits pw 0 false hp
  · rw [List.foldl_append]; exact stP_digits pw 0 true hp
theorem foldQ_lt : ∀ (l : Bs) (n : Nat), n < 10000000000 → l.all dg = true → l.foldl addQ n < 10000000000
  | [], _, h, _ => h
  | c :: l, n, h, hd => by
    rw [List.all_cons, Bool.and_eq_true] at hd
    have := dg_lt hd.1
    rw [List.foldl_cons]
    refine foldQ_lt l _ ?_ hd.2
    unfold addQ
    split <;> omega
theorem trimR_snoc (a : Bs) (c : UInt8) : Lib.trimRightB (a ++ [c]) 48 = if c = 48 then Lib.trimRightB a 48 else a ++ [c] := by
  unfold Lib.trimRightB
  rw [List.reverse_append, List.reverse_cons, List.reverse_nil, List.nil_append, List.singleton_append, List.dropWhile_cons]
  by_cases h : c = 48
  · subst h; simp
  · simp [h]
end Go.Proofs.YthiggalnjjcejaaDoor
