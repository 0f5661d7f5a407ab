/- The walks of the reference's Put and guess (layer 2). -/
import Derived.Test.YtpcfhiipkbpmkaaDoorUtfD
namespace Go.Proofs.YtpcfhiipkbpmkaaDoor
open Go.RowKit Go.Tab

def leadOf (n : Nat) : Int := if n = 0 then 0 else if n = 1 then 192 else if n = 2 then 224 else 240
def guessG : List Nat → Int → Int
  | [], c => c
  | b :: r, c => guessG r (c * 64 + b - 128)
def guessN : List Nat → Int
  | [] => 0
  | a :: r => guessG r (a - leadOf r.length)

theorem guess_put {c : Nat} (h : isSc c = true) : guessN (putN c) = c := by
  rw [isSc_iff] at h
  unfold putN
  by_cases h1 : c < 128
  · simp [h1, guessN, guessG, leadOf]
  by_cases h2 : c < 2048
  · rw [if_neg h1, if_pos h2]
    show (((192 + c / 64 : Nat) : Int) - 192) * 64 + ((128 + c % 64 : Nat) : Int) - 128 = c
    omega
  by_cases h3 : c < 65536
  · rw [if_neg h1, if_neg h2, if_pos h3]
    show ((((224 + c / 4096 : Nat) : Int) - 224) * 64 + ((128 + c / 64 % 64 : Nat) : Int) - 128) * 64 + ((128 + c % 64 : Nat) : Int) - 128 = c
    omega
  · rw [if_neg h1, if_neg h2, if_neg h3]
    show (((((240 + c / 262144 : Nat) : Int) - 240) * 64 + ((128 + c / 4096 % 64 : Nat) : Int) - 128) * 64 + ((128 + c / 64 % 64 : Nat) : Int) - 128) * 64 + ((128 + c % 64 : Nat) : Int) - 128 = c
    omega

/-- What so many bytes would be is a scalar, written so, just if it is told. -/
theorem guess_yes {l : List Nat} (hl : ∀ x ∈ l, x < 256) {n : Nat} (h1 : 1 ≤ n) (h2 : n ≤ l.length) : ((oneN l).2 = n) ↔ (isScI (guessN (l.take n)) = true ∧ putN (guessN (l.take n)).toNat = l.take n) := by
  constructor
  · intro h
    obtain ⟨c, m, h3⟩ : ∃ c m, oneN l = (c, m) := ⟨_, _, rfl⟩
    rw [h3] at h
    simp only at h
    subst h
    obtain ⟨g1, g2, g3, g4⟩ := put_oneN hl h3 (by omega)
    have hg : guessN (l.take m) = c := by rw [← g3]; exact guess_put g1
    rw [hg, isScI_nat]
    exact ⟨g1, by simpa using g3⟩
  · rintro ⟨g1, g2⟩
    obtain ⟨c, hc⟩ : ∃ c : Nat, guessN (l.take n) = c := by
      refine ⟨(guessN (l.take n)).toNat, ?_⟩
      unfold isScI at g1
      simp at g1
      omega
    rw [hc] at g1 g2
    rw [isScI_nat] at g1
    simp only [Int.toNat_natCast] at g2
    have hw : wid c = n := by rw [← putN_len, g2]; simp; omega
    have := oneN_put g1 (l.drop n)
    rw [g2, List.take_append_drop] at this
    rw [this, hw]
theorem guess_is {l : List Nat} (hl : ∀ x ∈ l, x < 256) {n : Nat} (h1 : 1 ≤ n) (h : (oneN l).2 = n) : guessN (l.take n) = (oneN l).1 := by
  obtain ⟨c, m, h3⟩ : ∃ c m, oneN l = (c, m) := ⟨_, _, rfl⟩
  rw [h3] at h ⊢
  simp only at h ⊢
  subst h
  obtain ⟨g1, g2, g3, g4⟩ := put_oneN hl h3 (by omega)
  rw [← g3]; exact guess_put g1

def rputL (c : Int) : List UInt8 := if isScI c then putU c.toNat else []

set_option maxHeartbeats 800000 in
set_option maxRecDepth 100000 in
theorem rPut_none (c : Int) (w : World) (h : isScI c = false) :
    Calls Tryd.prog 172 #[.int .i64 c] w fun e w' => e = .returned (.string (strOf [])) ∧ w = w' := by
  unfold isScI at h
  by_cases h0 : c < 0
  · clear h
    go_enter Tryd.func172, Tryd.ntmps172
    go_wp2
    go_ret
    exact ⟨rfl, rfl⟩
  · by_cases h1 : 1114111 < c
    · have d0 : decide (c < 0) = false := by simp; omega
      have d1 : decide (1114111 < c) = true := by simp; omega
      clear h h0 h1
      go_enter Tryd.func172, Tryd.ntmps172
      go_wp2
      go_ret
      exact ⟨rfl, rfl⟩
    · have d0 : decide (c < 0) = false := by simp; omega
      have d1 : decide (1114111 < c) = false := by simp; omega
      have d2 : decide (55296 ≤ c) = true := by simp at h; simp; omega
      have d3 : decide (c ≤ 57343) = true := by simp at h; simp; omega
      clear h h0 h1
      go_enter Tryd.func172, Tryd.ntmps172
      go_wp2
      go_ret
      exact ⟨rfl, rfl⟩

set_option maxHeartbeats 800000 in
set_option maxRecDepth 100000 in
theorem rPut_put (c : Nat) (w : World) (h : isSc c = true) :
    Calls Tryd.prog 172 #[.int .i64 c] w fun e w' => e = .returned (.string (strOf (putU c))) ∧ Below w.heap.size w w' := by
  rw [isSc_iff] at h
  have d0 : decide ((c : Int) < 0) = false := by rw [decide_eq_false_iff_not]; omega
  have d1 : decide (1114111 < (c : Int)) = false := by simp; omega
  have hg : decide (55296 ≤ (c : Int)) = false ∨ decide (55296 ≤ (c : Int)) = true ∧ decide ((c : Int) ≤ 57343) = false := by
    rcases h.2 with h | h
    · exact .inl (by simp; omega)
    · exact .inr ⟨by simp; omega, by simp; omega⟩
  by_cases h1 : c < 128
  · have hp : putU c = [UInt8.ofNat c] := by simp [putU, putN, h1]
    have hcv := conv_back w [UInt8.ofNat c] #[.int .u8 c] 1 (putU c) hp (by simp [byteV]; omega) rfl
    have e1 : decide ((c : Int) < 128) = true := by simp; omega
    have hb : c ≤ 127 := by omega
    clear hp h h1
    rcases hg with d2 | ⟨d2, d3⟩
    all_goals
      go_enter Tryd.func172, Tryd.ntmps172
      go_wp2
      go_ret
      exact ⟨rfl, (Below.refl _ _).alloc (Nat.le_refl _) _⟩
  have e1 : decide ((c : Int) < 128) = false := by simp; omega
  by_cases h2 : c < 2048
  · have hp : putU c = [UInt8.ofNat (192 + c / 64), UInt8.ofNat (128 + c % 64)] := by simp [putU, putN, h1, h2]
    have hcv := conv_back w [UInt8.ofNat (192 + c / 64), UInt8.ofNat (128 + c % 64)] #[.int .u8 (192 + (c : Int) / 64), .int .u8 (128 + (c : Int) % 64)] 2 (putU c) hp (by simp [byteV]; omega) rfl
    have e2 : decide ((c : Int) < 2048) = true := by simp; omega
    have hb : c / 64 ≤ 31 := by omega
    clear hp h h1 h2
    rcases hg with d2 | ⟨d2, d3⟩
    all_goals
      go_enter Tryd.func172, Tryd.ntmps172
      go_wp2
      go_ret
      exact ⟨rfl, (Below.refl _ _).alloc (Nat.le_refl _) _⟩
  have e2 : decide ((c : Int) < 2048) = false := by simp; omega
  by_cases h3 : c < 65536
  · have hp : putU c = [UInt8.ofNat (224 + c / 4096), UInt8.ofNat (128 + c / 64 % 64), UInt8.ofNat (128 + c % 64)] := by simp [putU, putN, h1, h2, h3]
    have hcv := conv_back w [UInt8.ofNat (224 + c / 4096), UInt8.ofNat (128 + c / 64 % 64), UInt8.ofNat (128 + c % 64)] #[.int .u8 (224 + (c : Int) / 4096), .int .u8 (128 + (c : Int) / 64 % 64), .int .u8 (128 + (c : Int) % 64)] 3 (putU c) hp (by simp [byteV]; omega) rfl
    have e3 : decide ((c : Int) < 65536) = true := by simp; omega
    have hb : c / 4096 ≤ 15 := by omega
    clear hp h h1 h2 h3
    rcases hg with d2 | ⟨d2, d3⟩
    all_goals
      go_enter Tryd.func172, Tryd.ntmps172
      go_wp2
      go_ret
      exact ⟨rfl, (Below.refl _ _).alloc (Nat.le_refl _) _⟩
  · have e3 : decide ((c : Int) < 65536) = false := by simp; omega
    have hp : putU c = [UInt8.ofNat (240 + c / 262144), UInt8.ofNat (128 + c / 4096 % 64), UInt8.ofNat (128 + c / 64 % 64), UInt8.ofNat (128 + c % 64)] := by simp [putU, putN, h1, h2, h3]
    have hcv := conv_back w [UInt8.ofNat (240 + c / 262144), UInt8.ofNat (128 + c / 4096 % 64), UInt8.ofNat (128 + c / 64 % 64), UInt8.ofNat (128 + c % 64)] #[.int .u8 (240 + (c : Int) / 262144), .int .u8 (128 + (c : Int) / 4096 % 64), .int .u8 (128 + (c : Int) / 64 % 64), .int .u8 (128 + (c : Int) % 64)] 4 (putU c) hp (by simp [byteV]; omega) rfl
    have hb : c / 262144 ≤ 4 := by omega
    clear hp h h1 h2 h3
    rcases hg with d2 | ⟨d2, d3⟩
    all_goals
      go_enter Tryd.func172, Tryd.ntmps172
      go_wp2
      go_ret
      exact ⟨rfl, (Below.refl _ _).alloc (Nat.le_refl _) _⟩

theorem rPut_any (c : Int) (w : World) :
    Calls Tryd.prog 172 #[.int .i64 c] w fun e w' => e = .returned (.string (strOf (rputL c))) ∧ Below w.heap.size w w' := by
  unfold rputL
  cases h : isScI c with
  | false => exact (rPut_none c w h).mono fun e w' ⟨h1, h2⟩ => ⟨by rw [h1]; rfl, by rw [← h2]; exact Below.refl _ _⟩
  | true =>
    obtain ⟨n, rfl⟩ : ∃ n : Nat, c = n := ⟨c.toNat, by unfold isScI at h; simp at h; omega⟩
    rw [isScI_nat] at h
    simpa using rPut_put n w h
end Go.Proofs.YtpcfhiipkbpmkaaDoor
