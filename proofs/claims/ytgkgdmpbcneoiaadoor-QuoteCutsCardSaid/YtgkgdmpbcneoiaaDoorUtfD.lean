/- The walks of layer 2's Put and of the reference's Put. -/
import Derived.Test.YtgkgdmpbcneoiaaDoorUtfC
import Derived.Laws.IdiomStrings
namespace Go.Proofs.YtgkgdmpbcneoiaaDoor
open Go.RowKit Go.Tab

def strOf (l : List UInt8) : ByteArray := ⟨l.toArray⟩
theorem or_join (k m x : Nat) (hx : x < 2 ^ k) (hm : 2 ^ k * m < 256) (hx2 : x < 256) : bits .or .i64 ((2 ^ k * m : Nat) : Int) (x : Int) = ((2 ^ k * m + x : Nat) : Int) := by
  have := i64_or_nat (2 ^ k * m) x (by omega) (by omega)
  rw [← Nat.two_pow_add_eq_or_of_lt hx m] at this
  exact this
theorem or128 (x : Nat) (h : x < 64) : bits .or .i64 128 (x : Int) = ((128 + x : Nat) : Int) := or_join 6 2 x h (by decide) (by omega)
theorem or192 (x : Nat) (h : x < 64) : bits .or .i64 192 (x : Int) = ((192 + x : Nat) : Int) := or_join 6 3 x h (by decide) (by omega)
theorem or224 (x : Nat) (h : x < 32) : bits .or .i64 224 (x : Int) = ((224 + x : Nat) : Int) := or_join 5 7 x h (by decide) (by omega)
theorem or240 (x : Nat) (h : x < 16) : bits .or .i64 240 (x : Int) = ((240 + x : Nat) : Int) := or_join 4 15 x h (by decide) (by omega)

set_option maxHeartbeats 800000 in
set_option maxRecDepth 100000 in
theorem tail_any (c : Nat) (w : World) (hc : c ≤ 1114111) : Calls Tryd.prog 46 #[.int .i64 c] w fun e w' => e = .returned (.int .u8 (128 + c % 64 : Nat)) ∧ w = w' := by
  have m1 := and63 c (by omega)
  have m2 := or128 (c % 64) (by omega)
  push_cast at m1 m2
  clear hc
  go_enter Tryd.func46, Tryd.ntmps46
  go_wp2
  go_ret
  exact ⟨ret_num (by simp), rfl⟩
theorem Tryd.underS : Tryd.prog.underlying 9 = some .string := by kernel_rfl
theorem Tryd.underI : Tryd.prog.underlying 3 = some (.int .i64) := by kernel_rfl
theorem conv_back (w : World) (l : List UInt8) (cs : Array Value) (n : Nat) (m : List UInt8) (hm : m = l) (h : cs = (l.map byteV).toArray) (hn : n = l.length) :
    (convert 41 9 (.slice (some ⟨w.heap.size, 0, none⟩) n n)).run Tryd.prog (w.alloc (.cells cs 5)) = .ok (.string (strOf m)) (w.alloc (.cells cs 5)) := by
  subst hm h hn
  refine run_convert_bytes_back (P := Tryd.prog) _ _ _ 5 _ m.length m Tryd.underlying41 Tryd.underlying5 Tryd.underS fun j hj => ?_
  rw [Addr.add_lit, World.cell?_alloc_new]
  simp [hj]

set_option maxHeartbeats 800000 in
set_option maxRecDepth 100000 in
theorem Put_any (c : Nat) (w : World) (h : isSc c = true) :
    Calls Tryd.prog 36 #[.int .i64 c] w fun e w' => e = .returned (.tuple #[.string (strOf (putU c)), .bool true]) ∧ Below w.heap.size w w' := by
  have hS := isScalar_any (c : Int) w
  rw [isScI_nat, h] at hS
  rw [isSc_iff] at h
  obtain ⟨h, -⟩ := h
  by_cases h1 : c < 128
  · have hW := width_any c w
    rw [show wid c = 1 by simp [wid, h1]] at hW
    have hp : putU c = [UInt8.ofNat c] := by simp [putU, putN, h1]
    have hcv := conv_back w [UInt8.ofNat c] #[.int .u8 c] 1 (putU c) hp (by simp [byteV]; omega) rfl
    clear hp
    go_enter Tryd.func36, Tryd.ntmps36
    go_wp2_with fail
    refine hS.mono ?_
    rintro e w1 ⟨rfl, rfl⟩
    go_wp2_with fail
    refine hW.mono ?_
    rintro e w1 ⟨rfl, rfl⟩
    go_wp2
    go_ret2
    exact ⟨rfl, (Below.refl _ _).alloc (Nat.le_refl _) _⟩
  · by_cases h2 : c < 2048
    · have hW := width_any c w
      rw [show wid c = 2 by simp [wid, h1, h2]] at hW
      have hp : putU c = [UInt8.ofNat (192 + c / 64), UInt8.ofNat (128 + c % 64)] := by simp [putU, putN, h1, h2]
      have m1 := or192 (c / 64) (by omega)
      push_cast at m1
      have H := Lib.hid h
      have hcv := conv_back w [UInt8.ofNat (192 + c / 64), UInt8.ofNat (128 + c % 64)] #[.int .u8 (192 + (c : Int) / 64), .int .u8 (128 + (c : Int) % 64)] 2 (putU c) hp (by simp [byteV]; omega) rfl
      have hb : c / 64 ≤ 31 := by omega
      clear hp h h1 h2
      go_enter Tryd.func36, Tryd.ntmps36
      go_wp2_with fail
      refine hS.mono ?_
      rintro e w1 ⟨rfl, rfl⟩
      go_wp2_with fail
      refine hW.mono ?_
      rintro e w1 ⟨rfl, rfl⟩
      go_wp2_with fail
      refine (tail_any c w H.out).mono ?_
      rintro e w1 ⟨rfl, rfl⟩
      go_wp2
      go_ret2
      exact ⟨rfl, (Below.refl _ _).alloc (Nat.le_refl _) _⟩
    · by_cases h3 : c < 65536
      · have hW := width_any c w
        rw [show wid c = 3 by simp [wid, h1, h2, h3]] at hW
        have hp : putU c = [UInt8.ofNat (224 + c / 4096), UInt8.ofNat (128 + c / 64 % 64), UInt8.ofNat (128 + c % 64)] := by simp [putU, putN, h1, h2, h3]
        have m1 := or224 (c / 4096) (by omega)
        push_cast at m1
        have H := Lib.hid h
        have H2 := Lib.hid (show c / 64 ≤ 1114111 by omega)
        have hcv := conv_back w [UInt8.ofNat (224 + c / 4096), UInt8.ofNat (128 + c / 64 % 64), UInt8.ofNat (128 + c % 64)] #[.int .u8 (224 + (c : Int) / 4096), .int .u8 (128 + (c : Int) / 64 % 64), .int .u8 (128 + (c : Int) % 64)] 3 (putU c) hp (by simp [byteV]; omega) rfl
        have hb : c / 4096 ≤ 15 := by omega
        clear hp h h1 h2 h3
        go_enter Tryd.func36, Tryd.ntmps36
        go_wp2_with fail
        refine hS.mono ?_
        rintro e w1 ⟨rfl, rfl⟩
        go_wp2_with fail
        refine hW.mono ?_
        rintro e w1 ⟨rfl, rfl⟩
        go_wp2_with fail
        refine (tail_any (c / 64) w H2.out).mono ?_
        rintro e w1 ⟨rfl, rfl⟩
        go_wp2_with fail
        refine (tail_any c w H.out).mono ?_
        rintro e w1 ⟨rfl, rfl⟩
        go_wp2
        go_ret2
        exact ⟨rfl, (Below.refl _ _).alloc (Nat.le_refl _) _⟩
      · have hW := width_any c w
        rw [show wid c = 4 by simp [wid, h1, h2, h3]] at hW
        have hp : putU c = [UInt8.ofNat (240 + c / 262144), UInt8.ofNat (128 + c / 4096 % 64), UInt8.ofNat (128 + c / 64 % 64), UInt8.ofNat (128 + c % 64)] := by simp [putU, putN, h1, h2, h3]
        have m1 : bits .or .i64 240 ((c : Int) / 262144) = 240 + (c : Int) / 262144 := by
          have := or240 (c / 262144) (by omega)
          rw [Int.natCast_add, Int.natCast_ediv] at this
          exact this
        have H := Lib.hid h
        have H2 := Lib.hid (show c / 64 ≤ 1114111 by omega)
        have H3 := Lib.hid (show c / 4096 ≤ 1114111 by omega)
        have hcv := conv_back w [UInt8.ofNat (240 + c / 262144), UInt8.ofNat (128 + c / 4096 % 64), UInt8.ofNat (128 + c / 64 % 64), UInt8.ofNat (128 + c % 64)] #[.int .u8 (240 + (c : Int) / 262144), .int .u8 (128 + (c : Int) / 4096 % 64), .int .u8 (128 + (c : Int) / 64 % 64), .int .u8 (128 + (c : Int) % 64)] 4 (putU c) hp (by simp [byteV]; omega) rfl
        have hb : c / 262144 ≤ 4 := by omega
        clear hp h h1 h2 h3
        go_enter Tryd.func36, Tryd.ntmps36
        go_wp2_with fail
        refine hS.mono ?_
        rintro e w1 ⟨rfl, rfl⟩
        go_wp2_with fail
        refine hW.mono ?_
        rintro e w1 ⟨rfl, rfl⟩
        go_wp2_with fail
        refine (tail_any (c / 4096) w H3.out).mono ?_
        rintro e w1 ⟨rfl, rfl⟩
        go_wp2_with fail
        refine (tail_any (c / 64) w H2.out).mono ?_
        rintro e w1 ⟨rfl, rfl⟩
        go_wp2_with fail
        refine (tail_any c w H.out).mono ?_
        rintro e w1 ⟨rfl, rfl⟩
        go_wp2
        go_ret2
        exact ⟨rfl, (Below.refl _ _).alloc (Nat.le_refl _) _⟩

set_option maxHeartbeats 800000 in
set_option maxRecDepth 100000 in
theorem Put_none (c : Int) (w : World) (h : isScI c = false) :
    Calls Tryd.prog 36 #[.int .i64 c] w fun e w' => e = .returned (.tuple #[.string (strOf []), .bool false]) ∧ w = w' := by
  have hS := isScalar_any c w
  rw [h] at hS
  go_enter Tryd.func36, Tryd.ntmps36
  go_wp2_with fail
  refine hS.mono ?_
  rintro e w1 ⟨rfl, rfl⟩
  go_wp2
  go_ret2
  exact ⟨rfl, rfl⟩
end Go.Proofs.YtgkgdmpbcneoiaaDoor
