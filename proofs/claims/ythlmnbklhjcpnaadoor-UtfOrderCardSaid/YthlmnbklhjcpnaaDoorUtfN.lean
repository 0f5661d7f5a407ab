/- The walk of UtfPuts: it returns true. -/
import Derived.Test.YthlmnbklhjcpnaaDoorUtfL
import Derived.Test.YthlmnbklhjcpnaaDoorUtfM
namespace Go.Proofs.YthlmnbklhjcpnaaDoor
open Go.RowKit Go.Tab

theorem pairs_lit (w : World) (a c : Nat) (x y : Int) (hx : x = a) (hy : y = c) : PairsAt (w.alloc (.cells #[.int .i64 x, .int .i64 y] 30)) (.slice (some ⟨w.heap.size, 0, none⟩) 1 1) [(a, c)] := by
  subst hx hy
  refine ⟨_, 1, rfl, Nat.le_refl _, by decide, (fun h => by cases h), fun x hx _ => ?_⟩
  cases hx
  refine ⟨rfl, by simp, fun j hj => ?_⟩
  obtain rfl : j = 0 := by simp at hj; omega
  constructor <;> (rw [World.cell?_alloc_new]; rfl)
theorem putU_ne {n : Nat} : ((strOf (putU n)).toList == ([] : List UInt8)) = false := by
  have h := putU_length n
  have hw := wid_pos n
  rw [beq_eq_false_iff_ne]
  intro h2
  rw [strOf, ByteArray.toList_mk] at h2
  rw [h2] at h
  simp at h; omega

set_option maxHeartbeats 3000000 in
set_option maxRecDepth 100000 in
theorem UtfPuts_walk (a0 : Int) (w : World) (w0 : (Lit.int .i64 a0).wf = true) (hT : Tab w) :
    Calls Tryd.prog 5 #[.int .i64 a0] w fun e w' => e = .returned (.bool true) ∧ Below w.heap.size w w' := by
  have hwk := uwakes_any w hT
  clear w0
  cases hsc : isScI a0 with
  | false =>
    have hP := fun w' => Put_none a0 w' hsc
    have hR := fun w' => rPut_none a0 w' hsc
    clear hsc
    go_enter Tryd.func5, Tryd.ntmps5
    go_wp2_with fail
    refine hwk.mono ?_
    rintro e w1 ⟨rfl, hb1⟩
    go_wp2_with fail
    refine (hP w1).mono ?_
    rintro e w2 ⟨rfl, rfl⟩
    go_wp2_with fail
    refine (hR w1).mono ?_
    rintro e w2 ⟨rfl, rfl⟩
    rw [show strOf [] = (⟨#[]⟩ : ByteArray) from rfl]
    go_wp2
    go_ret
    exact ⟨rfl, hb1⟩
  | true =>
    obtain ⟨n, rfl⟩ : ∃ n : Nat, a0 = n := ⟨a0.toNat, by unfold isScI at hsc; simp at hsc; omega⟩
    rw [isScI_nat] at hsc
    have hP := fun w' => Put_any n w' hsc
    have hR := fun w' => rPut_put n w' hsc
    have hbs := bs_putU hsc
    have hscan : scan (bs (strOf (putU n))) 0 = ([(0, n)], none) := by rw [hbs, scan_put hsc]
    have hsz : (strOf (putU n)).size ≤ 4 := by rw [← bs_length, hbs, putN_len]; exact (wid_pos n).2
    have hne : ((strOf (putU n)).toList == ([] : List UInt8)) = false := putU_ne
    have hV := fun w' hT' => Valid_any (strOf (putU n)) w' hT' (by omega)
    have hTo := fun w' hT' => told_any (strOf (putU n)) 9 w' (by omega) hT'
    rw [hscan] at hV hTo
    simp only [Option.isNone_none] at hV
    clear hscan hbs hsz hsc
    generalize strOf (putU n) = S at *
    go_enter Tryd.func5, Tryd.ntmps5
    go_wp2_with fail
    refine hwk.mono ?_
    rintro e w1 ⟨rfl, hb1⟩
    have hz1 := hb1.size
    go_wp2_with fail
    refine (hP w1).mono ?_
    rintro e w2 ⟨rfl, hb2'⟩
    have hb2 := hb1.trans (hb2'.mono hz1)
    have hz2 := hb2.size
    go_wp2_with fail
    refine (hR w2).mono ?_
    rintro e w3 ⟨rfl, hb3'⟩
    have hb3 := hb2.trans (hb3'.mono hz2)
    have hz3 := hb3.size
    have hT3 := hT.below hb3 hT.pos
    go_wp2_with fail
    refine (hV w3 hT3).mono ?_
    rintro e w4 ⟨rfl, rfl⟩
    go_wp2_with fail
    refine (hTo w3 hT3).mono ?_
    rintro e w4 ⟨v4, rfl, ho4, hb4'⟩
    have hb4 := hb3.trans (hb4'.mono hz3)
    have hz4 := hb4.size
    have hp4 := ho4.pairs
    rw [show [(0, n)].take 9 = [(0, n)] from rfl] at hp4
    clear ho4
    go_wp2_with fail
    refine (same_yes _ _ [(0, n)] _ (hp4.below ((Below.refl _ _).alloc (Nat.le_refl _) _)) (pairs_lit w4 0 n _ _ rfl rfl)).mono ?_
    rintro e w5 ⟨rfl, hb5'⟩
    have hb5 : Below w.heap.size w w5 := (hb4.alloc hz4 _).trans (hb5'.mono (by simp; omega))
    go_wp2
    go_ret
    exact ⟨rfl, hb5⟩
end Go.Proofs.YthlmnbklhjcpnaaDoor
