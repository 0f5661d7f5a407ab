/- The walk of the function that tells a value and all in it, one by one (layer 8). -/
import Derived.Test.YtpcfhiipkbpmkaaDoorTrwB
import Derived.Test.YtpcfhiipkbpmkaaDoorTreX
import Derived.Test.YtpcfhiipkbpmkaaDoorTreU
import Derived.Test.YtpcfhiipkbpmkaaDoorTreZ
import Derived.Stop.RegionWithIn
import Derived.Shelf.RegionOpen
import Derived.LoopNIn
import Derived.LoopIn
namespace Go.Proofs.YtpcfhiipkbpmkaaDoor
open Go.RowKit Go.Tab Go.Shelf
attribute [local go_sem] Oper.semAt_some

/-- What is handed on: how deep, which value, its cells. -/
abbrev Tx := Nat × Tree × List Value
def encT (x : Tx) : Array Value := #[.int .i64 (x.1 : Nat), valV x.2.2]
def keyT (x : Tx) : Nat × Tree := (x.1, x.2.1)
theorem roundIn_any {m m' : Nat} {P : Program} {l : Nat} {f : FuncId} {tmps : Array Value} {assign body : Code} {w : World} {R : Ending → World → Prop}
    (h : RoundIn Fence.wide m P l f tmps assign body w R) : RoundIn Fence.wide m' P l f tmps assign body w R := ⟨h.1, fun c cs _ => h.2 c cs (room_wide _)⟩
theorem yieldAt_any {m : Nat} (m' : Nat) {P : Program} {l : Nat} {args : Array Value} {W : World} {R : Ending → World → Prop} (h : YieldAt Fence.wide m P l args W R) : YieldAt Fence.wide m' P l args W R := by
  obtain ⟨fn, tmps, assign, body, hy, hR⟩ := h
  exact ⟨fn, tmps, assign, body, hy, roundIn_any hR⟩

theorem wideN {k : Nat} : Fence.wide.depth.isSome = true → 1 ≤ k := fun h => by simp [Fence.wide] at h
/-- Told: all of them, in order; or a round has stopped it on the way. -/
def ToldW (J Jx : List Tx → World → Prop) (b1 b2 : Nat) (pre : List Tx) (ss : List (Nat × Tree)) (W : World) (e : Ending) (W' : World) : Prop :=
  (e = .returned (.bool true) ∧ ∃ xs, xs.map keyT = ss ∧ J (pre ++ xs) W' ∧ KpW b1 b2 W W') ∨ (e = .returned (.bool false) ∧ ∃ xs, xs.map keyT <+: ss ∧ Jx (pre ++ xs) W')

theorem spotsAll_append (d : Nat) : ∀ (l m : List Tree), spotsAll d (l ++ m) = spotsAll d l ++ spotsAll d m
  | [], m => by simp [spotsAll]
  | a :: r, m => by simp [spotsAll, spotsAll_append d r m]

set_option maxHeartbeats 4000000 in
set_option maxRecDepth 100000 in
theorem tell_step (l Y Wb b1 b2 N : Nat) (P : Nat → Prop) (hP : ∀ k, P k → k ≠ b1 ∧ k ≠ b2) (hYn : Y ≠ b1 ∧ Y ≠ b2) (hWn : Wb ≠ b1 ∧ Wb ≠ b2) (J Jx : List Tx → World → Prop) (hJb : ∀ s W W', J s W → Below W.heap.size W W' → J s W')
    (hY : ∀ m pre (x : Tx) W, J pre W → ValAt W x.2.1 x.2.2 → pre.length < N → YieldAt Fence.wide m Tryd.prog l (encT x) W fun e W' => (e = .returned (.bool true) ∧ J (pre ++ [x]) W' ∧ KpW b1 b2 W W') ∨ (e = .returned (.bool false) ∧ Jx (pre ++ [x]) W'))
    (n : Nat) (IH : ∀ (t : Tree), t.bulk ≤ n → t.bulk ≤ 1048576 → ∀ (rm dp : Nat) (pre : List Tx) (W : World) (cs : List Value), b1 < W.heap.size ∧ b2 < W.heap.size → dp + t.bulk ≤ 4194304 → Cells W Y #[.func (.yield l) #[] #[]] 68 → Cells W Wb #[.func (.func 49) #[] #[.pointer (some ⟨Y, 0, none⟩), .pointer (some ⟨Wb, 0, none⟩)]] 68 → ValIn P W t cs → J pre W → pre.length + (spots dp t).length ≤ N →
      CallsIn Fence.wide rm Tryd.prog 49 #[.int .i64 (dp : Int), valV cs, .pointer (some ⟨Y, 0, none⟩), .pointer (some ⟨Wb, 0, none⟩)] W (ToldW J Jx b1 b2 pre (spots dp t) W))
    (kind : Int) (is neg : Bool) (digits : ByteArray) (exp : Int) (str : ByteArray) (keys : List ByteArray) (kids : List Tree)
    (h : (Tree.mk kind is neg digits exp str keys kids).bulk ≤ n + 1) (hmax : (Tree.mk kind is neg digits exp str keys kids).bulk ≤ 1048576)
    (rm dp : Nat) (pre : List Tx) (W : World) (cs : List Value) (hbs : b1 < W.heap.size ∧ b2 < W.heap.size) (hdp : dp + (Tree.mk kind is neg digits exp str keys kids).bulk ≤ 4194304) (hcY : Cells W Y #[.func (.yield l) #[] #[]] 68) (hcW : Cells W Wb #[.func (.func 49) #[] #[.pointer (some ⟨Y, 0, none⟩), .pointer (some ⟨Wb, 0, none⟩)]] 68)
    (hv : ValIn P W (.mk kind is neg digits exp str keys kids) cs) (hJ : J pre W) (hN : pre.length + (spots dp (.mk kind is neg digits exp str keys kids)).length ≤ N) :
    CallsIn Fence.wide rm Tryd.prog 49 #[.int .i64 (dp : Int), valV cs, .pointer (some ⟨Y, 0, none⟩), .pointer (some ⟨Wb, 0, none⟩)] W (ToldW J Jx b1 b2 pre (spots dp (.mk kind is neg digits exp str keys kids)) W) := by
  have hkb : bulkAll kids ≤ n ∧ bulkAll kids ≤ 1048575 ∧ dp + 1 + bulkAll kids ≤ 4194304 := by simp only [Tree.bulk] at h hmax hdp; omega
  have hC := Copy_any (.mk kind is neg digits exp str keys kids) hmax
  have hv9 := hv
  simp only [ValIn] at hv9
  obtain ⟨kv, a, cap, rfl, hk, hl, hm, hnil, -⟩ := hv9
  obtain ⟨ka, kc, rfl, -⟩ := hk.1.len
  have hll := len_bulk kids
  unfold maxLen at hm
  clear hk
  refine callsIn_of_wp Tryd.func49 rfl trivial ?_ rfl
  simp only [Tryd.ntmps49, List.size_toArray, List.length_cons, List.length_nil, Nat.reduceAdd, Nat.reduceSub, Array.replicate_succ, Array.replicate_zero, List.push_toArray, List.append_toArray, List.nil_append, List.cons_append]
  simp only [valV]
  have hspos := spots_pos dp (.mk kind is neg digits exp str keys kids)
  have hYx := fun (cs2 : List Value) (w2 : World) (hJ2 : J pre w2) (hv2 : ValAt w2 (.mk kind is neg digits exp str keys kids) cs2) => YieldAt.mono (hY (rm - 1) pre (dp, .mk kind is neg digits exp str keys kids, cs2) w2 hJ2 hv2 (by omega))
    (R' := fun e W' => ∃ b, e = .returned (.bool b) ∧ ((b = true → J (pre ++ [(dp, .mk kind is neg digits exp str keys kids, cs2)]) W' ∧ KpW b1 b2 w2 W') ∧ (b = false → Jx (pre ++ [(dp, .mk kind is neg digits exp str keys kids, cs2)]) W')))
    (fun e W' h => h.elim (fun ⟨he, h1, h2⟩ => ⟨true, he, fun _ => ⟨h1, h2⟩, fun h => by cases h⟩) (fun ⟨he, h1⟩ => ⟨false, he, fun h => (by cases h), fun _ => h1⟩))
  have hbW : Below W.heap.size W (W.alloc (.cells #[.int .i64 kind, .bool is, .bool neg, .string digits, .int .i64 exp, .string str, .slice ka keys.length kc, .slice a kids.length cap] 27)) := (Below.refl _ W).alloc (Nat.le_refl _) _
  have hN := Cells.new W #[.int .i64 kind, .bool is, .bool neg, .string digits, .int .i64 exp, .string str, .slice ka keys.length kc, .slice a kids.length cap] 27
  have hcYa := hcY.alloc (.cells #[.int .i64 kind, .bool is, .bool neg, .string digits, .int .i64 exp, .string str, .slice ka keys.length kc, .slice a kids.length cap] 27)
  have hcWa := hcW.alloc (.cells #[.int .i64 kind, .bool is, .bool neg, .string digits, .int .i64 exp, .string str, .slice ka keys.length kc, .slice a kids.length cap] 27)
  have hva := (ValIn.at _ _ hv).below_alloc (.cells #[.int .i64 kind, .bool is, .bool neg, .string digits, .int .i64 exp, .string str, .slice ka keys.length kc, .slice a kids.length cap] 27)
  have hJa := hJb _ _ _ hJ hbW
  have hza : (W.alloc (.cells #[.int .i64 kind, .bool is, .bool neg, .string digits, .int .i64 exp, .string str, .slice ka keys.length kc, .slice a kids.length cap] 27)).heap.size = W.heap.size + 1 := by simp
  have hV0 := Lib.hid hv
  have hJd0 := hJb _ _ _ hJa (Below.refl _ _).drew
  have hJc := fun w2 (hb : Below (W.alloc (.cells #[.int .i64 kind, .bool is, .bool neg, .string digits, .int .i64 exp, .string str, .slice ka keys.length kc, .slice a kids.length cap] 27)).drew.heap.size (W.alloc (.cells #[.int .i64 kind, .bool is, .bool neg, .string digits, .int .i64 exp, .string str, .slice ka keys.length kc, .slice a kids.length cap] 27)).drew w2) => hJb _ _ _ hJd0 hb
  have HJB := Lib.hid hJb
  clear hv hJ hJb hY
  gi_wp2
  generalize W.alloc (.cells #[.int .i64 kind, .bool is, .bool neg, .string digits, .int .i64 exp, .string str, .slice ka keys.length kc, .slice a kids.length cap] 27) = Wa at *
  have hdr := (Below.refl Wa.heap.size Wa).drew
  have hC1 := hC Wa.drew _ (ValAt.below hdr _ _ hva)
  have hY0 := hcYa.cell 0 _ rfl
  have hyl := hcYa.lt
  simp only [valV] at hC1
  clear hC
  have hNc0 := hN.cell 0 _ rfl
  have hNf0 := hN.frozen 0
  have hNc1 := hN.cell 1 _ rfl
  have hNf1 := hN.frozen 1
  have hNc2 := hN.cell 2 _ rfl
  have hNf2 := hN.frozen 2
  have hNc3 := hN.cell 3 _ rfl
  have hNf3 := hN.frozen 3
  have hNc4 := hN.cell 4 _ rfl
  have hNf4 := hN.frozen 4
  have hNc5 := hN.cell 5 _ rfl
  have hNf5 := hN.frozen 5
  have hNc6 := hN.cell 6 _ rfl
  have hNf6 := hN.frozen 6
  have hNc7 := hN.cell 7 _ rfl
  have hNf7 := hN.frozen 7
  gi_region_with (first | ((try refine ⟨trivial, wideN, ?_⟩); gi_at_call 23; refine (callsIn_wide.2 hC1).mono ?_; rintro e w2 ⟨⟨cs2, rfl, hin⟩, hb2⟩; obtain ⟨dkind, dis, dneg, ddig, dexp, dstr, dka, dkn, dkc, dsa, dsn, dsc, rfl⟩ := hin.shape; have hY2 := (hcYa.drew.below hb2 hcYa.lt).cell 0 _ rfl; obtain ⟨fn, tmps, assign, body, hy, hRR⟩ := hYx _ w2 (hJc w2 hb2) (ValIn.at _ _ hin); simp only [valV, encT] at hy ⊢) | ((try refine ⟨wideN, ?_⟩); refine hRR.mono ?_; rintro e w3 ⟨b, rfl, hYb⟩))
  all_goals
    have hcYb := hcYa.drew.below hb2 hcYa.lt
    have hcWb := hcWa.drew.below hb2 hcWa.lt
    have hNb := hN.drew.below hb2 hN.lt
    have hb2' : Below W.heap.size W w2 := hbW.trans (Below.mono (B := Wa.heap.size) (hdr.trans hb2) hbW.size)
    clear hb2 hcYa hcWa hN hin hY2 hY0 hC1 hJc hYx hJa hJd0 hva hdr hbW
    cases b
    · have hx := Lib.hid (hYb.2 rfl)
      clear hYb hcYb hcWb hNb hb2' IH
      gi_wp2
      go_ret
      exact .inr ⟨rfl, [_], by simp only [spots]; exact ⟨_, rfl⟩, hx.out⟩
    · obtain ⟨hJ3, hk3⟩ := hYb.1 rfl
      have hK3 := (KpW.below (b1 := b1) (b2 := b2) hb2').trans hk3
      have hN3 := hk3.cells hNb (by omega) (by omega)
      have hn3 := hN3.lt
      have HK3 := Lib.hid hK3
      have HJ3 := Lib.hid hJ3
      clear hYb hcYb hcWb hNb hb2' hk3 hK3 hJ3
      have hN3c0 := hN3.cell 0 _ rfl
      have hN3f0 := hN3.frozen 0
      have hN3c1 := hN3.cell 1 _ rfl
      have hN3f1 := hN3.frozen 1
      have hN3c2 := hN3.cell 2 _ rfl
      have hN3f2 := hN3.frozen 2
      have hN3c3 := hN3.cell 3 _ rfl
      have hN3f3 := hN3.frozen 3
      have hN3c4 := hN3.cell 4 _ rfl
      have hN3f4 := hN3.frozen 4
      have hN3c5 := hN3.cell 5 _ rfl
      have hN3f5 := hN3.frozen 5
      have hN3c6 := hN3.cell 6 _ rfl
      have hN3f6 := hN3.frozen 6
      have hN3c7 := hN3.cell 7 _ rfl
      have hN3f7 := hN3.frozen 7
      gi_wp2
      gi_loopw [18] (fun i wr => ∃ (k : Nat) (xs : List Tx), k ≤ kids.length ∧ i = .int .i64 (k : Int) ∧ xs.map keyT = (dp, .mk kind is neg digits exp str keys kids) :: spotsAll (dp + 1) (kids.take k) ∧ J (pre ++ xs) wr ∧ KpW b1 b2 W wr) (fun i _ => kids.length - (intOf i).toNat)
      case atStart => exact ⟨0, [_], Nat.zero_le _, rfl, by simp [spotsAll, keyT], HJ3.out, HK3.out⟩
      case round =>
        clear hN3c0 hN3c1 hN3c2 hN3c3 hN3c4 hN3c5 hN3c6 hN3c7 hN3f0 hN3f1 hN3f2 hN3f3 hN3f4 hN3f5 hN3f6 hN3f7 hN3 HK3 HJ3 hn3
        obtain ⟨k, xs, hkk, rfl, hxs, hJr, hKr⟩ := hrel
        by_cases hkl : k < kids.length
        · have hne : kids ≠ [] := by intro h0; rw [h0] at hkl; simp at hkl
          have hvr := ValIn.kp hKr hP _ _ hV0.out
          simp only [ValIn] at hvr
          obtain ⟨_, a', _, he, -, -, -, -, hx⟩ := hvr
          simp only [List.cons.injEq, Value.slice.injEq, and_true, true_and] at he
          obtain ⟨-, rfl, -⟩ := he
          cases a with
          | none => have := hnil rfl; omega
          | some x =>
          obtain ⟨bb, off, sp⟩ := x
          obtain ⟨rfl, ⟨hlt, -, -⟩, hkids⟩ := hx _ rfl hne
          simp only at hlt hkids
          clear hx
          obtain ⟨kc0, hkc, hkv⟩ := hkids.get k hkl
          obtain ⟨qkind, qis, qneg, qdig, qexp, qstr, qka, qkn, qkc, qsa, qsn, qsc, rfl⟩ := hkv.shape
          have m0 := hkc 0 _ rfl
          have m1 := hkc 1 _ rfl
          have m2 := hkc 2 _ rfl
          have m3 := hkc 3 _ rfl
          have m4 := hkc 4 _ rfl
          have m5 := hkc 5 _ rfl
          have m6 := hkc 6 _ rfl
          have m7 := hkc 7 _ rfl
          simp only [Nat.add_zero] at m0
          have hYr := hKr.cells hcY hYn.1 hYn.2
          have hWr := hKr.cells hcW hWn.1 hWn.2
          have hwc := hWr.cell 0 _ rfl
          have hwl := hWr.lt
          have hbr : Below wr.heap.size wr (wr.alloc (.cells #[.int .i64 qkind, .bool qis, .bool qneg, .string qdig, .int .i64 qexp, .string qstr, .slice qka qkn qkc, .slice qsa qsn qsc] 27)) := (Below.refl _ wr).alloc (Nat.le_refl _) _
          have hlen1 : xs.length = 1 + (spotsAll (dp + 1) (kids.take k)).length := by
            have h := congrArg List.length hxs
            simp only [List.length_map, List.length_cons] at h; omega
          have hlen2 : (spotsAll (dp + 1) kids).length = (spotsAll (dp + 1) (kids.take k)).length + (spots (dp + 1) kids[k]).length + (spotsAll (dp + 1) (kids.drop (k + 1))).length := by
            rw [← List.length_append, ← List.length_append, ← spotsAll_take hkl, ← spotsAll_append, List.take_append_drop]
          have hN2 : pre.length + (1 + (spotsAll (dp + 1) kids).length) ≤ N := by simp only [spots, List.length_cons] at hN; omega
          have hkb2 := bulk_kid hkl
          have hI := IH kids[k] (by omega) (by omega) (rm - 1) (dp + 1) (pre ++ xs) (wr.alloc (.cells #[.int .i64 qkind, .bool qis, .bool qneg, .string qdig, .int .i64 qexp, .string qstr, .slice qka qkn qkc, .slice qsa qsn qsc] 27)) _ (by have := hKr.1; simp; omega) (by omega) (hYr.alloc _) (hWr.alloc _) (ValIn.below hbr _ _ hkv) (HJB.out _ _ _ hJr hbr) (by rw [List.length_append]; omega)
          have HST := Lib.hid (spotsAll_take (d := dp + 1) hkl)
          have HPF : Hid (spotsAll (dp + 1) kids = spotsAll (dp + 1) (kids.take k) ++ (spots (dp + 1) kids[k] ++ spotsAll (dp + 1) (kids.drop (k + 1)))) := Lib.hid (by
            rw [← List.append_assoc, ← spotsAll_take hkl, ← spotsAll_append, List.take_append_drop])
          have HKA := Lib.hid (hKr.trans (KpW.below hbr))
          have HXS := Lib.hid hxs
          clear IH hkv hkc hkids hYr hWr hbr hJr hKr hxs hlen1 hlen2 hN2
          generalize kids[k] = kid at *
          have hdpb : dp ≤ 4194304 := by omega
          simp only [valV, Int.natCast_add, Int.natCast_one] at hI
          gi_wp2_with ((try refine ⟨trivial, wideN, ?_⟩); gi_at_call 49; refine hI.mono ?_; clear hI; rintro e w4 (⟨rfl, ys, hys, hJ4, hk4⟩ | ⟨rfl, ys, hys, hx4⟩))
          · refine ⟨⟨k + 1, xs ++ ys, hkl, by go_num, ?_, ?_, HKA.out.trans hk4⟩, ?_⟩
            · rw [List.map_append, HXS.out, hys, HST.out]; rfl
            · rw [← List.append_assoc]; exact hJ4
            · simp [intOf]; omega
          · go_ret
            refine .inr ⟨rfl, xs ++ ys, ?_, ?_⟩
            · obtain ⟨rest, hrest⟩ := hys
              refine ⟨rest ++ spotsAll (dp + 1) (kids.drop (k + 1)), ?_⟩
              rw [List.map_append, HXS.out]
              simp only [spots, List.cons_append, List.append_assoc]
              rw [HPF.out, ← hrest]
              simp only [List.append_assoc]
            · rw [← List.append_assoc]; exact hx4
        · obtain rfl : k = kids.length := by omega
          clear IH
          gi_wp2
          go_ret
          refine .inl ⟨rfl, xs, ?_, hJr, hKr⟩
          rw [hxs, List.take_length]; rfl
end Go.Proofs.YtpcfhiipkbpmkaaDoor
