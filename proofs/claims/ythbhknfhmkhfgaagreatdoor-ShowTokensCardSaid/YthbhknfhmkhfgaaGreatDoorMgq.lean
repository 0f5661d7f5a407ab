/- Texts of this claim, one behind the other: ShF, AlW, ShPa, LaidK, LaidS, ExZ. -/
import Derived.Test.YthbhknfhmkhfgaaGreatDoorMgg
import Derived.Test.YthbhknfhmkhfgaaGreatDoorMgh
import Derived.Test.YthbhknfhmkhfgaaGreatDoorMgi
import Derived.Test.YthbhknfhmkhfgaaGreatDoorMgj
import Derived.Test.YthbhknfhmkhfgaaGreatDoorMgn
import Derived.Test.YthbhknfhmkhfgaaGreatDoorMgp
import Derived.Deep.RegionHeld3
import Derived.Lib.LaidTab
import Derived.Test.YthbhknfhmkhfgaaGreatDoorRows
import Derived.Shelf.Vars
set_option linter.unusedSimpArgs false
set_option linter.unusedVariables false
namespace Go.Proofs.YthbhknfhmkhfgaaGreatDoor
set_option maxRecDepth 100000
set_option maxHeartbeats 20000000
mutual
def fitB : Exp -> Bool
 | .mk o t ks => (decide (o.size <= 1048576) && (decide (t.size <= 4194304) && decide (ks.length <= 1001))) && fitBs ks
def fitBs : List Exp -> Bool
 | [] => true
 | k :: r => fitB k && fitBs r
end
theorem fit_mk {o t : ByteArray} {ks : List Exp} (ho : o.size <= 1048576) (ht : t.size <= 4194304) (hk : ks.length <= 1001) (hs : fitBs ks = true) : fitB (.mk o t ks) = true := by
 rw [fitB, hs, decide_eq_true ho, decide_eq_true ht, decide_eq_true hk]; rfl
theorem fitBs_app : ∀ (l : List Exp) (a : Exp), fitBs l = true -> fitB a = true -> fitBs (l ++ [a]) = true
 | [], a, _, h => by simp [fitBs, h]
 | b :: r, a, h, h2 => by
  rw [fitBs, Bool.and_eq_true] at h; rw [List.cons_append, fitBs, h.1, fitBs_app r a h.2 h2]; rfl
mutual
theorem fitB_fit : ∀ x : Exp, fitB x = true -> FitX x
 | .mk o t ks, h => by
  rw [fitB, Bool.and_eq_true, Bool.and_eq_true, Bool.and_eq_true, decide_eq_true_eq, decide_eq_true_eq, decide_eq_true_eq] at h; simp only [FitX]; exact ⟨by omega, by omega, by omega, fitBs_fit ks h.2⟩
theorem fitBs_fit : ∀ l : List Exp, fitBs l = true -> FitXs l
 | [], _ => by simp only [FitXs]
 | k :: r, h => by
  rw [fitBs, Bool.and_eq_true] at h; simp only [FitXs]; exact ⟨fitB_fit k h.1, fitBs_fit r h.2⟩
end
theorem op_size {o : ByteArray} {lv : Nat} (h : lvN o = (lv : Int)) : o.size <= 1048576 := by
 rcases lv_cases o with ⟨x, hx, e, -⟩ | ⟨h1, -⟩
 ·rw [e, size_strL]
  have : ∀ x ∈ lvTab, x.1.length <= 10 := by decide
  have := this x hx; omega
 ·rw [h1] at h; omega
theorem quoX_size {s t : ByteArray} (h : quoX s = some t) : t.size <= 4 * s.size := by
 unfold quoX at h; split at h
 ·next hc =>
  cases h
  have := scan_out (l := nb s.data.toList) (nb_byt _) hc.1; rw [size_strL, List.length_map, <- hc.2]; exact this
 ·cases h
theorem isS_ne {r : List Tok} {k : Nat} {w : ByteArray} (h : isS (r.drop k) w = true) : k < r.length := by
 by_cases hk : k < r.length
 ·exact hk
 ·rw [List.drop_eq_nil_of_le (by omega)] at h
  cases h
def ShortT (l : List Tok) : Prop := (∀ t ∈ l, t.text.size <= 1048576) /\ l.length <= 1000
theorem ShortT.drop {l : List Tok} (h : ShortT l) (k : Nat) : ShortT (l.drop k) := ⟨fun t ht => h.1 t (List.mem_of_mem_drop ht), by rw [List.length_drop]; have := h.2; omega⟩
def InF : Nt -> Nat -> Prop
 | .tloop lv a, _ => 1 <= lv /\ lv <= 6 /\ fitB a = true
 | .term lv, _ => 1 <= lv /\ lv <= 7
 | .ploop a, _ => fitB a = true
 | .mloop _ l, n => l.length + n <= 1000 /\ fitBs l = true
 | _, _ => True
def OutF : Nt -> GotX -> Prop
 | .many _, g => fitBs g.1.kids = true /\ g.1.kids.length <= 1001
 | .mloop _ _, g => fitBs g.1.kids = true /\ g.1.kids.length <= 1001
 | _, g => fitB g.1 = true
theorem fitR : ∀ (n : Nat) (t : Nt) (r : List Tok) (d : Nat), ShortT r -> InF t r.length -> (parX n t r d).2.2 = 0 -> OutF t (parX n t r d) := by
 intro n
 induction n with
 | zero => intro t r d _ _ h; simp [parX] at h
 | succ n ih =>
  intro t r d ha hi h
  cases t with
  | choice =>
   simp only [parX] at h ⊢; obtain ⟨h1, h2⟩ := andX_zero h; rw [h2] at h ⊢; have i1 := ih (.term 1) r d ha ⟨Nat.le_refl _, by omega⟩ h1
   simp only [OutF] at i1 ⊢
   by_cases hq : isS (r.drop (parX n (.term 1) r d).2.1) sQ = false
   ·rw [if_pos hq]; exact i1
   ·rw [if_neg hq] at h ⊢
    split at h
    ·next hd => simp [deepX] at h
    ·next hd =>
     rw [if_neg hd]; obtain ⟨h3, h4⟩ := andX_zero h; rw [h4] at h ⊢; have i2 := ih .choice (r.drop ((parX n (.term 1) r d).2.1 + 1)) (d + 1) (ha.drop _) trivial h3; simp only [OutF] at i2; generalize parX n .choice (r.drop ((parX n (.term 1) r d).2.1 + 1)) (d + 1) = B at *; generalize parX n (.term 1) r d = A at *
     by_cases hc : isS (r.drop (upX (A.2.1 + 1) B).2.1) sCo = false
     ·rw [if_pos hc] at h; exact absurd h badX_zero
     ·rw [if_neg hc] at h ⊢
      obtain ⟨h5, h6⟩ := andX_zero h; rw [h6]; have i3 := ih .choice (r.drop ((upX (A.2.1 + 1) B).2.1 + 1)) (d + 1) (ha.drop _) trivial h5; simp only [OutF] at i3; generalize parX n .choice (r.drop ((upX (A.2.1 + 1) B).2.1 + 1)) (d + 1) = C at *; exact fit_mk (by decide) (by decide) (by simp) (by simp only [upX, fitBs, i1, i2, i3, Bool.and_self])
  | term lv =>
   obtain ⟨l1, l7⟩ := hi; simp only [parX] at h ⊢; split at h
   ·next h7 => rw [if_pos h7]; exact ih .tight r d ha trivial h
   ·next h7 =>
    rw [if_neg h7]; obtain ⟨h1, h2⟩ := andX_zero h; rw [h2] at h ⊢; have i1 := ih (.term (lv + 1)) r d ha ⟨by omega, by omega⟩ h1
    simp only [OutF] at i1; generalize parX n (.term (lv + 1)) r d = A at *; exact ih (.tloop lv A.1) (r.drop A.2.1) d (ha.drop _) ⟨l1, by omega, i1⟩ h
  | tloop lv a =>
   obtain ⟨l1, l6, hr⟩ := hi; simp only [parX] at h ⊢; split at h
   ·next hl =>
    (try simp only [hl])
    exact hr
   ·next o hl =>
    (try simp only [hl])
    obtain ⟨h1, h2⟩ := andX_zero h; rw [h2] at h ⊢; have i1 := ih (.term (lv + 1)) (r.drop 1) d (ha.drop _) ⟨by omega, by omega⟩ h1
    simp only [OutF] at i1; generalize parX n (.term (lv + 1)) (r.drop 1) d = A at *; exact ih (.tloop lv (.mk o oNo [a, A.1])) _ d (ha.drop _) ⟨l1, l6, fit_mk (op_size (isL_lv hl)) (by decide) (by simp) (by simp only [fitBs, hr, i1, Bool.and_self])⟩ h
  | tight =>
   simp only [parX] at h ⊢; split at h
   ·next hb => rw [if_pos hb]; exact ih .post r d ha trivial h
   ·next hb =>
    rw [if_neg hb]; split at h
    ·simp [deepX] at h
    ·next hd =>
     rw [if_neg hd]; obtain ⟨h1, h2⟩ := andX_zero h; rw [h2]; have i1 := ih .tight (r.drop 1) (d + 1) (ha.drop _) trivial h1; simp only [OutF] at i1 ⊢; generalize parX n .tight (r.drop 1) (d + 1) = A at *; simp only [upX]
     by_cases hs : isS r sBang = true
     ·rw [if_pos hs]; exact fit_mk (by decide) (by decide) (by simp) (by simp only [fitBs, i1, Bool.and_self])
     ·rw [if_neg hs]; exact fit_mk (by decide) (by decide) (by simp) (by simp only [fitBs, i1, Bool.and_self])
  | post =>
   simp only [parX] at h ⊢; obtain ⟨h1, h2⟩ := andX_zero h; rw [h2] at h ⊢; have i1 := ih .prime r d ha trivial h1; simp only [OutF] at i1; generalize parX n .prime r d = A at *; exact ih (.ploop A.1) (r.drop A.2.1) d (ha.drop _) i1 h
  | ploop a =>
   have hr : fitB a = true := hi; simp only [parX] at h ⊢; simp only [OutF]; split at h
   ·next hdot =>
    rw [if_pos hdot]; split at h
    ·exact absurd h badX_zero
    ·next t q hq =>
     simp only [hq]; split at h
     ·next hk =>
      rw [if_pos hk]; have hat := ha.1 t (List.mem_of_mem_drop (show t ∈ r.drop 1 by rw [hq]; simp))
      refine ih (.ploop (.mk oGet t.text [a])) (r.drop 2) d (ha.drop _) ?_ h; exact fit_mk (by decide) (Nat.le_trans hat (by decide)) (by simp) (by simp only [fitBs, hr, Bool.and_self])
     ·exact absurd h badX_zero
   ·next hdot =>
    rw [if_neg hdot]; split at h
    ·next hlb =>
     rw [if_pos hlb]; split at h
     ·simp [deepX] at h
     ·next hd =>
      rw [if_neg hd]; obtain ⟨h1, h2⟩ := andX_zero h; rw [h2] at h ⊢; have i1 := ih .choice (r.drop 1) (d + 1) (ha.drop _) trivial h1; simp only [OutF] at i1; generalize parX n .choice (r.drop 1) (d + 1) = A at *
      by_cases hc : isS (r.drop (upX 1 A).2.1) sRb = false
      ·rw [if_pos hc] at h; exact absurd h badX_zero
      ·rw [if_neg hc] at h ⊢
       refine ih (.ploop (.mk oAt oNo [a, A.1])) _ d (ha.drop _) ?_ h; exact fit_mk (by decide) (by decide) (by simp) (by simp only [fitBs, hr, i1, Bool.and_self])
    ·next hlb =>
     rw [if_neg hlb]; exact hr
  | prime =>
   cases r with
   | nil => simp only [parX] at h; exact absurd h badX_zero
   | cons t r =>
    have hat := ha.1 t (by simp)
    have har : ShortT r := ⟨fun x hx => ha.1 x (by simp [hx]), by have := ha.2; simp only [List.length_cons] at this; omega⟩
    simp only [parX] at h ⊢; simp only [OutF]; split at h
    ·next h1 =>
     rw [if_pos h1]; split at h
     ·next hp =>
      rw [if_pos hp]; obtain ⟨h3, h4⟩ := andX_zero h; rw [h4]; have i1 := ih (.many sRp) r d har trivial h3; simp only [OutF] at i1; generalize parX n (.many sRp) r d = A at *; exact fit_mk (by decide) (Nat.le_trans hat (by decide)) i1.2 i1.1
     ·next hp =>
      rw [if_neg hp]; exact fit_mk (by decide) (Nat.le_trans hat (by decide)) (by simp) rfl
    ·next h1 =>
     rw [if_neg h1]; split at h
     ·next h2 =>
      rw [if_pos h2]; exact fit_mk (by decide) (Nat.le_trans hat (by decide)) (by simp) rfl
     ·next h2 =>
      rw [if_neg h2]; split at h
      ·next h3 =>
       rw [if_pos h3]; split at h
       ·cases h
       ·next s hs =>
        simp only [hs]; exact fit_mk (by decide) (Nat.le_trans (quoX_size hs) (by omega)) (by simp) rfl
      ·next h3 =>
       rw [if_neg h3]; split at h
       ·next h4 =>
        rw [if_pos h4]; obtain ⟨h5, h6⟩ := andX_zero h; rw [h6]; have i1 := ih (.many sRb) (t :: r) d ha trivial h5; simp only [OutF] at i1; generalize parX n (.many sRb) (t :: r) d = A at *; exact fit_mk (by decide) (by decide) i1.2 i1.1
       ·next h4 =>
        rw [if_neg h4]; split at h
        ·next h5 =>
         rw [if_pos h5]; split at h
         ·simp [deepX] at h
         ·next h6 =>
          rw [if_neg h6]; obtain ⟨h7, h8⟩ := andX_zero h; rw [h8] at h ⊢; have i1 := ih .choice r (d + 1) har trivial h7; simp only [OutF] at i1; generalize parX n .choice r (d + 1) = A at *
          by_cases hc : isS ((t :: r).drop (upX 1 A).2.1) sRp = false
          ·rw [if_pos hc] at h; exact absurd h badX_zero
          ·rw [if_neg hc] at h ⊢; exact i1
        ·exact absurd h badX_zero
  | many s =>
   simp only [parX] at h ⊢; simp only [OutF]; split at h
   ·simp [deepX] at h
   ·next hd =>
    rw [if_neg hd]; split at h
    ·next hs => rw [if_pos hs]; exact ⟨rfl, by simp [Exp.kids]⟩
    ·next hs =>
     rw [if_neg hs]; exact ih (.mloop s []) (r.drop 1) d (ha.drop _) ⟨by have := (ha.drop 1).2; simpa using this, rfl⟩ h
  | mloop s l =>
   obtain ⟨hn, hl⟩ := hi; simp only [parX] at h ⊢; obtain ⟨h1, h2⟩ := andX_zero h; rw [h2] at h ⊢; simp only [OutF]; have i1 := ih .choice r (d + 1) ha trivial h1; simp only [OutF] at i1; generalize parX n .choice r (d + 1) = A at *; split at h
   ·next hs =>
    rw [if_pos hs]; have := isS_ne hs; exact ih (.mloop s (l ++ [A.1])) _ d (ha.drop _) ⟨by simp only [List.length_append, List.length_drop, List.length_cons, List.length_nil]; omega, fitBs_app l A.1 hl i1⟩ h
   ·next hs =>
    rw [if_neg hs]; split at h
    ·next h3 => rw [if_pos h3]; exact ⟨fitBs_app l A.1 hl i1, by simp only [Exp.kids, List.length_append, List.length_cons, List.length_nil]; omega⟩
    ·exact absurd h badX_zero
theorem parE_fit {l : List Tok} (ha : ShortT l) (h : (parE l).2.2 = 0) : FitX (parE l).1 := by
 refine fitB_fit _ ?_; unfold parE at h ⊢; split at h
 ·cases h
 ·next hl =>
  rw [if_neg hl]; split at h
  ·next hz =>
   rw [if_pos hz]; exact fitR _ .choice l 0 ha trivial hz
  ·next hz => exact absurd h hz
end Go.Proofs.YthbhknfhmkhfgaaGreatDoor
namespace Go.Proofs.YthbhknfhmkhfgaaGreatDoor
set_option maxRecDepth 100000
set_option maxHeartbeats 20000000
open Go.RowKit Go.Tab
def alone2 (t : Tok) : Bool := decide (t.text.size <= 1048576) && aloneB t.text t.kind
theorem rAlone2_any (t : Tok) (w : World) (hs : t.text.size <= 140737488351232) : Calls Tryz.prog 29 #[.string t.text, .int .i64 t.kind] w fun e w' => e = .returned (.bool (alone2 t)) /\ Below w.heap.size w w' := by
 unfold alone2
 by_cases h : t.text.size <= 1048576
 ·rw [decide_eq_true h, Bool.true_and]
  exact rAlone_any t.text t.kind w h
 ·rw [decide_eq_false h, Bool.false_and]
  generalize t.text = s at *; generalize t.kind = k at *; clear t; go_enter Tryz.func29, Tryz.ntmps29; go_wp2; go_ret; exact ⟨rfl, Below.refl _ _⟩
theorem all_take {l : List Tok} {k : Nat} (hk : k < l.length) (p : Tok -> Bool) : (l.take (k + 1)).all p = ((l.take k).all p && p l[k]) := by
 rw [List.take_add_one, List.getElem?_eq_getElem hk, List.all_append]; simp
theorem all_not {l : List Tok} {k : Nat} (hk : k < l.length) (p : Tok -> Bool) (h : p l[k] = false) : l.all p = false := by
 rw [List.all_eq_false]; exact ⟨_, List.getElem_mem hk, by rw [h]; decide⟩
theorem rAloneAll_any (w : World) (lv : Value) (l : List Tok) (h : ToksAt w lv l) (hl : l.length <= 1000) (hf : ∀ t ∈ l, t.text.size <= 140737488351232) : Calls Tryz.prog 14 #[lv] w fun e w' => e = .returned (.bool (l.all alone2)) /\ Below w.heap.size w w' := by
 obtain ⟨a, c, rfl, h1, h2, -⟩ := h.len; unfold maxLen at h2; have HT := Lib.hid h; clear h; go_enter Tryz.func14, Tryz.ntmps14; go_wp2_with fail; go_loopw [3] (fun i wr => ∃ k : Nat, k <= l.length /\ i = .int .i64 (k : Int) /\ Hid ((l.take k).all alone2 = true) /\ Below w.heap.size w wr) (fun i _ => l.length - (intOf i).toNat)
 case atStart => exact ⟨0, Nat.zero_le _, rfl, Lib.hid rfl, Below.refl _ _⟩
 case round =>
  obtain ⟨k, hk, rfl, HA, hb⟩ := hrel
  by_cases hkl : k < l.length
  ·obtain ⟨b, off, rfl, hlt, q0, q1, -⟩ := ToksAt.get (HT.out.below hb (Nat.le_refl _)) hkl
   have hft := hf l[k] (List.getElem_mem hkl); have hC := fun x : Under wr => Under.call x (rAlone2_any l[k] x.w hft); have HT1 := Lib.hid (all_take hkl alone2); have HT0 := Lib.hid (all_not hkl alone2); have HB := Lib.hid hb; generalize l[k] = t at *; obtain ⟨kd, tx, ps⟩ := t; simp only at q0 q1 hC; have r0 := fun x : Under wr => (x.below.cell (p := ⟨b, off + k * 3, none⟩) hlt).trans q0; have r1 := fun x : Under wr => (x.below.cell (p := ⟨b, off + k * 3 + 1, none⟩) hlt).trans q1; obtain ⟨bb, hbb⟩ : ∃ b, alone2 ⟨kd, tx, ps⟩ = b := ⟨_, rfl⟩; rw [hbb] at hC HT1 HT0; clear q0 q1 hb hbb hft; go_wp2_with fail; refine wp_region_under wr (by kernel_rfl) (by kernel_rfl) (Below.refl _ _) ?_
   repeat (go_big_quiet_step ((go_at_call 29; with_reducible exact hC _)))
   refine wpQuiet_nil ?_; rintro _ ⟨x, rfl⟩; clear hC r0 r1; have HB2 := Lib.hid (HB.out.trans (x.below.mono HB.out.size)); generalize x.w = w5 at *
   cases bb with
   | false =>
    go_wp2_with fail; go_ret; exact ⟨by rw [HT0.out trivial]; rfl, HB2.out⟩
   | true =>
    go_wp2_with fail; go_roundw
    case rel => exact ⟨k + 1, hkl, by go_num, Lib.hid (by rw [HT1.out, HA.out]; rfl), HB2.out⟩
    case measure => simp [intOf]; omega
  ·obtain rfl : k = l.length := by omega
   rw [List.take_length] at HA; have HB := Lib.hid hb; clear hb; go_wp2_with fail; go_ret; exact ⟨by rw [HA.out]; rfl, HB.out⟩
theorem alone2_all {l : List Tok} (h : l.all alone2 = true) : AloneT l /\ (∀ t ∈ l, t.text.size <= 1048576) /\ ∀ t ∈ l, t.kind = 3 -> quoX t.text ≠ none := by
 have h1 : ∀ t ∈ l, t.text.size <= 1048576 /\ aloneB t.text t.kind = true := fun t ht => by
  have := List.all_eq_true.1 h t ht; unfold alone2 at this; rw [Bool.and_eq_true, decide_eq_true_eq] at this; exact this
 refine ⟨fun t ht => (h1 t ht).2, fun t ht => (h1 t ht).1, fun t ht h3 => ?_⟩; have h2 := (h1 t ht).2; rw [h3] at h2; obtain ⟨c, r, kn, e1, -, e3, e4⟩ := alone_one h2; obtain rfl : kn = 3 := by omega
 rw [<- e1] at e4; have h5 := quoX_tok e4 rfl; rw [List.take_length] at h5; rw [strL_of t.text]; exact h5
theorem got_all {l : List Tok} (hA : l.all alone2 = true) (hl : l.length <= 1000) (h0 : (parE l).2.2 = 0) : rightX (parE l).1 = true /\ FitX (parE l).1 /\ (prX (parE l).1).length <= (parE l).2.1 := by
 obtain ⟨h1, h2, -⟩ := alone2_all hA; exact ⟨parE_right h1 h0, parE_fit ⟨h2, hl⟩ h0, parE_few h0⟩
theorem ShowParsed_walk (a0 : Value) (l0 : List Tok) (w : World) (w0 : ToksAt w a0 l0) (hT : LexT w) (f0 : FitK l0) :
  Calls Tryz.prog 4 #[a0] w fun e w' => e = .returned (.bool true) /\ Below w.heap.size w w' := by
 have HV0 := Lib.hid w0; obtain ⟨a0, c0, rfl, hlc, hcm, -⟩ := w0.len; unfold maxLen at hcm; have hW := wakes14_any w hT; have HT := Lib.hid hT; have HF := Lib.hid f0; clear hT w0 f0; go_enter Tryz.func4, Tryz.ntmps4; go_wp2_with fail; refine hW.mono ?_; rintro _ w2 ⟨rfl, hb2⟩; have HB2 := Lib.hid hb2; clear hW hb2
 by_cases hbig : 300 < l0.length
 ·skip
  go_wp2_with fail; go_ret; exact ⟨rfl, HB2.out⟩
 have hA := rAloneAll_any w2 _ l0 (HV0.out.below HB2.out (Nat.le_refl _)) (by omega) HF.out.2
 obtain ⟨ab, hab⟩ : ∃ b, l0.all alone2 = b := ⟨_, rfl⟩; rw [hab] at hA; have HAB := Lib.hid hab; clear hab; go_wp2_with fail; refine hA.mono ?_; clear hA; rintro _ w3 ⟨rfl, hb3⟩; have HB3 := Lib.hid (HB2.out.trans (hb3.mono HB2.out.size)); clear hb3 HB2
 cases ab with
 | false =>
  go_wp2_with fail; go_ret; exact ⟨rfl, HB3.out⟩
 | true =>
  have hG := rfParse_any w3 _ l0 (HV0.out.below HB3.out (Nat.le_refl _)) (alone2_all HAB.out).2.1 (alone2_all HAB.out).2.2; have hgot := fun h => got_all HAB.out (by omega) h
  obtain ⟨⟨x0, m0, e0⟩, hr⟩ : ∃ r, parE l0 = r := ⟨_, rfl⟩; rw [hr] at hG hgot
  (try simp only at hgot)
  have HGot := Lib.hid hgot; clear hr hgot; go_wp2_with fail; refine hG.mono ?_; clear hG; rintro _ w4 ⟨hb4, o, t, a, n, c, rfl, hX⟩; simp only [Nat.zero_add]; have HB4 := Lib.hid (HB3.out.trans (hb4.mono HB3.out.size)); have hc5 := Cells.new w4 (gotA o t (.slice a n c) (m0 : Nat) e0) 39; have hb5 := HB4.out.alloc HB4.out.size (.cells (gotA o t (.slice a n c) (m0 : Nat) e0) 39); have HX := Lib.hid hX; clear hX hb4
  by_cases he : e0 = 0
  ·have hb45 : Below w4.heap.size w4 (w4.alloc (.cells (gotA o t (.slice a n c) (m0 : Nat) e0) 39)) := (Below.refl _ w4).alloc (Nat.le_refl _) _
   subst he; obtain ⟨hr0, hf0, hp0⟩ := HGot.out rfl; have hX5 := ExpAt.below hb45 _ _ (ExpIn.at _ _ (HX.out rfl)); have hGr := GreatX_any x0 hf0 _ _ hX5; have H5 := Lib.hid (And.intro hc5 (And.intro hb5 hX5)); have HR := Lib.hid (And.intro hr0 hp0); clear hc5 hb5 hX5 hb45 hr0 hf0 hp0 HX HGot; go_wp2_with fail; generalize w4.alloc (.cells (gotA o t (.slice a n c) (m0 : Nat) 0) 39) = w5 at *; generalize w4.heap.size = X at *; refine hGr.mono ?_; clear hGr; rintro _ w6 ⟨⟨gb, rfl, hgb⟩, hb6⟩; have hc6 := H5.out.1.below hb6 H5.out.1.lt; have HB6 := Lib.hid (H5.out.2.1.trans (hb6.mono H5.out.2.1.size)); have hX6 := ExpAt.below hb6 _ _ H5.out.2.2; clear hb6 H5
   cases gb with
   | true =>
    clear hc6 hX6; go_wp2_with fail; go_ret; exact ⟨rfl, HB6.out⟩
   | false =>
    have hs0 := hgb rfl; have hSh := showExpr_any x0 hs0 w6 _ (HT.out.below HB6.out) hX6; simp only [vX] at hSh; have HS := Lib.hid hs0; have hl6 := hc6.lt; have HC6 := Lib.hid (And.intro hc6 hX6); clear hgb hs0 hX6; have hc6c0 := hc6.cell 0 _ rfl; have hc6f0 := hc6.frozen 0; have hc6c1 := hc6.cell 1 _ rfl; have hc6f1 := hc6.frozen 1; have hc6c2 := hc6.cell 2 _ rfl; have hc6f2 := hc6.frozen 2; have hc6c3 := hc6.cell 3 _ rfl; have hc6f3 := hc6.frozen 3; have hc6c4 := hc6.cell 4 _ rfl; have hc6f4 := hc6.frozen 4; clear hc6; go_wp2_with fail; refine hSh.mono ?_; clear hSh hc6c0 hc6c1 hc6c2 hc6c3 hc6c4 hc6f0 hc6f1 hc6f2 hc6f3 hc6f4; rintro _ w7 ⟨rfl, hb7⟩; have hc7 := HC6.out.1.below hb7 hl6; have hX7 := ExpAt.below hb7 _ _ HC6.out.2; have HB7 := Lib.hid (HB6.out.trans (hb7.mono HB6.out.size)); have hl7 := hc7.lt; have HC7 := Lib.hid (And.intro hc7 hX7); clear hb7 HC6; have hss : shS x0 = if (parE (prX x0)).2.2 = 0 then ptS (pcX x0) else ⟨#[]⟩ := by unfold shS; rw [HR.out.1]; simp
    have hse : shE x0 = if (parE (prX x0)).2.2 = 0 then 0 else 4 := by unfold shE; rw [HR.out.1]; rfl
    rw [hss, hse]; have HTo := Lib.hid (print_toks HR.out.1); have hsz : (ptS (pcX x0)).size <= 60000 := Nat.le_trans (ptS_size _) (wt_small HR.out.1 HS.out); have HWt := Lib.hid (wt_small HR.out.1 HS.out); have HSl := Lib.hid (ptS_list (pcX x0)); have hO := Of_any x0 HR.out.1 HS.out w7 _ hX7; have HTk := Lib.hid (fun W => Taken_any x0 HR.out.1 HS.out W); simp only [vX] at hO; generalize ptS (pcX x0) = S at *; generalize brX x0 = nb at *; clear hss hse hX7
    by_cases hp0 : (parE (prX x0)).2.2 = 0
    ·rw [if_pos hp0, if_pos hp0]
     have HP0 := Lib.hid hp0; clear hp0 hO HTk; obtain ⟨toks, h1, -, -, h4, -, h6, h7, h8, h9⟩ := HTo.out
     have h46 : parE toks = (x0, toks.length, 0) := by
      rcases h6 with h | h
      ·rw [h4, h]
      ·exact absurd HP0.out h
     have hL := rLex_any S w7 (by omega)
     obtain ⟨z, hz⟩ : ∃ z, (lexL (catP (pcX x0)) 0).2.1 = z := ⟨_, rfl⟩; rw [HSl.out, h1, hz] at hL; have HPr := Lib.hid (fun (W : World) (lv : Value) (h : ToksAt W lv toks) => rfParse_any W lv toks h (fun t ht => by have := h8 t ht; have := HWt.out; omega) h7)
     rw [h46] at HPr; clear h1 h4 h6 h7 h8 h9 h46 hz hc7 HTo; go_wp2_with fail; refine hL.mono ?_; clear hL; rintro _ w8 ⟨v, rfl, hown, hb8⟩; obtain ⟨va, vc, rfl⟩ := hown.len; have hfd : ∀ W : World, (Instr.field 32 (.agg #[.slice va toks.length vc, .int .i64 z, .int .i64 0]) 0).run Tryz.prog W = .ok (.slice va toks.length vc) W := fun _ => by kernel_rfl
     have hP := HPr.out w8 _ hown.toks; have HB8 := Lib.hid (HB7.out.trans (hb8.mono HB7.out.size)); have hc8 := HC7.out.1.below hb8 hl7; have hX8 := ExpAt.below hb8 _ _ HC7.out.2; have hl8 := hc8.lt; have HC8 := Lib.hid (And.intro hc8 hX8); clear hown HPr hb8 hc8 hX8; go_wp2_with fail; refine hP.mono ?_; clear hP hfd; rintro _ w9 ⟨hb9, o2, t2, a2, n2, c2, rfl, hX2⟩; simp only [Nat.zero_add]; have HB9 := Lib.hid (HB8.out.trans (hb9.mono HB8.out.size)); have hc9 := HC8.out.1.below hb9 hl8; have hX9 := ExpAt.below hb9 _ _ HC8.out.2; have hY9 := ExpIn.at _ _ (hX2 rfl); have hl9 := hc9.lt; have hsm := fun W (hW : Below w9.heap.size w9 W) => rSameX_both x0 W _ _ (ExpAt.below hW _ _ hX9) (ExpAt.below hW _ _ hY9); simp only [vX] at hsm; clear hb9 hX9 hY9 hX2 HC8; have hc9c0 := hc9.cell 0 _ rfl; have hc9f0 := hc9.frozen 0; have hc9c1 := hc9.cell 1 _ rfl; have hc9f1 := hc9.frozen 1; have hc9c2 := hc9.cell 2 _ rfl; have hc9f2 := hc9.frozen 2; have hc9c3 := hc9.cell 3 _ rfl; have hc9f3 := hc9.frozen 3; have hc9c4 := hc9.cell 4 _ rfl; have hc9f4 := hc9.frozen 4; clear hc9; go_wp2_with fail; refine (hsm _ ((Below.refl _ _).alloc (Nat.le_refl _) _)).mono ?_; rintro _ w10 ⟨rfl, hb10⟩; have hb9' := (HB9.out.alloc HB9.out.size (.cells (gotA o2 t2 (.slice a2 n2 c2) (toks.length : Nat) 0) 39)); have HB10 := Lib.hid (hb9'.trans (hb10.mono hb9'.size)); clear hsm hb10 hb9'; go_wp2_with fail; go_ret; exact ⟨rfl, HB10.out⟩
    ·rw [if_neg hp0, if_neg hp0]
     have hTk := fun W => HTk.out W; rw [decide_eq_false hp0] at hTk; clear hp0 HTo HTk; have hc7c0 := hc7.cell 0 _ rfl; have hc7f0 := hc7.frozen 0; have hc7c1 := hc7.cell 1 _ rfl; have hc7f1 := hc7.frozen 1; have hc7c2 := hc7.cell 2 _ rfl; have hc7f2 := hc7.frozen 2; have hc7c3 := hc7.cell 3 _ rfl; have hc7f3 := hc7.frozen 3; have hc7c4 := hc7.cell 4 _ rfl; have hc7f4 := hc7.frozen 4; clear hc7; go_wp2_with fail; refine hO.mono ?_; clear hO; rintro _ w8 ⟨rfl, hb8⟩; have HB8 := Lib.hid (HB7.out.trans (hb8.mono HB7.out.size)); have hfd : ∀ W : World, (Instr.field 46 (.agg (ppV S nb)) 0).run Tryz.prog W = .ok (.string S) W := fun _ => by kernel_rfl
     clear hb8 hc7c0 hc7c1 hc7c2 hc7c3 hc7c4 hc7f0 hc7f1 hc7f2 hc7f3 hc7f4; go_wp2_with fail; refine (hTk _).mono ?_; rintro _ w9 ⟨rfl, hb9⟩; have HB9 := Lib.hid (HB8.out.trans (hb9.mono HB8.out.size)); clear hb9 hTk; go_wp2_with fail; go_ret; exact ⟨rfl, HB9.out⟩
  ·have hb5' := Lib.hid hb5
   have heb : (e0 != 0) = true := by simpa using he
   clear hc5 hb5 HX HGot; go_wp2_with fail; go_ret; exact ⟨rfl, hb5'.out⟩
theorem ShowTokens_walk (a0 : Value) (l0 : List Tok) (w : World) (w0 : ToksAt w a0 l0) (hT : LexT w) (f0 : FitK l0) :
  Calls Tryz.prog 5 #[a0] w fun e w' => e = .returned (.bool true) /\ Below w.heap.size w w' := by
 have HV0 := Lib.hid w0; obtain ⟨a0, c0, rfl, hlc, hcm, -⟩ := w0.len; unfold maxLen at hcm; have hW := wakes14_any w hT; have HT := Lib.hid hT; have HF := Lib.hid f0; clear hT w0 f0; go_enter Tryz.func5, Tryz.ntmps5; go_wp2_with fail; refine hW.mono ?_; rintro _ w2 ⟨rfl, hb2⟩; have HB2 := Lib.hid hb2; clear hW hb2
 by_cases hbig : 200 < l0.length
 ·skip
  go_wp2_with fail; go_ret; exact ⟨rfl, HB2.out⟩
 have hA := rAloneAll_any w2 _ l0 (HV0.out.below HB2.out (Nat.le_refl _)) (by omega) HF.out.2
 obtain ⟨ab, hab⟩ : ∃ b, l0.all alone2 = b := ⟨_, rfl⟩; rw [hab] at hA; have HAB := Lib.hid hab; clear hab; go_wp2_with fail; refine hA.mono ?_; clear hA; rintro _ w3 ⟨rfl, hb3⟩; have HB3 := Lib.hid (HB2.out.trans (hb3.mono HB2.out.size)); clear hb3 HB2
 cases ab with
 | false =>
  go_wp2_with fail; go_ret; exact ⟨rfl, HB3.out⟩
 | true =>
  have hG := rfParse_any w3 _ l0 (HV0.out.below HB3.out (Nat.le_refl _)) (alone2_all HAB.out).2.1 (alone2_all HAB.out).2.2; have hgot := fun h => got_all HAB.out (by omega) h
  obtain ⟨⟨x0, m0, e0⟩, hr⟩ : ∃ r, parE l0 = r := ⟨_, rfl⟩; rw [hr] at hG hgot
  (try simp only at hgot)
  have HGot := Lib.hid hgot; clear hr hgot; go_wp2_with fail; refine hG.mono ?_; clear hG; rintro _ w4 ⟨hb4, o, t, a, n, c, rfl, hX⟩; simp only [Nat.zero_add]; have HB4 := Lib.hid (HB3.out.trans (hb4.mono HB3.out.size)); have hc5 := Cells.new w4 (gotA o t (.slice a n c) (m0 : Nat) e0) 39; have hb5 := HB4.out.alloc HB4.out.size (.cells (gotA o t (.slice a n c) (m0 : Nat) e0) 39); have HX := Lib.hid hX; clear hX hb4
  by_cases he : e0 = 0
  ·have hb45 : Below w4.heap.size w4 (w4.alloc (.cells (gotA o t (.slice a n c) (m0 : Nat) e0) 39)) := (Below.refl _ w4).alloc (Nat.le_refl _) _
   subst he; obtain ⟨hr0, hf0, hp0⟩ := HGot.out rfl; have hX5 := ExpAt.below hb45 _ _ (ExpIn.at _ _ (HX.out rfl)); have hGr := GreatX_any x0 hf0 _ _ hX5; have H5 := Lib.hid (And.intro hc5 (And.intro hb5 hX5)); have HR := Lib.hid (And.intro hr0 hp0); clear hc5 hb5 hX5 hb45 hr0 hf0 hp0 HX HGot; go_wp2_with fail; generalize w4.alloc (.cells (gotA o t (.slice a n c) (m0 : Nat) 0) 39) = w5 at *; generalize w4.heap.size = X at *; refine hGr.mono ?_; clear hGr; rintro _ w6 ⟨⟨gb, rfl, hgb⟩, hb6⟩; have hc6 := H5.out.1.below hb6 H5.out.1.lt; have HB6 := Lib.hid (H5.out.2.1.trans (hb6.mono H5.out.2.1.size)); have hX6 := ExpAt.below hb6 _ _ H5.out.2.2; clear hb6 H5
   cases gb with
   | true =>
    clear hc6 hX6; go_wp2_with fail; go_ret; exact ⟨rfl, HB6.out⟩
   | false =>
    have hs0 := hgb rfl; have hSh := showExpr_any x0 hs0 w6 _ (HT.out.below HB6.out) hX6; simp only [vX] at hSh; have HS := Lib.hid hs0; have hl6 := hc6.lt; have HC6 := Lib.hid (And.intro hc6 hX6); clear hgb hs0 hX6; have hc6c0 := hc6.cell 0 _ rfl; have hc6f0 := hc6.frozen 0; have hc6c1 := hc6.cell 1 _ rfl; have hc6f1 := hc6.frozen 1; have hc6c2 := hc6.cell 2 _ rfl; have hc6f2 := hc6.frozen 2; have hc6c3 := hc6.cell 3 _ rfl; have hc6f3 := hc6.frozen 3; have hc6c4 := hc6.cell 4 _ rfl; have hc6f4 := hc6.frozen 4; clear hc6; go_wp2_with fail; refine hSh.mono ?_; clear hSh hc6c0 hc6c1 hc6c2 hc6c3 hc6c4 hc6f0 hc6f1 hc6f2 hc6f3 hc6f4; rintro _ w7 ⟨rfl, hb7⟩; have hc7 := HC6.out.1.below hb7 hl6; have hX7 := ExpAt.below hb7 _ _ HC6.out.2; have HB7 := Lib.hid (HB6.out.trans (hb7.mono HB6.out.size)); have hl7 := hc7.lt; have HC7 := Lib.hid (And.intro hc7 hX7); clear hb7 HC6; have hss : shS x0 = if (parE (prX x0)).2.2 = 0 then ptS (pcX x0) else ⟨#[]⟩ := by unfold shS; rw [HR.out.1]; simp
    have hse : shE x0 = if (parE (prX x0)).2.2 = 0 then 0 else 4 := by unfold shE; rw [HR.out.1]; rfl
    rw [hss, hse]; have HTo := Lib.hid (print_toks HR.out.1); have hsz : (ptS (pcX x0)).size <= 60000 := Nat.le_trans (ptS_size _) (wt_small HR.out.1 HS.out); have HWt := Lib.hid (wt_small HR.out.1 HS.out); have HSl := Lib.hid (ptS_list (pcX x0)); generalize ptS (pcX x0) = S at *; clear hss hse hX7
    by_cases hp0 : (parE (prX x0)).2.2 = 0
    ·rw [if_pos hp0, if_pos hp0]
     clear hp0; obtain ⟨toks, h1, -, -, -, h5, -, -, -, -⟩ := HTo.out; have hL := fun W => rLex_any S W (by omega)
     obtain ⟨z, hz⟩ : ∃ z, (lexL (catP (pcX x0)) 0).2.1 = z := ⟨_, rfl⟩; rw [HSl.out, h1, hz] at hL; have hle : ((toks.length : Nat) : Int) <= (m0 : Nat) := by have := HR.out.2; omega
     have hle := decide_eq_true hle; clear h1 h5 hz HTo; have g7 := hc7.cell 3 _ rfl; clear hc7; have HB8 := Lib.hid (fun (w8 : World) (h : Below w7.drew.heap.size w7.drew w8) => HB7.out.drew.trans (h.mono HB7.out.size)); go_wp2_with fail
     go_region_held3 (fun w' => w'.cell? ⟨X, 3, none⟩ = some (.int .i64 (m0 : Nat))) (first | exact g7 | exact g8) (first
      | (go_at_call 10; refine (hL _).mono ?_; rintro _ w8 ⟨v, rfl, hown, hb8⟩; obtain ⟨va, vc, rfl⟩ := hown.len; have hB8 := HB8.out w8 hb8; have g8 := (HC7.out.1.drew.below hb8 hl7).cell 3 _ rfl; have hfd : ∀ W : World, (Instr.field 32 (.agg #[.slice va toks.length vc, .int .i64 z, .int .i64 0]) 0).run Tryz.prog W = .ok (.slice va toks.length vc) W := fun _ => by kernel_rfl))
     all_goals
      trace_state
      go_wp2_with fail; go_ret; exact ⟨rfl, hB8⟩
    ·rw [if_neg hp0, if_neg hp0]
     clear hp0 HTo hc7; go_wp2_with fail; refine wp_region_under w7 (by kernel_rfl) (by kernel_rfl) (Below.refl _ _) ?_
     repeat (go_big_quiet_step (fail))
     refine wpQuiet_nil ?_; rintro _ ⟨x, rfl⟩; have HB8 := Lib.hid (HB7.out.trans (x.below.mono HB7.out.size)); go_wp2_with fail; go_ret; exact ⟨rfl, HB8.out⟩
  ·have hb5' := Lib.hid hb5
   have heb : (e0 != 0) = true := by simpa using he
   clear hc5 hb5 HX HGot; go_wp2_with fail; go_ret; exact ⟨rfl, hb5'.out⟩
end Go.Proofs.YthbhknfhmkhfgaaGreatDoor
namespace Go.Tab
set_option maxRecDepth 100000
set_option maxHeartbeats 20000000
open Go.Lib
def LaidAt (P : Program) (W : World) (n : String) (d : DataW Unit) : Prop :=
 ∃ g t cs fuel p, P.globalNamed n = some g /\ (P.globals[g]?).map (·.type) = some t /\ W.var? P n = some cs /\ DataW.trod (fun _ => ()) P W 0 (fun _ => true) false fuel t cs.toList = some (d, p)
theorem laid_vars {P : Program} {W : World} : ∀ {L : List (String × DataW Unit)} {ps : List MemPlace}, DataW.LaidVars P W L ps -> ∀ n d, (n, d) ∈ L -> LaidAt P W n d
 | [], _, _, _, _, h => by cases h
 | (n', d') :: L, _, h0, n, d, h => by
  obtain ⟨g, t, cs, fuel, p, q, h1, h2, h3, h4, h5, _⟩ := h0; rcases List.mem_cons.1 h with h | h
  ·cases h; exact ⟨g, t, cs, fuel, p, h1, h2, h3, h4⟩
  ·exact laid_vars h5 n d h
theorem laid_of_met {P : Program} {W : World} {L : List (String × DataW Unit)} (h : laidMet P L W) {n : String} {d : DataW Unit} (hm : (n, d) ∈ L) : LaidAt P W n d := by
 obtain ⟨ps, h1, _⟩ := h; exact laid_vars h1 n d hm
theorem LaidAt.tab {P : Program} {W : World} {name : String} {k : IntKind} {zs : List Int} {g : Nat} {t e : TypeId} {n : Nat}
  (hg : P.globalNamed name = some g) (hty : (P.globals[g]?).map (·.type) = some t) (ht : P.underlying t = some (.array n e)) (he : P.underlying e = some (.int k)) (hce : P.cellsOf e = 1) (hct : P.cellsOf t = n)
  (h : LaidAt P W name (tabData k zs)) : TabIs P W name k zs := by
 obtain ⟨g', t', cs, fuel, p, hg', ht', hvar, hd⟩ := h; obtain rfl := Option.some.inj (hg.symm.trans hg'); obtain rfl := Option.some.inj (hty.symm.trans ht'); unfold TabIs; rw [hvar, <- cells_of_tab ht he hce hct hd]
theorem cells_of_tabs {H : Type} {enc : TypeId × Value -> H} {P : Program} {w : World} {base : Nat} {sp : Nat -> Bool} {held : Bool} {fuel : Nat} {t e i : TypeId} {n m : Nat} {k : IntKind} {cs : List Value} {zss : List (List Int)} {p : List MemPlace}
  (ht : P.underlying t = some (.array n e)) (he : P.underlying e = some (.array m i)) (hi : P.underlying i = some (.int k)) (hci : P.cellsOf i = 1) (hce : P.cellsOf e = m) (hct : P.cellsOf t = n * m)
  (h : DataW.trod enc P w base sp held fuel t cs = some (.agg (zss.map fun zs => tabData k zs), p)) : ∀ a (ha : a < zss.length), ((cs.drop (a * m)).take m) = zss[a].map fun z => Value.int k z := by
 cases fuel with
 | zero => simp [DataW.trod] at h
 | succ fuel =>
  simp only [DataW.trod, ht, hce] at h; split at h
  ·rename_i hl
   obtain ⟨xs, hm, hx⟩ := Option.map_eq_some_iff.1 h
   have hxs : xs.map (·.1) = zss.map fun zs => (tabData k zs : DataW H) := by
    have := congrArg Prod.fst hx
    simpa using this
   have hxl : xs.length = n := by simpa using mapM_length hm
   have hzl : zss.length = n := by
    have := congrArg List.length hxs; simp at this
    omega
   intro a ha; obtain ⟨b, hb, hf⟩ := mapM_at hm a a (by simp [hzl ▸ ha])
   have h2 : (xs.map (·.1))[a]? = some b.1 := by simp [hb]
   rw [hxs] at h2; simp only [List.getElem?_map] at h2; rw [List.getElem?_eq_getElem ha] at h2; have h3 : b.1 = tabData k zss[a] := (Option.some.inj h2).symm; have h4 : DataW.trod enc P w base sp held fuel e ((cs.drop (a * m)).take m) = some (tabData k zss[a], b.2) := by rw [hf, <- h3]
   exact cells_of_tab he hi hci hce h4
  ·cases h
theorem LaidAt.tabs {P : Program} {W : World} {name : String} {k : IntKind} {zss : List (List Int)} {g : Nat} {t e i : TypeId} {n m : Nat}
  (hg : P.globalNamed name = some g) (hty : (P.globals[g]?).map (·.type) = some t) (ht : P.underlying t = some (.array n e)) (he : P.underlying e = some (.array m i)) (hi : P.underlying i = some (.int k)) (hci : P.cellsOf i = 1) (hce : P.cellsOf e = m) (hct : P.cellsOf t = n * m)
  (h : LaidAt P W name (.agg (zss.map fun zs => tabData k zs))) (a b : Nat) (ha : a < zss.length) (hb : b < zss[a].length) (hbm : b < m) : W.cell? ⟨g, a * m + b, none⟩ = some (.int k zss[a][b]) := by
 obtain ⟨g', t', cs, fuel, p, hg', ht', hvar, hd⟩ := h; obtain rfl := Option.some.inj (hg.symm.trans hg'); obtain rfl := Option.some.inj (hty.symm.trans ht'); have h1 := cells_of_tabs ht he hi hci hce hct hd a ha
 have h2 : cs[a * m + b]? = some (.int k zss[a][b]) := by
  have := congrArg (·[b]?) h1; simp only [List.getElem?_take, List.getElem?_drop, List.getElem?_map] at this; rw [if_pos hbm, List.getElem?_eq_getElem hb] at this
  simpa using this
 have h3 := World.var?_cell hg hvar (a * m + b); rw [h3, h2]
end Go.Tab
namespace Go.Tab
set_option maxRecDepth 100000
set_option maxHeartbeats 20000000
theorem met_of {P : Program} {L : List (String × DataW Unit)} {W : World} (h : laidMetH P L W) (hf : (L.filter fun x => x.2.handleName?.isSome) = []) : laidMet P L W := by
 unfold laidMetH at h; rw [hf] at h; exact h
end Go.Tab
namespace Go.Tab
set_option maxRecDepth 100000
set_option maxHeartbeats 20000000
open Go.Lib
theorem cells_of_strs {H : Type} {enc : TypeId × Value -> H} {P : Program} {w : World} {base : Nat} {sp : Nat -> Bool} {held : Bool} {fuel : Nat} {t e : TypeId} {n : Nat} {cs : List Value} {zs : List (List UInt8)} {p : List MemPlace}
  (ht : P.underlying t = some (.array n e)) (he : P.underlying e = some .string) (hce : P.cellsOf e = 1) (hct : P.cellsOf t = n)
  (h : DataW.trod enc P w base sp held fuel t cs = some (.agg (zs.map fun z => (.lit (.string z) : DataW H)), p)) : ∀ i (hi : i < zs.length), cs[i]? = some (Value.string ⟨zs[i].toArray⟩) := by
 cases fuel with
 | zero => simp [DataW.trod] at h
 | succ fuel =>
  simp only [DataW.trod, ht, hce, hct, Nat.mul_one] at h; split at h
  ·rename_i hl
   obtain ⟨xs, hm, hx⟩ := Option.map_eq_some_iff.1 h
   have hxs : xs.map (·.1) = zs.map fun z => (DataW.lit (.string z) : DataW H) := by
    have := congrArg Prod.fst hx
    simpa using this
   have hxl : xs.length = n := by simpa using mapM_length hm
   have hzl : zs.length = n := by
    have := congrArg List.length hxs; simp at this
    omega
   intro i hi; obtain ⟨b, hb, hf⟩ := mapM_at hm i i (by simp [hzl ▸ hi])
   obtain ⟨s, hc, rfl, _⟩ := DataW.trod_string he hf
   have h1 : cs[i]? = some (.string s) := by
    have := congrArg (·[0]?) hc
    simpa [List.getElem?_take, List.getElem?_drop] using this
   have h2 : (xs.map (·.1))[i]? = some (DataW.lit (.string s.data.toList) : DataW H) := by simp [hb]
   rw [hxs] at h2; simp only [List.getElem?_map, List.getElem?_eq_getElem hi, Option.map_some, Option.some.injEq, DataW.lit.injEq, Lit.string.injEq] at h2; rw [h1, h2]
  ·cases h
theorem LaidAt.strs {P : Program} {W : World} {name : String} {zs : List (List UInt8)} {g : Nat} {t e : TypeId} {n : Nat}
  (hg : P.globalNamed name = some g) (hty : (P.globals[g]?).map (·.type) = some t) (ht : P.underlying t = some (.array n e)) (he : P.underlying e = some .string) (hce : P.cellsOf e = 1) (hct : P.cellsOf t = n)
  (h : LaidAt P W name (.agg (zs.map fun z => .lit (.string z)))) (i : Nat) (hi : i < zs.length) : W.cell? ⟨g, i, none⟩ = some (.string ⟨zs[i].toArray⟩) := by
 obtain ⟨g', t', cs, fuel, p, hg', ht', hvar, hd⟩ := h; obtain rfl := Option.some.inj (hg.symm.trans hg'); obtain rfl := Option.some.inj (hty.symm.trans ht'); have h2 := cells_of_strs ht he hce hct hd i hi; have h3 := World.var?_cell hg hvar i; rw [h3]
 simpa using h2
def flatS : Nat -> DataW Unit -> List Value
 | 0, _ => []
 | _ + 1, .lit (.int k z) => [.int k z]
 | _ + 1, .lit (.string s) => [.string ⟨s.toArray⟩]
 | n + 1, .agg xs => xs.flatMap (flatS n)
 | _, _ => []
def layVarS (P : Program) (h : Array Obj) (nd : String × DataW Unit) : Array Obj :=
 match P.globalNamed nd.1, flatS 4 nd.2 with
 | some g, v :: vs => h.modify g fun o => match o with
  | .cells _ t f => .cells (v :: vs).toArray t f
  | o => o
 | _, _ => h
def layAllS (P : Program) (L : List (String × DataW Unit)) (h : Array Obj) : Array Obj := L.foldl (layVarS P) h
end Go.Tab
namespace Go.Proofs.YthbhknfhmkhfgaaGreatDoor
set_option maxRecDepth 100000
set_option maxHeartbeats 20000000
open Go.RowKit Go.Tab
def stepsZ : List (List Int) := [[1, 9, 2, 3, 9, 9, 9], [9, 9, 2, 3, 9, 9, 9], [9, 9, 9, 9, 4, 6, 9], [9, 9, 3, 3, 4, 6, 9], [9, 9, 5, 5, 9, 9, 9], [9, 9, 5, 5, 9, 6, 9], [7, 7, 8, 8, 9, 9, 9], [9, 9, 8, 8, 9, 9, 9], [9, 9, 8, 8, 9, 9, 9]]
theorem steps_are : ∀ j : Fin 63, ((stepsZ.getD (j.val / 7) []).getD (j.val % 7) 0) = ((stepsN.getD j.val 9 : Nat) : Int) := by decide +kernel
theorem gSteps : Tryz.prog.globalNamed "tabularium/num.steps" = some 2 := by kernel_rfl
theorem tSteps : (Tryz.prog.globals[2]?).map (·.type) = some 138 := by kernel_rfl
theorem c1 : Tryz.prog.cellsOf 3 = 1 := by kernel_rfl
theorem c7 : Tryz.prog.cellsOf 137 = 7 := by kernel_rfl
theorem c63 : Tryz.prog.cellsOf 138 = 9 * 7 := by kernel_rfl
theorem dSteps : (Rows.laid_tabularium_num_steps : DataW Unit) = .agg (stepsZ.map fun zs => Lib.tabData .i64 zs) := by kernel_rfl
theorem rows7 : ∀ a : Fin 9, (stepsZ.getD a.val []).length = 7 := by decide +kernel
theorem gTab : Tryz.prog.globalNamed "tabularium/utf.sizes" = some 3 := by kernel_rfl
theorem gTabType : (Tryz.prog.globals[3]?).map (·.type) = some 153 := by kernel_rfl
theorem cellsTab : Tryz.prog.cellsOf 153 = 32 := by kernel_rfl
def sizesZ : List Int := [1, 1, 1, 1, 1, 1, 1, 1, 1, 1, 1, 1, 1, 1, 1, 1, 0, 0, 0, 0, 0, 0, 0, 0, 2, 2, 2, 2, 3, 3, 4, 0]
theorem sizes_are : ∀ j : Fin 32, sizesZ.getD j.val 0 = ((sizeOf8 (8 * j.val) : Nat) : Int) := by decide +kernel
theorem dSizes : (Rows.laid_tabularium_utf_sizes : DataW Unit) = Lib.tabData .i64 sizesZ := by kernel_rfl
theorem gDbl : Tryz.prog.globalNamed "tabularium/lex.doubles" = some 0 := by kernel_rfl
theorem tDbl : (Tryz.prog.globals[0]?).map (·.type) = some 134 := by kernel_rfl
theorem cStr1 : Tryz.prog.cellsOf 9 = 1 := by kernel_rfl
theorem c6 : Tryz.prog.cellsOf 134 = 6 := by kernel_rfl
theorem dDbl : (Rows.laid_tabularium_lex_doubles : DataW Unit) = .agg (dbls.map fun z => .lit (.string z)) := by kernel_rfl
theorem dbl6 : dbls.length = 6 := by decide +kernel
theorem lexT_of {L : List (String × DataW Unit)} {W : World} (hL : laidMetH Tryz.prog L W) (hf : (L.filter fun x => x.2.handleName?.isSome) = []) (hsh : W.ShapedOpen Tryz.prog)
  (h1 : ("tabularium/utf.sizes", Rows.laid_tabularium_utf_sizes) ∈ L) (h2 : ("tabularium/num.steps", Rows.laid_tabularium_num_steps) ∈ L) (h3 : ("tabularium/lex.doubles", Rows.laid_tabularium_lex_doubles) ∈ L) : LexT W := by
 have met := met_of hL hf; have l1 := laid_of_met met h1; have l2 := laid_of_met met h2; have l3 := laid_of_met met h3; rw [dSizes] at l1; rw [dSteps] at l2; rw [dDbl] at l3; refine ⟨fun j hj => ?_, fun j hj => ?_, fun j hj => ?_, ?_⟩
 ·have t := l1.tab gTab gTabType Tryz.underlying153 Tryz.underlying3 c1 cellsTab
  have hc := t.cell gTab j (by simpa [sizesZ] using hj)
  rw [hc, show sizesZ.getD j 0 = _ from sizes_are ⟨j, hj⟩]
 ·have ha : j / 7 < stepsZ.length := by show j / 7 < 9; omega
  have hg : stepsZ.getD (j / 7) [] = stepsZ[j / 7] := by rw [List.getD_eq_getElem?_getD, List.getElem?_eq_getElem ha]; rfl
  have hr := rows7 ⟨j / 7, ha⟩; simp only [hg] at hr; have hb : j % 7 < (stepsZ[j / 7]).length := by rw [hr]; omega
  have h3 := l2.tabs gSteps tSteps Tryz.underlying138 Tryz.underlying137 Tryz.underlying3 c1 c7 c63 (j / 7) (j % 7) ha hb (by omega)
  rw [show j / 7 * 7 + j % 7 = j by omega] at h3
  rw [h3]; have h4 := steps_are ⟨j, hj⟩; simp only [hg] at h4; rw [List.getD_eq_getElem?_getD, List.getElem?_eq_getElem hb] at h4; rw [<- h4]; rfl
 ·have h := l3.strs gDbl tDbl Tryz.underlying134 Tryz.underlying9 cStr1 c6 j (by rw [dbl6]; exact hj)
  rw [h, List.getD_eq_getElem?_getD, List.getElem?_eq_getElem (by rw [dbl6]; exact hj)]
  rfl
 ·exact cell_of_shapedOpen_int (t := 3) (zero := #[.int .i64 0]) hsh (by decide +kernel) (by kernel_rfl) rfl (by kernel_rfl) (by kernel_rfl) Tryz.underlying3
theorem tab_of_ShowParsed {W : World} (hL : laidMetH Tryz.prog Rows.showParsedRow.laid W) (hsh : W.ShapedOpen Tryz.prog) : LexT W := lexT_of hL (by kernel_rfl) hsh (.tail _ (.head _)) (.tail _ (.tail _ (.head _))) (.tail _ (.tail _ (.tail _ (.head _))))
theorem tab_of_ShowTokens {W : World} (hL : laidMetH Tryz.prog Rows.showTokensRow.laid W) (hsh : W.ShapedOpen Tryz.prog) : LexT W := lexT_of hL (by kernel_rfl) hsh (.tail _ (.head _)) (.tail _ (.tail _ (.head _))) (.tail _ (.tail _ (.tail _ (.head _))))
end Go.Proofs.YthbhknfhmkhfgaaGreatDoor
