/- Texts of this claim, one behind the other: BoA, ExR, ExS, BoQ, BoB, LkA, LkB, QuX, LxK, LxM, RwP. -/
import Derived.Test.YtbcdaaobbebooaaGreatDoorMgb
import Derived.Test.YtbcdaaobbebooaaGreatDoorMge
import Derived.Test.YtbcdaaobbebooaaGreatDoorMgf
import Derived.Test.YtbcdaaobbebooaaGreatDoorMgg
set_option linter.unusedSimpArgs false
set_option linter.unusedVariables false
namespace Go.Proofs.YtbcdaaobbebooaaGreatDoor
set_option maxRecDepth 100000
set_option maxHeartbeats 20000000
open Go.RowKit Go.Tab
section
variable (E : Exp -> List Value -> Prop) (S : Value -> List ByteArray -> Prop) (B : Nat -> Prop)
mutual
def ItmR (w : World) : Itm -> List Value -> Prop
 | .mk b n v ls its, cs => ∃ vo vt vk lv a cap, cs = [.bool b, .string n, .string vo, .string vt, vk, lv, .slice a its.length cap] /\ E v [.string vo, .string vt, vk] /\ S lv ls /\
   its.length <= cap /\ cap <= maxLen /\ (a = none -> cap = 0) /\ ∀ x, a = some x -> its ≠ [] -> x.spot = none /\ B x.block /\ ItmsR w x.block x.off its
def ItmsR (w : World) (b off : Nat) : List Itm -> Prop
 | [] => True
 | t :: r => (∃ cs, (∀ j u, cs[j]? = some u -> w.cell? ⟨b, off + j, none⟩ = some u) /\ ItmR w t cs) /\ ItmsR w b (off + 7) r
end
end
section
variable {E E' : Exp -> List Value -> Prop} {S S' : Value -> List ByteArray -> Prop} {B B' : Nat -> Prop} {w w' : World}
mutual
theorem ItmR.map (hE : ∀ e cs, E e cs -> E' e cs) (hS : ∀ v l, S v l -> S' v l) (hB : ∀ b, B b -> B' b) (hc : ∀ b, B b -> ∀ off u, w.cell? ⟨b, off, none⟩ = some u -> w'.cell? ⟨b, off, none⟩ = some u) :
  ∀ (t : Itm) (cs : List Value), ItmR E S B w t cs -> ItmR E' S' B' w' t cs
 | .mk b n v ls its, cs, h => by
  simp only [ItmR] at h ⊢; obtain ⟨vo, vt, vk, lv, a, cap, h1, h2, h3, h4, h5, h6, h7⟩ := h; refine ⟨vo, vt, vk, lv, a, cap, h1, hE _ _ h2, hS _ _ h3, h4, h5, h6, fun x hx hne => ?_⟩; obtain ⟨g1, g2, g3⟩ := h7 x hx hne; exact ⟨g1, hB _ g2, ItmsR.map hE hS hB hc g2 its x.off g3⟩
theorem ItmsR.map (hE : ∀ e cs, E e cs -> E' e cs) (hS : ∀ v l, S v l -> S' v l) (hB : ∀ b, B b -> B' b) (hc : ∀ b, B b -> ∀ off u, w.cell? ⟨b, off, none⟩ = some u -> w'.cell? ⟨b, off, none⟩ = some u) {b : Nat} (hb : B b) :
  ∀ (l : List Itm) (off : Nat), ItmsR E S B w b off l -> ItmsR E' S' B' w' b off l
 | [], _, _ => by simp only [ItmsR]
 | t :: r, off, h => by
  simp only [ItmsR] at h ⊢; obtain ⟨⟨cs, h1, h2⟩, h3⟩ := h; exact ⟨⟨cs, fun j u hu => hc b hb _ _ (h1 j u hu), ItmR.map hE hS hB hc t cs h2⟩, ItmsR.map hE hS hB hc hb r _ h3⟩
end
theorem ItmR.open {b : Bool} {n : ByteArray} {v : Exp} {ls : List ByteArray} {its : List Itm} {cs : List Value} (h : ItmR E S B w (.mk b n v ls its) cs) :
  ∃ vo vt vk lv a cap, cs = [.bool b, .string n, .string vo, .string vt, vk, lv, .slice a its.length cap] /\ E v [.string vo, .string vt, vk] /\ S lv ls /\
   its.length <= cap /\ cap <= maxLen /\ (a = none -> cap = 0) /\ ∀ x, a = some x -> its ≠ [] -> x.spot = none /\ B x.block /\ ItmsR E S B w x.block x.off its := by
 simp only [ItmR] at h; exact h
theorem ItmR.len7 {t : Itm} {cs : List Value} (h : ItmR E S B w t cs) : cs.length = 7 := by
 cases t
 obtain ⟨_, _, _, _, _, _, rfl, -⟩ := h.open; rfl
theorem ItmsR.make {b : Nat} : ∀ (l : List Itm) (off : Nat), (∀ k (h : k < l.length), ∃ cs, (∀ (j : Nat) (u : Value), cs[j]? = some u -> w.cell? ⟨b, off + k * 7 + j, none⟩ = some u) /\ ItmR E S B w l[k] cs) -> ItmsR E S B w b off l
 | [], _, _ => by simp only [ItmsR]
 | t :: r, off, h => by
  simp only [ItmsR]; constructor
  ·obtain ⟨cs, h1, h2⟩ := h 0 (by simp)
   exact ⟨cs, fun j u hu => by have := h1 j u hu; simpa using this, by simpa using h2⟩
  ·refine ItmsR.make r (off + 7) (fun k hk => ?_)
   obtain ⟨cs, h1, h2⟩ := h (k + 1) (by simp; omega)
   refine ⟨cs, fun j u hu => ?_, by simpa using h2⟩
   rw [<- h1 j u hu]
   congr 2
   omega
end
def ItmAt (w : World) : Itm -> List Value -> Prop := ItmR (ExpAt w) (RowOf Value.string w) (fun b => b < w.heap.size) w
def RowIn (P : Nat -> Prop) (w : World) (v : Value) (l : List ByteArray) : Prop := RowOf Value.string w v l /\ ∀ k, v.ownBlock = some k -> P k /\ k < w.heap.size
def ItmIn (P : Nat -> Prop) (w : World) : Itm -> List Value -> Prop := ItmR (ExpIn P w) (RowIn P w) (fun b => b < w.heap.size /\ P b) w
theorem ItmIn.at {P : Nat -> Prop} {w : World} (t : Itm) (cs : List Value) (h : ItmIn P w t cs) : ItmAt w t cs :=
 ItmR.map (fun e cs h => ExpIn.at e cs h) (fun _ _ h => h.1) (fun _ h => h.1) (fun _ _ _ _ h => h) t cs h
theorem RowIn.move {P Q : Nat -> Prop} {w w' : World} (hs : w.heap.size <= w'.heap.size) (hb : ∀ k, P k -> k < w.heap.size -> w'.heap[k]? = w.heap[k]?) (hq : ∀ k, P k -> k < w.heap.size -> Q k) {v : Value} {l : List ByteArray} (h : RowIn P w v l) : RowIn Q w' v l :=
 ⟨h.1.moved hs (fun b off hlt hv => cell_same (hb b (h.2 b hv).1 hlt) off), fun k hk => ⟨hq k (h.2 k hk).1 (h.2 k hk).2, Nat.lt_of_lt_of_le (h.2 k hk).2 hs⟩⟩
theorem ItmIn.move {P Q : Nat -> Prop} {w w' : World} (hs : w.heap.size <= w'.heap.size) (hb : ∀ k, P k -> k < w.heap.size -> w'.heap[k]? = w.heap[k]?) (hq : ∀ k, P k -> k < w.heap.size -> Q k) (t : Itm) (cs : List Value) (h : ItmIn P w t cs) : ItmIn Q w' t cs :=
 ItmR.map (fun e cs h => ExpIn.move hs hb hq e cs h) (fun _ _ h => h.move hs hb hq) (fun b h => ⟨Nat.lt_of_lt_of_le h.1 hs, hq b h.2 h.1⟩) (fun b h off u hu => (cell_same (hb b h.2 h.1) off).trans hu) t cs h
theorem ItmIn.below {P : Nat -> Prop} {w w' : World} (hb : Below w.heap.size w w') (t : Itm) (cs : List Value) (h : ItmIn P w t cs) : ItmIn P w' t cs :=
 ItmIn.move hb.size (fun k _ hk => hb.block k hk) (fun _ h _ => h) t cs h
theorem ItmIn.leaf {P : Nat -> Prop} {w : World} {b : Bool} {n : ByteArray} {v : Exp} {ls : List ByteArray} {vo vt : ByteArray} {vk lv : Value} (hv : ExpIn P w v [.string vo, .string vt, vk]) (hl : RowIn P w lv ls) :
  ItmIn P w (.mk b n v ls []) [.bool b, .string n, .string vo, .string vt, vk, lv, .slice none 0 0] := by
 unfold ItmIn; simp only [ItmR]; exact ⟨vo, vt, vk, lv, none, 0, rfl, hv, hl, Nat.le_refl _, Nat.zero_le _, fun _ => rfl, fun x hx => by cases hx⟩
theorem RowIn.nil {P : Nat -> Prop} {w : World} : RowIn P w (.slice none 0 0) [] := ⟨RowOf.nil, fun k hk => by cases hk⟩
def ItmsAt (w : World) (v : Value) (l : List Itm) : Prop := ∃ a cap, v = .slice a l.length cap /\ l.length <= cap /\ cap <= maxLen /\ (a = none -> cap = 0) /\
 ∀ x, a = some x -> l ≠ [] -> x.spot = none /\ x.block < w.heap.size /\ ItmsR (ExpAt w) (RowOf Value.string w) (fun b => b < w.heap.size) w x.block x.off l
theorem ItmsAt.len {w : World} {v : Value} {l : List Itm} (h : ItmsAt w v l) : ∃ a cap, v = .slice a l.length cap /\ l.length <= cap /\ cap <= maxLen /\ (a = none -> cap = 0) := by
 obtain ⟨a, cap, h1, h2, h3, h4, -⟩ := h; exact ⟨a, cap, h1, h2, h3, h4⟩
def OwnC (base : Nat) (w : World) (v : Value) (css : List (List Value)) : Prop := w.ownsRow base 54 7 v css.length css.flatten /\ ∀ cs ∈ css, cs.length = 7
theorem OwnC.lt {base : Nat} {w : World} {v : Value} {css : List (List Value)} (h : OwnC base w v css) : ∀ k, v.ownBlock = some k -> base <= k /\ k < w.heap.size := World.ownsRow.lt h.1
theorem flat7 : ∀ (css : List (List Value)) (h : ∀ cs ∈ css, cs.length = 7) (k : Nat) (hk : k < css.length) (j : Nat) (hj : j < 7), css.flatten[k * 7 + j]? = (css[k])[j]?
 | c :: r, h, 0, _, j, hj => by
  have hc := h c (by simp)
  simp only [List.flatten_cons, Nat.zero_mul, Nat.zero_add, List.getElem_cons_zero]; rw [List.getElem?_append_left (by omega)]
 | c :: r, h, k + 1, hk, j, hj => by
  have hc := h c (by simp)
  have ih := flat7 r (fun cs hcs => h cs (by simp [hcs])) k (by simpa using hk) j hj
  simp only [List.flatten_cons, List.getElem_cons_succ]; rw [List.getElem?_append_right (by omega), <- ih]
  congr 1
  omega
theorem OwnC.cellAt {base : Nat} {w : World} {a : Option Addr} {n cap : Nat} {css : List (List Value)} (h : OwnC base w (.slice a n cap) css) {k : Nat} (hk : k < css.length) :
  ∃ g, a = some ⟨g, 0, none⟩ /\ base <= g /\ g < w.heap.size /\ (∀ (j : Nat) (u : Value), css[k][j]? = some u -> w.cell? ⟨g, k * 7 + j, none⟩ = some u) /\ ∀ off, w.frozen? ⟨g, off, none⟩ = false := by
 have hlt := h.lt; obtain ⟨⟨h1, h2⟩, h7⟩ := h; rcases h2 with ⟨he, h3⟩ | ⟨g, cap', cur, he, hb, hg, h3, h4, h5, h6⟩
 ·omega
 ·cases he
  refine ⟨g, rfl, hb, (hlt g rfl).2, fun j u hu => ?_, fun off => ?_⟩
  ·have hj : j < 7 := by have := (List.getElem?_eq_some_iff.1 hu).1; rw [h7 _ (List.getElem_mem _)] at this; exact this
   rw [cell_of_row w g _ cur 54 (0, 0) hg]; have h8 := flat7 css h7 k hk j hj; rw [<- h6, List.getElem?_take, if_pos (by omega), hu] at h8
   simpa using h8
  ·simp [World.frozen?, hg]
theorem Tryz.infoItm : (Tryz.prog.info? 54).map (fun i => (i.zero, i.size, i.bytes)) = some (some (.agg #[.bool false, .string ⟨#[]⟩, .string ⟨#[]⟩, .string ⟨#[]⟩, .slice none 0 0, .slice none 0 0, .slice none 0 0]), 7, 128) := by kernel_rfl
theorem lexL_text : ∀ (k : Nat) (l : Bs) (p : Nat), l.length <= k -> ∀ t ∈ (lexL l p).1, t.text.size <= l.length
 | 0, l, p, h => by
  obtain rfl := List.eq_nil_of_length_eq_zero (Nat.le_zero.1 h); intro t ht; rw [lexL_nil] at ht; cases ht
 | k + 1, [], p, _ => by
  intro t ht; rw [lexL_nil] at ht; cases ht
 | k + 1, c :: r, p, h => by
  simp only [List.length_cons] at h ⊢
  by_cases hb : blankB c = true
  ·rw [lexL_blank hb]
   intro t ht; have := lexL_text k r (p + 1) (by omega) t ht
   omega
  ·have hb : blankB c = false := by simpa using hb
   cases ho : one1 (c :: r) with
   | bad off e =>
    rw [lexL_bad hb ho]; intro t ht; cases ht
   | tok kd sz =>
    have hs := one1_size ho; rw [lexL_tok hb ho]; intro t ht; rcases List.mem_cons.1 ht with rfl | ht
    ·show (strL ((c :: r).take sz)).size <= _
     have : (strL ((c :: r).take sz)).size = ((c :: r).take sz).length := by unfold strL; simp [ByteArray.size]
     rw [this, List.length_take, List.length_cons]; omega
    ·have := lexL_text k ((c :: r).drop sz) (p + sz) (by rw [List.length_drop, List.length_cons]; omega) t ht
     rw [List.length_drop, List.length_cons] at this; omega
theorem lexP_len (l : Bs) : (lexP l).1.length <= l.length /\ ∀ t ∈ (lexP l).1, t.text.size <= l.length := by
 unfold lexP; split
 ·exact ⟨lexL_len _ _ _ (Nat.le_refl _), lexL_text _ _ _ (Nat.le_refl _)⟩
 ·exact ⟨Nat.zero_le _, fun t ht => by cases ht⟩
theorem size_list2 (s : ByteArray) : s.data.toList.length = s.size := by rw [Array.length_toList]; rfl
end Go.Proofs.YtbcdaaobbebooaaGreatDoor
namespace Go.Proofs.YtbcdaaobbebooaaGreatDoor
set_option maxRecDepth 100000
set_option maxHeartbeats 20000000
def AtX (r : List Tok) (g : GotX) : Prop := g.2.2 = 0 \/ g.2.2 = 2 \/ g.2.2 = -1 \/ g.2.1 < r.length
theorem AtX.and {r : List Tok} {g : GotX} {f : Exp -> Nat -> GotX} (h : AtX r g) (hf : AtX r (f g.1 g.2.1)) : AtX r (andX g f) := by
 by_cases he : g.2.2 = 0
 ·rw [andX_ok he]; exact hf
 ·rw [andX_bad he]; exact h
theorem AtX.up {r : List Tok} {g : GotX} {n : Nat} (h : AtX (r.drop n) g) : AtX r (upX n g) := by
 rcases h with h | h | h | h
 ·exact .inl h
 ·exact .inr (.inl h)
 ·exact .inr (.inr (.inl h))
 ·refine .inr (.inr (.inr ?_))
  rw [List.length_drop] at h; simp only [upX]; omega
theorem AtX.ok {r : List Tok} {x : Exp} {n : Nat} : AtX r (x, n, 0) := .inl rfl
theorem AtX.bad {r : List Tok} {n : Nat} : AtX r (badX (r.drop n) n) := by
 unfold badX; split
 ·exact .inr (.inl rfl)
 ·next h =>
  refine .inr (.inr (.inr ?_)); refine Nat.lt_of_not_le fun hle => h ?_; exact List.drop_eq_nil_of_le hle
theorem AtX.bad0 {r : List Tok} : AtX r (badX r 0) := by simpa using AtX.bad (r := r) (n := 0)
theorem AtX.deep {r : List Tok} {n : Nat} (h : n < r.length) : AtX r (deepX n) := .inr (.inr (.inr h))
theorem isS_lt {r : List Tok} {k : Nat} {w : ByteArray} (h : isS (r.drop k) w = true) : k < r.length := by
 have := isS_some h; rw [List.length_drop] at this; omega
theorem isS_ltN {r : List Tok} {k : Nat} {w : ByteArray} (h : ¬ isS (r.drop k) w = false) : k < r.length := isS_lt (by simpa using h)
theorem par_at : ∀ (n : Nat) (t : Nt) (r : List Tok) (d : Nat), t.okX r -> AtX r (parX n t r d) := by
 intro n
 induction n with
 | zero => intro t r d _; exact .inr (.inr (.inl rfl))
 | succ n IH =>
  intro t r d ht
  cases t with
  | choice =>
   rw [parX]; refine (IH (.term 1) r d (by simp only [Nt.okX]; omega)).and ?_
   split
   ·exact .ok
   ·next hq =>
    split
    ·exact .deep (isS_ltN hq)
    ·refine (IH .choice _ _ trivial).up.and ?_
     split
     ·exact .bad
     ·exact (IH .choice _ _ trivial).up.and .ok
  | term lv =>
   simp only [Nt.okX] at ht; rw [parX]; split
   ·exact IH _ _ _ trivial
   ·exact (IH (.term (lv + 1)) r d (by simp only [Nt.okX]; omega)).and (IH (.tloop lv _) _ _ (by simp only [Nt.okX]; omega)).up
  | tloop lv a =>
   simp only [Nt.okX] at ht; rw [parX]; split
   ·exact .ok
   ·exact (IH (.term (lv + 1)) _ d (by simp only [Nt.okX]; omega)).up.and (IH (.tloop lv _) _ _ (by simp only [Nt.okX]; omega)).up
  | tight =>
   rw [parX]; split
   ·exact IH _ _ _ trivial
   ·next hs =>
    split
    ·refine .deep ?_
     refine List.length_pos_iff.2 fun h => hs ?_; rw [h]; exact ⟨rfl, rfl⟩
    ·exact (IH .tight _ _ trivial).up.and .ok
  | post =>
   rw [parX]; exact (IH .prime _ _ trivial).and (IH (.ploop _) _ _ trivial).up
  | ploop a =>
   rw [parX]; split
   ·next hdot =>
    have hl := isS_some hdot; split
    ·next hq =>
     have := AtX.bad (r := r) (n := 1); rw [hq] at this; exact this
    ·next t q hq =>
     split
     ·exact (IH (.ploop _) _ _ trivial).up
     ·exact .bad
   ·split
    ·next hlb =>
     split
     ·exact .deep (isS_some hlb)
     ·refine (IH .choice _ _ trivial).up.and ?_
      split
      ·exact .bad
      ·exact (IH (.ploop _) _ _ trivial).up
    ·exact .ok
  | prime =>
   cases r with
   | nil => simp only [parX]; exact .bad0
   | cons t r' =>
    simp only [parX]; split
    ·split
     ·next hs => exact (AtX.up (r := t :: r') (n := 1) (IH (.many sRp) r' d (isS_some hs))).and .ok
     ·exact .ok
    ·split
     ·exact .ok
     ·split
      ·split
       ·exact .inr (.inr (.inr (by simp)))
       ·exact .ok
      ·split
       ·exact (IH (.many sRb) (t :: r') d (by simp [Nt.okX])).and .ok
       ·split
        ·split
         ·exact .deep (by simp)
         ·refine (AtX.up (r := t :: r') (n := 1) (IH .choice r' (d + 1) trivial)).and ?_
          split
          ·exact .bad
          ·exact .ok
        ·exact .bad0
  | many s =>
   have hl : 1 <= r.length := ht; rw [parX]; split
   ·exact .deep hl
   ·split
    ·exact .ok
    ·exact (IH (.mloop s []) _ _ trivial).up
  | mloop s l =>
   rw [parX]; refine (IH .choice r (d + 1) trivial).and ?_; split
   ·exact (IH (.mloop s _) _ _ trivial).up
   ·split
    ·exact .ok
    ·exact .bad
theorem parE_at (l : List Tok) (h0 : (parE l).2.2 ≠ 0) (h2 : (parE l).2.2 ≠ 2) : (parE l).2.1 < l.length := by
 unfold parE at h0 h2 ⊢
 by_cases hb : 1000 < l.length
 ·rw [if_pos hb]; exact hb
 ·rw [if_neg hb] at h0 h2 ⊢
  by_cases h : (parX (fuelX .choice l) .choice l 0).2.2 = 0
  ·rw [if_pos h] at h0; exact absurd h h0
  ·rw [if_neg h] at h0 h2 ⊢
   have hf := parX_fine (fuelX .choice l) .choice l 0 (Nat.le_refl _) trivial; rcases par_at (fuelX .choice l) .choice l 0 trivial with q | q | q | q
   ·exact absurd q h
   ·exact absurd q h2
   ·exact absurd q hf.1
   ·exact q
theorem parE_le2 (l : List Tok) : (parE l).2.1 <= l.length := by
 unfold parE; have hf := parX_fine (fuelX .choice l) .choice l 0 (Nat.le_refl _) trivial; split
 ·next h => show 1000 <= _; omega
 ·split
  ·exact hf.2.1
  ·exact hf.2.1
end Go.Proofs.YtbcdaaobbebooaaGreatDoor
namespace Go.Proofs.YtbcdaaobbebooaaGreatDoor
set_option maxRecDepth 100000
set_option maxHeartbeats 20000000
open Go.RowKit Go.Tab
abbrev lineV (v : Value) (stop : Int) (last : Bool) : Value := .agg #[v, .int .i64 stop, .bool last]
abbrev lineC (v : Value) (stop : Int) (last : Bool) : Array Value := #[v, .int .i64 stop, .bool last]
abbrev PBox (w : World) (g : Nat) (v : Value) (a e : Int) : Prop := Cells w g #[v, .int .i64 a, .int .i64 e] 83
def lnE : LnR -> Int × Int
 | .wrong a e => (a, e)
 | _ => (0, 0)
def lnK : LnR -> Int
 | .wrong _ _ => 0
 | .empty => 1
 | .attr _ => 2
 | .begins _ => 3
 | .bare _ => 4
 | .fin => 5
def lnX : LnR -> Itm
 | .attr x => x
 | .begins x => x
 | .bare x => x
 | _ => zeroI
def signT (t : Tok) (s : ByteArray) : Bool := decide (t.kind = 4) && decide (t.text = s)
theorem isS_cons (t : Tok) (r : List Tok) (s : ByteArray) : isS (t :: r) s = signT t s := rfl
theorem text_dec (a b : ByteArray) : (a.toList == b.toList) = decide (a = b) := by
 by_cases h : a = b
 ·subst h; simp
 ·rw [decide_eq_false h]; exact str_ne h
theorem sign_tok (t : Tok) (s : ByteArray) (w : World) : Calls Tryz.prog 131 #[tokV t, .string s] w fun e w' => e = .returned (.bool (signT t s)) /\ Below w.heap.size w w' := by
 obtain ⟨k, tx, p⟩ := t; have hb1 : Below w.heap.size w (w.alloc (.cells #[.int .i64 k, .string tx, .int .i64 p] 63)) := (Below.refl _ w).alloc (Nat.le_refl _) _
 have ek : (k == 4) = decide (k = 4) := by
  by_cases h : k = 4
  ·subst h; simp
  ·rw [decide_eq_false h]; simpa using h
 have et := text_dec tx s; unfold signT; simp only [tokV]; generalize decide (k = 4) = bk at *; generalize decide (tx = s) = bt at *; go_enter Tryz.func131, Tryz.ntmps131; cases bk <;> cases bt
 all_goals
  go_wp2; go_ret; exact ⟨rfl, hb1⟩
theorem bfail_any (g : Nat) (v : Value) (a0 e0 a e : Int) (w : World) (h : PBox w g v a0 e0) : Calls Tryz.prog 50 #[.pointer (some ⟨g, 0, none⟩), .int .i64 a, .int .i64 e] w fun r w' => r = .returned (.tuple #[]) /\ PBox w' g v a e /\ w' = (w.setCell ⟨g, 1, none⟩ (.int .i64 a)).setCell ⟨g, 2, none⟩ (.int .i64 e) := by
 have hl := h.lt; have HH := Lib.hid h; have hc0 := h.cell 0 _ rfl; have hf0 := h.frozen 0; have hc1 := h.cell 1 _ rfl; have hf1 := h.frozen 1; have hc2 := h.cell 2 _ rfl; have hf2 := h.frozen 2; clear h; go_enter Tryz.func50, Tryz.ntmps50; go_wp2; refine bodyPost_end (v := .tuple #[]) (by simp [results, Tryz.results50, go_sem]) rfl ?_
 exact ⟨rfl, by simpa using (HH.out.setI 1 (.int .i64 a)).setI 2 (.int .i64 e), rfl⟩
def LackP (g : Nat) (v : Value) (r : LnR) (w : World) (e : Ending) (w' : World) : Prop := e = .returned (.tuple #[]) /\ Save g w w' /\ PBox w' g v (lnE r).1 (lnE r).2
theorem lacks_any (g : Nat) (v : Value) (row : List Tok) (lv : Value) (stop : Int) (last : Bool) (i : Nat) (w : World) (h : PBox w g v 0 0) (hr : ToksAt w lv row) (hn : row.length <= 1000000) :
  Calls Tryz.prog 132 #[.pointer (some ⟨g, 0, none⟩), lineV lv stop last, .int .i64 (i : Nat)] w (LackP g v (lackR row stop last i) w) := by
 obtain ⟨ra, rc, rfl, hl1, hl2, -⟩ := hr.len; unfold maxLen at hl2; have hb1 : Below w.heap.size w (w.alloc (.cells (lineC (.slice ra row.length rc) stop last) 86)) := (Below.refl _ w).alloc (Nat.le_refl _) _; have hP := h.below hb1 h.lt; have hr1 := hr.below hb1 (Nat.le_refl _); have hF := fun a e => bfail_any g v 0 0 a e _ hP; have hS1 : Save g w (w.alloc (.cells (lineC (.slice ra row.length rc) stop last) 86)) := Save.of hb1; have HS := Lib.hid hS1; clear hb1 hS1 h hr; unfold lackR LackP; simp only [lineV]
 by_cases hi : i < row.length
 ·obtain ⟨b, off, rfl, hlt, c0, c1, c2⟩ := hr1.get hi
  rw [List.getElem?_eq_getElem hi]; simp only [lnE]; generalize row[i] = t at *; clear hr1; go_enter Tryz.func132, Tryz.ntmps132; go_wp2_with fail; refine (hF _ _).mono ?_; rintro _ w2 ⟨rfl, hp2, rfl⟩; go_wp2; refine bodyPost_end (v := .tuple #[]) (by simp [results, Tryz.results132, go_sem]) rfl ?_
  exact ⟨rfl, (HS.out.set _ _).set _ _, hp2⟩
 ·rw [List.getElem?_eq_none (by omega)]
  simp only; clear hr1
  cases last with
  | true =>
   simp only [if_true, lnE]; go_enter Tryz.func132, Tryz.ntmps132; go_wp2_with fail; refine (hF _ _).mono ?_; rintro _ w2 ⟨rfl, hp2, rfl⟩; go_wp2; refine bodyPost_end (v := .tuple #[]) (by simp [results, Tryz.results132, go_sem]) rfl ?_
   exact ⟨rfl, (HS.out.set _ _).set _ _, hp2⟩
  | false =>
   simp only [Bool.false_eq_true, if_false, lnE]; go_enter Tryz.func132, Tryz.ntmps132; go_wp2_with fail; refine (hF _ _).mono ?_; rintro _ w2 ⟨rfl, hp2, rfl⟩; go_wp2; refine bodyPost_end (v := .tuple #[]) (by simp [results, Tryz.results132, go_sem]) rfl ?_
   exact ⟨rfl, (HS.out.set _ _).set _ _, hp2⟩
abbrev tokB (t : Tok) : Obj := .cells #[.int .i64 t.kind, .string t.text, .int .i64 t.pos] 63
theorem int_dec (a b : Int) : (a == b) = decide (a = b) := rfl
theorem lkCom_any (t : Tok) (w : World) : Calls Tryz.prog 32 #[tokV t] w fun e w' => e = .returned (.bool (comB t)) /\ w' = w.alloc (tokB t) := by
 obtain ⟨k, tx, p⟩ := t; have e6 := int_dec k 6; have e7 := int_dec k 7; unfold comB; simp only [tokV]; generalize decide (k = 6) = b6 at *; generalize decide (k = 7) = b7 at *; go_enter Tryz.func32, Tryz.ntmps32; cases b6 <;> cases b7
 all_goals
  go_wp2; go_ret; exact ⟨rfl, rfl⟩
theorem tdCom_any (t : Tok) (w : World) : Calls Tryz.prog 112 #[tokV t] w fun e w' => e = .returned (.bool (comB t)) /\ w' = w.alloc (tokB t) := by
 obtain ⟨k, tx, p⟩ := t; have e6 := int_dec k 6; have e7 := int_dec k 7; unfold comB; simp only [tokV]; generalize decide (k = 6) = b6 at *; generalize decide (k = 7) = b7 at *; go_enter Tryz.func112, Tryz.ntmps112; cases b6 <;> cases b7
 all_goals
  go_wp2; go_ret; exact ⟨rfl, rfl⟩
theorem tdSgn_any (t : Tok) (s : ByteArray) (w : World) : Calls Tryz.prog 69 #[tokV t, .string s] w fun e w' => e = .returned (.bool (isB t s)) /\ w' = w.alloc (tokB t) := by
 obtain ⟨k, tx, p⟩ := t; have ek := int_dec k 4; have et := text_dec tx s; unfold isB; simp only [tokV]; generalize decide (k = 4) = bk at *; generalize decide (tx = s) = bt at *; go_enter Tryz.func69, Tryz.ntmps69; cases bk <;> cases bt
 all_goals
  go_wp2; go_ret; exact ⟨rfl, rfl⟩
theorem worded_tok (t : Tok) (w : World) : Calls Tryz.prog 34 #[tokV t] w fun e w' => e = .returned (.bool (wordB t)) /\ w' = w.alloc (tokB t) := by
 obtain ⟨k, tx, p⟩ := t; have e1 := int_dec k 1; have e2 := int_dec k 2; have e3 := int_dec k 3; unfold wordB; simp only [tokV]; generalize decide (k = 1) = b1 at *; generalize decide (k = 2) = b2 at *; generalize decide (k = 3) = b3 at *; go_enter Tryz.func34, Tryz.ntmps34; cases b1 <;> cases b2 <;> cases b3
 all_goals
  go_wp2; go_ret; exact ⟨rfl, rfl⟩
theorem among_no {t : Tok} {L : Bs} (h : t.kind ≠ 4 \/ t.text.size ≠ 1) : amongB t L = false := by
 unfold amongB
 by_cases hk : t.kind = 4
 ·rcases h with h | h
  ·exact absurd hk h
  ·have : t.text.data.toList.length ≠ 1 := h
   split
   ·next c hc => rw [hc] at this; exact absurd rfl this
   ·rw [Bool.and_false]
 ·rw [decide_eq_false hk]; rfl
theorem among_c {k : Int} {c : UInt8} {p : Int} (L : Bs) (hk : k = 4) : amongB ⟨k, ⟨#[c]⟩, p⟩ L = L.contains c := by
 unfold amongB; rw [decide_eq_true hk]; rfl
theorem one_of {s : ByteArray} (h : s.size = 1) : ∃ c, s = ⟨#[c]⟩ := by
 obtain ⟨⟨l⟩⟩ := s
 match l, h with
 | [c], _ => exact ⟨c, rfl⟩
theorem take_has {L : Bs} {c : UInt8} {k : Nat} (hk : k < L.length) : (L.take (k + 1)).contains c = ((L.take k).contains c || (c == L[k])) := by
 rw [List.take_succ_eq_append_getElem hk, List.contains_append, List.contains_cons, List.contains_nil, Bool.or_false]
theorem among_tok (t : Tok) (all : ByteArray) (w : World) (hL : all.size <= 1000) : Calls Tryz.prog 33 #[tokV t, .string all] w fun e w' => e = .returned (.bool (amongB t all.data.toList)) /\ Below w.heap.size w w' := by
 by_cases hq : t.kind = 4 /\ t.text.size = 1
 ·obtain ⟨k, tx, p⟩ := t
  simp only at hq; obtain ⟨hk, h1⟩ := hq; obtain ⟨c, rfl⟩ := one_of h1; rw [among_c _ hk]; subst hk; clear h1; simp only [tokV]; have hln : all.data.toList.length = all.size := size_list2 all; have hs1 : (⟨#[c]⟩ : ByteArray).size = 1 := rfl; have hc0 : ((⟨#[c]⟩ : ByteArray)[0]'(by rw [hs1]; decide)).toNat = c.toNat := rfl
  go_enter Tryz.func33, Tryz.ntmps33; go_wp2_with fail; go_loopw [17] (fun i wr => ∃ k : Nat, k <= all.size /\ i = .int .i64 (k : Int) /\ Hid ((all.data.toList.take k).contains c = false) /\ ∃ n : Nat, wr = (w.alloc (.cells #[.int .i64 4, .string ⟨#[c]⟩, .int .i64 p] 63)).drewN n) (fun i _ => all.size - (intOf i).toNat)
  case atStart => exact ⟨0, Nat.zero_le _, rfl, Lib.hid rfl, 0, rfl⟩
  case round =>
   obtain ⟨k, hk, rfl, HA, n, rfl⟩ := hrel; have hb1 : ∀ m, Below w.heap.size w (((w.alloc (.cells #[.int .i64 4, .string ⟨#[c]⟩, .int .i64 p] 63)).drewN n).drewN m) := fun m => below_drewN (below_drewN ((Below.refl _ w).alloc (Nat.le_refl _) _) n) m; have HB := Lib.hid hb1; have hd1 : ((w.alloc (.cells #[.int .i64 4, .string ⟨#[c]⟩, .int .i64 p] 63)).drewN n).cell? ⟨w.heap.size, 1, none⟩ = some (.string ⟨#[c]⟩) := (Cells.new w #[.int .i64 4, .string ⟨#[c]⟩, .int .i64 p] 63).cell 1 _ rfl; clear hb1
   by_cases hkl : k < all.size
   ·have hT := take_has (L := all.data.toList) (c := c) (k := k) (by omega)
    have hg : (all[k]'hkl).toNat = (all.data.toList[k]'(by omega)).toNat := rfl
    generalize all.data.toList[k]'(by omega) = d at *
    by_cases hd : c = d
    ·subst hd
     have e : ((c.toNat : Int) == (c.toNat : Int)) = true := by simp
     have HC : Hid (all.data.toList.contains c = true) := Lib.hid (by
      rw [List.contains_eq_mem, decide_eq_true_eq]; have h2 : ((all.data.toList.take (k + 1)).contains c) = true := by rw [hT]; simp
      rw [List.contains_eq_mem, decide_eq_true_eq] at h2
      exact List.mem_of_mem_take h2)
     clear hT; go_wp2_with fail; go_quiet (fail)
     go_wp2_with fail; go_ret; rw [HC.out]; exact ⟨rfl, HB.out _⟩
    ·have e : ((d.toNat : Int) == (c.toNat : Int)) = false := by
      rw [beq_eq_false_iff_ne]; intro e; exact hd (UInt8.toNat_inj.1 (by omega))
     have HC : Hid ((all.data.toList.take (k + 1)).contains c = false) := Lib.hid (by rw [hT, HA.out]; simpa using hd)
     clear hT hd; go_wp2_with fail; go_quiet (fail)
     go_wp2_with fail; go_roundw
     case rel => exact ⟨k + 1, hkl, by go_num, HC, n + nq, rfl⟩
     case measure => simp [intOf]; omega
   ·obtain rfl : k = all.size := by omega
    rw [List.take_of_length_le (by omega)] at HA
    go_wp2_with fail; go_ret; rw [HA.out]; exact ⟨rfl, HB.out 0⟩
 ·rw [among_no (by by_cases h : t.kind = 4; (· exact .inr (fun h2 => hq ⟨h, h2⟩)); exact .inl h)]
  obtain ⟨k, tx, p⟩ := t; simp only at hq; simp only [tokV]; have hk := int_dec k 4
  by_cases h4 : k = 4
  ·subst h4
   have h1 : ((tx.size : Int) != 1) = true := by simp; omega
   go_enter Tryz.func33, Tryz.ntmps33; go_wp2; go_ret; exact ⟨rfl, (Below.refl _ w).alloc (Nat.le_refl _) _⟩
  ·have h1 : (k != 4) = true := by simpa using h4
   go_enter Tryz.func33, Tryz.ntmps33; go_wp2; go_ret; exact ⟨rfl, (Below.refl _ w).alloc (Nat.le_refl _) _⟩
theorem two_tok (w : World) (a b : Array Value) (T : TypeId) : Cells (((w.alloc (.cells a T)).alloc (.cells b T)).drew) w.heap.size a T /\ Cells (((w.alloc (.cells a T)).alloc (.cells b T)).drew) (w.heap.size + 1) b T /\ Below w.heap.size w (((w.alloc (.cells a T)).alloc (.cells b T)).drew) := by
 refine ⟨((Cells.new w a T).alloc _).drew, ?_, ((((Below.refl _ _).alloc (Nat.le_refl _) _).alloc (by simp) _)).drew⟩
 have h := Cells.new (w.alloc (.cells a T)) b T; simp only [World.size_alloc] at h; exact h.drew
theorem Stop.into {p : Prop} (h : Stop p) : p := h
theorem behB_zero (l : List Tok) : behB l 0 = false := rfl
theorem behB_succ {l : List Tok} {k : Nat} (h : k < l.length) : behB l (k + 1) = if comB l[k] then behB l k else decide (l[k].kind = 4) && !amongB l[k] [41, 93] := by
 unfold behB; rw [List.take_succ_eq_append_getElem h, List.reverse_append]; rfl
theorem below_more {w w1 w2 : World} (h : Below w.heap.size w w1) (h2 : Below w1.heap.size w1 w2) : Below w.heap.size w w2 := h.trans (h2.mono h.size)
theorem tokB_below (w : World) (t : Tok) : Below w.heap.size w (w.alloc (tokB t)) := (Below.refl _ w).alloc (Nat.le_refl _) _
theorem behind_any (w : World) (lv : Value) (l : List Tok) (h : ToksAt w lv l) (i : Nat) (hi : i <= l.length) (hl : l.length <= 1000000) :
  Calls Tryz.prog 35 #[lv, .int .i64 (i : Nat)] w fun e w' => e = .returned (.bool (behB l i)) /\ Below w.heap.size w w' := by
 obtain ⟨a, c, rfl, h1, h2, -⟩ := h.len; unfold maxLen at h2; have HT := Lib.hid h; clear h; go_enter Tryz.func35, Tryz.ntmps35; go_wp2_with fail; go_loopw [1] (fun v wr => ∃ k : Nat, k <= i /\ v = .int .i64 ((k : Int) - 1) /\ Hid (behB l k = behB l i) /\ Below w.heap.size w wr) (fun v _ => (intOf v + 1).toNat)
 case atStart => exact ⟨i, Nat.le_refl _, by go_num, Lib.hid rfl, Below.refl _ _⟩
 case round =>
  obtain ⟨k, hk, rfl, HA, hb⟩ := hrel; have HB := Lib.hid hb
  cases k with
  | zero =>
   clear hb; go_wp2_with fail; go_ret; rw [<- HA.out, behB_zero]; exact ⟨rfl, HB.out⟩
  | succ k =>
   have hkl : k < l.length := by omega
   obtain ⟨b, off, rfl, hlt, q0, q1, q2⟩ := ToksAt.get (HT.out.below hb (Nat.le_refl _)) hkl; have hS := behB_succ hkl; have hk1 : IntKind.i64.wrap ((k : Int) - 1) = (k : Int) - 1 := IntWalk.i64_in _ (by omega)
   have hk2 : ((k + 1 : Nat) : Int) - 1 = (k : Int) := by omega
   rw [hk2]; generalize l[k] = t at *; have hC := lkCom_any t wr; have hM := fun W => among_tok t ⟨#[41, 93]⟩ W (by decide)
   have hkd := int_dec t.kind 4; obtain ⟨kd, tx, ps⟩ := t; simp only [tokV] at hC hM q0 q1 q2 hkd; change ∀ W, Calls Tryz.prog 33 _ W (fun e w' => e = .returned (.bool (amongB ⟨kd, tx, ps⟩ [41, 93])) /\ Below W.heap.size W w') at hM; simp only at hS; generalize comB ⟨kd, tx, ps⟩ = cb at *; generalize amongB ⟨kd, tx, ps⟩ [41, 93] = ab at *; generalize decide (kd = 4) = db at *; have HS := Lib.hid hS; clear hS hb hk2
   cases cb with
   | true =>
    go_wp2_with fail; refine hC.mono ?_; rintro _ _ ⟨rfl, rfl⟩; clear hC hM; go_wp2_with fail; go_roundw
    case rel => exact ⟨k, by omega, rfl, Lib.hid (by rw [<- HA.out, HS.out]; try rfl), HB.out.alloc HB.out.size _⟩
    case measure => simp [intOf] <;> omega
   | false =>
    go_wp2_with fail; refine hC.mono ?_; rintro _ _ ⟨rfl, rfl⟩; clear hC
    cases db with
    | false =>
     go_wp2_with fail; go_ret; rw [<- HA.out, HS.out]; exact ⟨rfl, HB.out.alloc HB.out.size _⟩
    | true =>
     go_wp2_with fail; refine (hM _).mono ?_; rintro _ w4 ⟨rfl, hb4⟩; have HB4 := Lib.hid (below_more (HB.out.alloc HB.out.size _) hb4); clear hM hb4; cases ab
     all_goals
      go_wp2_with fail; go_ret; rw [<- HA.out, HS.out]; exact ⟨rfl, HB4.out⟩
def Bx2 (w : World) (g h : Nat) (ka : Int) (ta : ByteArray) (pa kb : Int) (tb : ByteArray) (pb : Int) : Prop := ∀ W, Below w.heap.size w W -> W.cell? ⟨g, 0, none⟩ = some (.int .i64 ka) /\ W.cell? ⟨g, 1, none⟩ = some (.string ta) /\ W.cell? ⟨g, 2, none⟩ = some (.int .i64 pa) /\
 W.cell? ⟨h, 0, none⟩ = some (.int .i64 kb) /\ W.cell? ⟨h, 1, none⟩ = some (.string tb) /\ W.cell? ⟨h, 2, none⟩ = some (.int .i64 pb) /\ g < W.heap.size /\ h < W.heap.size
theorem Bx2.of {w : World} {g h : Nat} {ka : Int} {ta : ByteArray} {pa kb : Int} {tb : ByteArray} {pb : Int} (hA : Cells w g #[.int .i64 ka, .string ta, .int .i64 pa] 63) (hB : Cells w h #[.int .i64 kb, .string tb, .int .i64 pb] 63) : Bx2 w g h ka ta pa kb tb pb := fun W hW => by
 have h1 := hA.below hW hA.lt; have h2 := hB.below hW hB.lt; exact ⟨h1.cell 0 _ rfl, h1.cell 1 _ rfl, h1.cell 2 _ rfl, h2.cell 0 _ rfl, h2.cell 1 _ rfl, h2.cell 2 _ rfl, h1.lt, h2.lt⟩
abbrev CallB (f : FuncId) (args : Array Value) (w : World) (v : Value) : Prop := ∀ W, Below w.heap.size w W -> Calls Tryz.prog f args W fun e w' => e = .returned v /\ Below w.heap.size w w'
theorem CallB.of {f : FuncId} {args : Array Value} {w : World} {v : Value} (h : ∀ W, Below w.heap.size w W -> Calls Tryz.prog f args W fun e w' => e = .returned v /\ Below W.heap.size W w') : CallB f args w v := fun W hW => (h W hW).mono fun e w' ⟨he, hb⟩ => ⟨he, below_more hW hb⟩
theorem CallB.tok {f : FuncId} {args : Array Value} {w : World} {v : Value} {t : Tok} (h : ∀ W, Calls Tryz.prog f args W fun e w' => e = .returned v /\ w' = W.alloc (tokB t)) : CallB f args w v := .of fun W _ => (h W).mono fun e w' ⟨he, hb⟩ => ⟨he, by rw [hb]; exact tokB_below _ _⟩
theorem gapN_out {l : List Tok} {i : Nat} (h : l.length <= i) : gapN l i = 0 := by
 cases i with
 | zero => rfl
 | succ i =>
  rw [gapN, List.getElem?_eq_none h]; cases l[i]? <;> rfl
theorem gapN_in {l : List Tok} {i : Nat} (h : i + 1 < l.length) : gapN l (i + 1) = gapT (l[i]'(by omega)) l[i + 1] (behB l i) := by
 rw [gapN, List.getElem?_eq_getElem h, List.getElem?_eq_getElem (by omega)]
theorem lkGap_any (w : World) (lv : Value) (l : List Tok) (h : ToksAt w lv l) (hl : l.length <= 1000000) (z : Int) (hz : (Lit.int .i64 z).wf = true) :
  Calls Tryz.prog 10 #[lv, .int .i64 z] w fun e w' => e = .returned (.int .i64 (gapN l z.toNat : Nat)) /\ Below w.heap.size w w' := by
 obtain ⟨a, c, rfl, h1, h2, -⟩ := h.len; unfold maxLen at h2
 by_cases hz0 : z <= 0
 ·rw [show z.toNat = 0 by omega]
  clear hz; go_enter Tryz.func10, Tryz.ntmps10; go_wp2_with fail; go_ret; exact ⟨rfl, Below.refl _ _⟩
 ·by_cases hz1 : (l.length : Int) <= z
  ·rw [gapN_out (by omega)]
   clear hz; go_enter Tryz.func10, Tryz.ntmps10; go_wp2_with fail; go_ret; exact ⟨rfl, Below.refl _ _⟩
  ·obtain ⟨i, rfl⟩ : ∃ i : Nat, z = i + 1 := ⟨(z - 1).toNat, by omega⟩
   have hi : i + 1 < l.length := by omega
   rw [show ((i : Int) + 1).toNat = i + 1 by omega, gapN_in hi]
   clear hz; obtain ⟨b, off, rfl, hlt, q0, q1, q2⟩ := h.get (j := i) (by omega)
   obtain ⟨b', off', e', -, r0, r1, r2⟩ := h.get hi; cases e'
   have hBh := fun W hW => behind_any W _ l (h.below hW (Nat.le_refl _)) i (by omega) hl
   have kq : IntKind.i64.wrap ((i : Int) + 1 - 1) = (i : Int) := by rw [IntWalk.i64_in _ (by omega)]; omega
   generalize behB l i = m at *; generalize l[i] = xa at *; generalize l[i + 1] = xb at *; obtain ⟨ka, ta, pa⟩ := xa; obtain ⟨kb, tb, pb⟩ := xb; simp only at q0 q1 q2 r0 r1 r2; clear h; obtain ⟨G, hG⟩ : ∃ G, G = gapT ⟨ka, ta, pa⟩ ⟨kb, tb, pb⟩ m := ⟨_, rfl⟩; rw [<- hG]; go_enter Tryz.func10, Tryz.ntmps10; go_upto_region 3 with fail
   go_cut [5, 6] (fun x y wc => ∃ p5 p6 : Nat, x = .pointer (some ⟨p5, 0, none⟩) /\ y = .pointer (some ⟨p6, 0, none⟩) /\
    Cells wc p5 #[.int .i64 ka, .string ta, .int .i64 pa] 63 /\ Cells wc p6 #[.int .i64 kb, .string tb, .int .i64 pb] 63 /\ Below w.heap.size w wc)
   case first =>
    go_region
    all_goals go_wp2_with fail
    all_goals go_meet
    all_goals
     first
      | exact ⟨_, _, rfl, rfl, (two_tok _ _ _ _).1, (two_tok _ _ _ _).2.1, (two_tok _ _ _ _).2.2⟩
      | exact ⟨_, _, rfl, rfl, (two_tok _ _ _ _).2.1, (two_tok _ _ _ _).1, (two_tok _ _ _ _).2.2⟩
   case rest =>
    obtain ⟨p5, p6, rfl, rfl, hA, hB, hbc⟩ := hcut; have HX := Lib.hid (Bx2.of hA hB); have HBC := Lib.hid hbc; have hC1 : CallB 32 _ wc _ := .tok (lkCom_any ⟨ka, ta, pa⟩); have hC2 : CallB 32 _ wc _ := .tok (lkCom_any ⟨kb, tb, pb⟩); have hM1 : CallB 33 _ wc _ := .of fun W _ => among_tok ⟨ka, ta, pa⟩ ⟨#[40, 91, 46]⟩ W (by decide)
    have hM2 : CallB 33 _ wc _ := .of fun W _ => among_tok ⟨kb, tb, pb⟩ ⟨#[41, 93, 44, 46]⟩ W (by decide)
    have hM3 : CallB 33 _ wc _ := .of fun W _ => among_tok ⟨kb, tb, pb⟩ ⟨#[40]⟩ W (by decide)
    have hM4 : CallB 33 _ wc _ := .of fun W _ => among_tok ⟨kb, tb, pb⟩ ⟨#[91]⟩ W (by decide)
    have hM5 : CallB 33 _ wc _ := .of fun W _ => among_tok ⟨ka, ta, pa⟩ ⟨#[41, 93]⟩ W (by decide)
    have hM6 : CallB 33 _ wc _ := .of fun W _ => among_tok ⟨ka, ta, pa⟩ ⟨#[33]⟩ W (by decide)
    have hM7 : CallB 33 _ wc _ := .of fun W _ => among_tok ⟨ka, ta, pa⟩ ⟨#[45]⟩ W (by decide)
    have hM8 : CallB 33 _ wc _ := .of fun W _ => among_tok ⟨ka, ta, pa⟩ ⟨#[123]⟩ W (by decide)
    have hM9 : CallB 33 _ wc _ := .of fun W _ => among_tok ⟨kb, tb, pb⟩ ⟨#[125]⟩ W (by decide)
    have hW1 : CallB 34 _ wc _ := .tok (worded_tok ⟨ka, ta, pa⟩); have hB1 : CallB 35 _ wc _ := .of fun W hW => hBh W (hbc.trans (hW.mono hbc.size)); have hK := int_dec ka 1; simp only [tokV] at hC1 hC2 hM1 hM2 hM3 hM4 hM5 hM6 hM7 hM8 hM9 hW1; unfold gapT at hG; simp only at hG; have HG := Lib.hid hG; clear hG; obtain ⟨c0, c1, c2, d0, d1, d2, l1, l2⟩ := HX.out wc (Below.refl _ _); have hb := Below.refl wc.heap.size wc; clear q0 q1 q2 r0 r1 r2 hi hlt hl; change ∀ W, _ -> Calls _ _ _ _ (fun e w' => e = .returned (.bool (amongB ⟨ka, ta, pa⟩ [40, 91, 46])) /\ _) at hM1; change ∀ W, _ -> Calls _ _ _ _ (fun e w' => e = .returned (.bool (amongB ⟨kb, tb, pb⟩ [41, 93, 44, 46])) /\ _) at hM2; change ∀ W, _ -> Calls _ _ _ _ (fun e w' => e = .returned (.bool (amongB ⟨kb, tb, pb⟩ [40])) /\ _) at hM3; change ∀ W, _ -> Calls _ _ _ _ (fun e w' => e = .returned (.bool (amongB ⟨kb, tb, pb⟩ [91])) /\ _) at hM4; change ∀ W, _ -> Calls _ _ _ _ (fun e w' => e = .returned (.bool (amongB ⟨ka, ta, pa⟩ [41, 93])) /\ _) at hM5; change ∀ W, _ -> Calls _ _ _ _ (fun e w' => e = .returned (.bool (amongB ⟨ka, ta, pa⟩ [33])) /\ _) at hM6; change ∀ W, _ -> Calls _ _ _ _ (fun e w' => e = .returned (.bool (amongB ⟨ka, ta, pa⟩ [45])) /\ _) at hM7; change ∀ W, _ -> Calls _ _ _ _ (fun e w' => e = .returned (.bool (amongB ⟨ka, ta, pa⟩ [123])) /\ _) at hM8; change ∀ W, _ -> Calls _ _ _ _ (fun e w' => e = .returned (.bool (amongB ⟨kb, tb, pb⟩ [125])) /\ _) at hM9; generalize comB ⟨ka, ta, pa⟩ = xc1 at *; generalize comB ⟨kb, tb, pb⟩ = xc2 at *
    generalize amongB ⟨ka, ta, pa⟩ [40, 91, 46] = x1 at *; generalize amongB ⟨kb, tb, pb⟩ [41, 93, 44, 46] = x2 at *; generalize amongB ⟨kb, tb, pb⟩ [40] = x3 at *; generalize amongB ⟨kb, tb, pb⟩ [91] = x4 at *; generalize amongB ⟨ka, ta, pa⟩ [41, 93] = x5 at *; generalize amongB ⟨ka, ta, pa⟩ [33] = x6 at *; generalize amongB ⟨ka, ta, pa⟩ [45] = x7 at *; generalize amongB ⟨ka, ta, pa⟩ [123] = x8 at *; generalize amongB ⟨kb, tb, pb⟩ [125] = x9 at *; generalize wordB ⟨ka, ta, pa⟩ = xw at *; generalize decide (ka = 1) = xk at *; clear hA hB; clear hBh hbc
    focus (go_wp2_with (go_at_call 32; (with_reducible refine (hC1 _ hb).mono ?_); clear c0 c1 c2 d0 d1 d2 l1 l2; rintro _ W ⟨rfl, hb⟩; obtain ⟨c0, c1, c2, d0, d1, d2, l1, l2⟩ := HX.out W hb; refine Stop.into ?_); refine Stop.out ?_)
    cases xc1
    rotate_left
    ·(go_wp2_with fail; go_ret; exact ⟨by rw [HG.out]; rfl, HBC.out.trans (hb.mono HBC.out.size)⟩)
    focus (go_wp2_with (go_at_call 32; (with_reducible refine (hC2 _ hb).mono ?_); clear c0 c1 c2 d0 d1 d2 l1 l2; rintro _ W ⟨rfl, hb⟩; obtain ⟨c0, c1, c2, d0, d1, d2, l1, l2⟩ := HX.out W hb; refine Stop.into ?_); refine Stop.out ?_)
    cases xc2
    rotate_left
    ·(go_wp2_with fail; go_ret; exact ⟨by rw [HG.out]; rfl, HBC.out.trans (hb.mono HBC.out.size)⟩)
    focus (go_wp2_with (go_at_call 33; (with_reducible refine (hM1 _ hb).mono ?_); clear c0 c1 c2 d0 d1 d2 l1 l2; rintro _ W ⟨rfl, hb⟩; obtain ⟨c0, c1, c2, d0, d1, d2, l1, l2⟩ := HX.out W hb; refine Stop.into ?_); refine Stop.out ?_)
    cases x1
    rotate_left
    ·(go_wp2_with fail; go_ret; exact ⟨by rw [HG.out]; rfl, HBC.out.trans (hb.mono HBC.out.size)⟩)
    focus (go_wp2_with (go_at_call 33; (with_reducible refine (hM2 _ hb).mono ?_); clear c0 c1 c2 d0 d1 d2 l1 l2; rintro _ W ⟨rfl, hb⟩; obtain ⟨c0, c1, c2, d0, d1, d2, l1, l2⟩ := HX.out W hb; refine Stop.into ?_); refine Stop.out ?_)
    cases x2
    rotate_left
    ·(go_wp2_with fail; go_ret; exact ⟨by rw [HG.out]; rfl, HBC.out.trans (hb.mono HBC.out.size)⟩)
    focus (go_wp2_with (go_at_call 33; (with_reducible refine (hM3 _ hb).mono ?_); clear c0 c1 c2 d0 d1 d2 l1 l2; rintro _ W ⟨rfl, hb⟩; obtain ⟨c0, c1, c2, d0, d1, d2, l1, l2⟩ := HX.out W hb; refine Stop.into ?_); refine Stop.out ?_)
    cases x3
    rotate_left
    cases xk
    rotate_left
    ·(go_wp2_with fail; go_ret; exact ⟨by rw [HG.out]; rfl, HBC.out.trans (hb.mono HBC.out.size)⟩)
    all_goals
     focus (go_wp2_with (go_at_call 33; (with_reducible refine (hM4 _ hb).mono ?_); clear c0 c1 c2 d0 d1 d2 l1 l2; rintro _ W ⟨rfl, hb⟩; obtain ⟨c0, c1, c2, d0, d1, d2, l1, l2⟩ := HX.out W hb; refine Stop.into ?_); refine Stop.out ?_)
     cases x4
     rotate_left
     focus (go_wp2_with (go_at_call 34; (with_reducible refine (hW1 _ hb).mono ?_); clear c0 c1 c2 d0 d1 d2 l1 l2; rintro _ W ⟨rfl, hb⟩; obtain ⟨c0, c1, c2, d0, d1, d2, l1, l2⟩ := HX.out W hb; refine Stop.into ?_); refine Stop.out ?_)
     cases xw
     rotate_left
     ·(go_wp2_with fail; go_ret; exact ⟨by rw [HG.out]; rfl, HBC.out.trans (hb.mono HBC.out.size)⟩)
     rotate_left
     focus (go_wp2_with (go_at_call 33; (with_reducible refine (hM5 _ hb).mono ?_); clear c0 c1 c2 d0 d1 d2 l1 l2; rintro _ W ⟨rfl, hb⟩; obtain ⟨c0, c1, c2, d0, d1, d2, l1, l2⟩ := HX.out W hb; refine Stop.into ?_); refine Stop.out ?_)
     cases x5
     rotate_left
     ·(go_wp2_with fail; go_ret; exact ⟨by rw [HG.out]; rfl, HBC.out.trans (hb.mono HBC.out.size)⟩)
     all_goals
      focus (go_wp2_with (go_at_call 33; (with_reducible refine (hM6 _ hb).mono ?_); clear c0 c1 c2 d0 d1 d2 l1 l2; rintro _ W ⟨rfl, hb⟩; obtain ⟨c0, c1, c2, d0, d1, d2, l1, l2⟩ := HX.out W hb; refine Stop.into ?_); refine Stop.out ?_)
      cases x6
      rotate_left
      ·(go_wp2_with fail; go_ret; exact ⟨by rw [HG.out]; rfl, HBC.out.trans (hb.mono HBC.out.size)⟩)
      focus (go_wp2_with (go_at_call 33; (with_reducible refine (hM7 _ hb).mono ?_); clear c0 c1 c2 d0 d1 d2 l1 l2; rintro _ W ⟨rfl, hb⟩; obtain ⟨c0, c1, c2, d0, d1, d2, l1, l2⟩ := HX.out W hb; refine Stop.into ?_); refine Stop.out ?_)
      cases x7
      rotate_left
      focus (go_wp2_with (go_at_call 35; (with_reducible refine (hB1 _ hb).mono ?_); clear c0 c1 c2 d0 d1 d2 l1 l2; rintro _ W ⟨rfl, hb⟩; obtain ⟨c0, c1, c2, d0, d1, d2, l1, l2⟩ := HX.out W hb; refine Stop.into ?_); refine Stop.out ?_)
      cases m
      rotate_left
      ·(go_wp2_with fail; go_ret; exact ⟨by rw [HG.out]; rfl, HBC.out.trans (hb.mono HBC.out.size)⟩)
      all_goals
       focus (go_wp2_with (go_at_call 33; (with_reducible refine (hM8 _ hb).mono ?_); clear c0 c1 c2 d0 d1 d2 l1 l2; rintro _ W ⟨rfl, hb⟩; obtain ⟨c0, c1, c2, d0, d1, d2, l1, l2⟩ := HX.out W hb; refine Stop.into ?_); refine Stop.out ?_)
       cases x8
       rotate_left
       focus (go_wp2_with (go_at_call 33; (with_reducible refine (hM9 _ hb).mono ?_); clear c0 c1 c2 d0 d1 d2 l1 l2; rintro _ W ⟨rfl, hb⟩; obtain ⟨c0, c1, c2, d0, d1, d2, l1, l2⟩ := HX.out W hb; refine Stop.into ?_); refine Stop.out ?_)
       cases x9
       all_goals (go_wp2_with fail; go_ret; exact ⟨by rw [HG.out]; rfl, HBC.out.trans (hb.mono HBC.out.size)⟩)
end Go.Proofs.YtbcdaaobbebooaaGreatDoor
namespace Go.Proofs.YtbcdaaobbebooaaGreatDoor
set_option maxRecDepth 100000
set_option maxHeartbeats 20000000
theorem unitF_more : ∀ (k n : Nat) (l m : List Nat), (unitF k n l).2 = 0 -> unitF k n (l.take k ++ m) = unitF k n l
 | 0, _, _, _, _ => by simp [unitF]
 | _ + 1, _, [], _, h => by simp [unitF] at h
 | k + 1, n, c :: r, m, h => by
  simp only [unitF, List.take_succ_cons, List.cons_append] at h ⊢
  cases hc : hexV c with
  | none => simp [hc] at h
  | some d =>
   rw [hc] at h; simp only at h ⊢; exact unitF_more k _ r m h
theorem unitQ_more {l : List Nat} (h : (unitQ l).2 = 0) (m : List Nat) : unitQ (l.take 4 ++ m) = unitQ l := unitF_more 4 0 l m h
theorem lowQ_more {n : Nat} {l : List Nat} (h : (lowQ n l).2.2 = 0) (m : List Nat) : lowQ n (l.take 6 ++ m) = lowQ n l := by
 match l with
 | [] => simp [lowQ, errR] at h
 | [c] => by_cases hc : c = 92 <;> simp [lowQ, errR, hc] at h
 | c :: d :: u =>
  by_cases hc : c = 92
  ·by_cases hd : d = 117
   ·have h1 : (unitQ u).2 = 0 := by
     unfold lowQ at h; simp only at h; rw [if_neg (by simp [hc]), if_neg (by simp [hd])] at h
     by_cases hu : (unitQ u).2 = 0
     ·exact hu
     ·rw [if_pos (by simpa using hu)] at h; exact absurd h hu
    have h2 := unitQ_more h1 m; subst hc; subst hd; simp only [List.take_succ_cons, List.cons_append, lowQ, h2]
   ·unfold lowQ at h; simp only at h; rw [if_neg (by simp [hc]), if_pos (by simpa using hd)] at h; simp [errR] at h
  ·unfold lowQ at h; simp only at h; rw [if_pos (by simpa using hc)] at h; simp [errR] at h
theorem codedQ_more {r : List Nat} (h : (codedQ r).2.2 = 0) (m : List Nat) : codedQ (r.take ((codedQ r).2.1 - 2) ++ m) = codedQ r := by
 have hsz := codedQ_ok h
 have hu : (unitQ r).2 = 0 := by
  unfold codedQ at h
  by_cases hu : (unitQ r).2 = 0
  ·exact hu
  ·rw [if_pos (by simpa using hu)] at h; exact absurd h hu
 have hv := unitQ_val hu; unfold codedQ at h ⊢; rw [if_neg (by simp [hu])] at h
 by_cases h1 : 56320 <= (unitQ r).1 /\ (unitQ r).1 <= 57343
 ·rw [if_pos h1] at h; simp [errR] at h
 rw [if_neg h1] at h
 by_cases h2 : (unitQ r).1 < 55296 \/ 57343 < (unitQ r).1
 ·have hq : unitQ (r.take 4 ++ m) = unitQ r := unitQ_more hu m
  simp only [if_neg (show ¬ (unitQ r).2 ≠ 0 by simp [hu]), if_neg h1, if_pos h2]
  simp only [show 6 - 2 = 4 from rfl, hq]; simp only [if_neg (show ¬ (unitQ r).2 ≠ 0 by simp [hu]), if_neg h1, if_pos h2]
 ·rw [if_neg h2] at h
  obtain ⟨_, _, _, h12, h6⟩ := lowQ_ok (by omega) h
  have hl : 10 <= r.length := by simp at h6; omega
  have hq : unitQ (r.take 10 ++ m) = unitQ r := by
   have := unitQ_more hu ((r.take 10).drop 4 ++ m); rw [<- this]
   congr 1
   rw [<- List.append_assoc]
   congr 1
   conv => lhs; rw [<- List.take_append_drop 4 (r.take 10)]
   rw [List.take_take]; rfl
  have hd : (r.take 10 ++ m).drop 4 = (r.drop 4).take 6 ++ m := by
   rw [List.drop_append_of_le_length (by simp; omega), List.drop_take]
  simp only [if_neg (show ¬ (unitQ r).2 ≠ 0 by simp [hu]), if_neg h1, if_neg h2, h12]
  simp only [show 12 - 2 = 10 from rfl, hq]; simp only [if_neg (show ¬ (unitQ r).2 ≠ 0 by simp [hu]), if_neg h1, if_neg h2, hd]
  exact lowQ_more h m
theorem partQ_cons (c : Nat) (r : List Nat) : partQ (c :: r) = if c < 32 then errR 3 else if c = 92 then escQ r else if (oneN (c :: r)).2 = 0 then errR 7 else ((c :: r).take (oneN (c :: r)).2, (oneN (c :: r)).2, 0) := rfl
theorem partQ_more {l : List Nat} (hl : Byt l) (h : (partQ l).2.2 = 0) (m : List Nat) : partQ (l.take (partQ l).2.1 ++ m) = partQ l := by
 have hok := partQ_ok hl h
 match l with
 | [] => simp [partQ, errR] at h
 | c :: r =>
  simp only [partQ] at h hok ⊢
  by_cases h1 : c < 32
  ·rw [if_pos h1] at h; simp [errR] at h
  rw [if_neg h1] at h hok ⊢
  by_cases h2 : c = 92
  ·rw [if_pos h2] at h hok ⊢
   match r with
   | [] => simp [escQ, errR] at h
   | d :: t =>
    simp only [escQ] at h hok ⊢
    cases hd : escB d with
    | some b =>
     rw [hd] at h hok; simp only [List.take_succ_cons, List.cons_append, List.take_zero]; rw [if_neg h1, if_pos h2]; simp only [hd]
    | none =>
     rw [hd] at h hok; simp only at h hok ⊢
     by_cases h3 : d = 117
     ·rw [if_pos h3] at h hok ⊢
      have hm := codedQ_more h m
      obtain ⟨k, hk⟩ : ∃ k, (codedQ t).2.1 = k + 2 := by
       have : (codedQ t).2.1 = 6 \/ (codedQ t).2.1 = 12 := by
        unfold codedQ at h ⊢
        by_cases hu : (unitQ t).2 = 0
        ·rw [if_neg (by simp [hu])] at h ⊢
         by_cases g1 : 56320 <= (unitQ t).1 /\ (unitQ t).1 <= 57343
         ·rw [if_pos g1] at h; simp [errR] at h
         ·rw [if_neg g1] at h ⊢
          by_cases g2 : (unitQ t).1 < 55296 \/ 57343 < (unitQ t).1
          ·rw [if_pos g2]; exact .inl rfl
          ·rw [if_neg g2] at h ⊢
           exact .inr (lowQ_ok (by omega) h).choose_spec.2.2.1
        ·rw [if_pos (by simpa using hu)] at h; exact absurd h hu
       rcases this with h | h
       ·exact ⟨4, h⟩
       ·exact ⟨10, h⟩
      rw [hk] at hm; simp only [Nat.add_sub_cancel] at hm; rw [hk]; simp only [List.take_succ_cons, List.cons_append]; rw [if_neg h1, if_pos h2]; simp only [hd]; rw [if_pos h3, hm]
     ·rw [if_neg h3] at h; simp [errR] at h
  ·rw [if_neg h2] at h hok ⊢
   by_cases h3 : (oneN (c :: r)).2 = 0
   ·rw [if_pos h3] at h; simp [errR] at h
   ·rw [if_neg h3] at hok ⊢
    obtain ⟨q1, q2, q3, q4⟩ := put_oneN (c := (oneN (c :: r)).1) (n := (oneN (c :: r)).2) hl rfl h3
    have hn : oneN ((c :: r).take (oneN (c :: r)).2 ++ m) = oneN (c :: r) := by
     have h5 := oneN_put q1 m; rw [show putN (oneN (c :: r)).1 = (c :: r).take (oneN (c :: r)).2 from q3, q2] at h5; exact h5
    simp only; obtain ⟨j, hj⟩ : ∃ j, (oneN (c :: r)).2 = j + 1 := ⟨(oneN (c :: r)).2 - 1, by omega⟩
    have hc : (c :: r).take (oneN (c :: r)).2 ++ m = c :: (r.take j ++ m) := by rw [hj]; simp
    rw [hc] at hn ⊢; simp only; rw [if_neg h1, if_neg h2, hn, if_neg h3]
    congr 1
    rw [<- hc]; rw [List.take_append_of_le_length (by rw [List.length_take]; omega), List.take_take, Nat.min_self]
theorem bodyQ_more : ∀ (k : Nat) (l m : List Nat), l.length <= k -> Byt l -> Byt m -> (bodyQ l).2.2 = 0 -> bodyQ (l.take (bodyQ l).2.1 ++ m) = bodyQ l
 | k, l, m, hk, hl, hm, h => by
  have hb : ∀ j, Byt (l.take j ++ m) := fun j x hx => by
   rcases List.mem_append.1 hx with hx | hx
   ·exact hl x (List.mem_of_mem_take hx)
   ·exact hm x hx
  by_cases h34 : l.head? = some 34
  ·have e : bodyQ l = ([], 1, 0) := by rw [bodyQ_step hl, if_pos h34]
   rw [e]; simp only
   cases l with
   | nil => cases h34
   | cons c r =>
    have hc : c = 34 := by simpa using h34
    subst hc; rw [bodyQ_step (hb 1), if_pos (by simp)]
  ·have hp : (partQ l).2.2 = 0 := by
    refine Decidable.byContradiction fun hn => ?_; rw [bodyQ_step hl, if_neg h34, if_pos hn] at h; exact hn h
   obtain ⟨_, _, _, q3, q4⟩ := partQ_ok hl hp
   have hr : (bodyQ (l.drop (partQ l).2.1)).2.2 = 0 := by
    refine Decidable.byContradiction fun hn => ?_; rw [bodyQ_step hl, if_neg h34, if_neg (by simp [hp]), if_pos hn] at h
    exact hn h
   have e : bodyQ l = ((partQ l).1 ++ (bodyQ (l.drop (partQ l).2.1)).1, (partQ l).2.1 + (bodyQ (l.drop (partQ l).2.1)).2.1, 0) := by
    rw [bodyQ_step hl, if_neg h34, if_neg (by simp [hp]), if_neg (by simp [hr])]
   cases k with
   | zero => omega
   | succ k =>
    have ih := bodyQ_more k (l.drop (partQ l).2.1) m (by simp; omega) (hl.drop _) hm hr
    rw [e]; simp only
    have hsp : l.take ((partQ l).2.1 + (bodyQ (l.drop (partQ l).2.1)).2.1) ++ m = l.take (partQ l).2.1 ++ ((l.drop (partQ l).2.1).take (bodyQ (l.drop (partQ l).2.1)).2.1 ++ m) := by
     rw [List.take_add, List.append_assoc]
    have hpm := partQ_more hl hp ((l.drop (partQ l).2.1).take (bodyQ (l.drop (partQ l).2.1)).2.1 ++ m); rw [hsp]; have hbb := hb ((partQ l).2.1 + (bodyQ (l.drop (partQ l).2.1)).2.1); rw [hsp] at hbb
    have hh : (l.take (partQ l).2.1 ++ ((l.drop (partQ l).2.1).take (bodyQ (l.drop (partQ l).2.1)).2.1 ++ m)).head? ≠ some 34 := by
     cases l with
     | nil => simp at q4; omega
     | cons c r =>
      obtain ⟨j, hj⟩ : ∃ j, (partQ (c :: r)).2.1 = j + 1 := ⟨(partQ (c :: r)).2.1 - 1, by omega⟩
      rw [hj]
      simpa using h34
    rw [bodyQ_step hbb, if_neg hh, hpm, if_neg (by simp [hp])]
    have hd : (l.take (partQ l).2.1 ++ ((l.drop (partQ l).2.1).take (bodyQ (l.drop (partQ l).2.1)).2.1 ++ m)).drop (partQ l).2.1 = (l.drop (partQ l).2.1).take (bodyQ (l.drop (partQ l).2.1)).2.1 ++ m := by
     rw [List.drop_append_of_le_length (by rw [List.length_take]; omega), List.drop_eq_nil_of_le (by rw [List.length_take]; omega), List.nil_append]
    rw [hd, ih, if_neg (by simp [hr])]
theorem scanQ_more {l m : List Nat} (hl : Byt l) (hm : Byt m) (h : (scanQ l).2.2 = 0) : scanQ (l.take (scanQ l).2.1 ++ m) = scanQ l := by
 cases l with
 | nil => simp [scanQ, errR] at h
 | cons c r =>
  have hc : c = 34 := by
   refine Decidable.byContradiction fun hn => ?_; rw [scanQ, if_pos hn] at h; simp [errR] at h
  have e : scanQ (c :: r) = joinR [] 1 (bodyQ r) := by rw [scanQ, if_neg (by simpa using hc)]
  have hb : (bodyQ r).2.2 = 0 := by
   refine Decidable.byContradiction fun hn => ?_; rw [e, joinR, if_pos hn] at h; exact hn h
  have ih := bodyQ_more r.length r m (Nat.le_refl _) (fun x hx => hl x (by simp [hx])) hm hb
  rw [e, joinR, if_neg (by simp [hb])]
  simp only; rw [Nat.add_comm 1, List.take_succ_cons, List.cons_append, scanQ, if_neg (by simpa using hc), ih, joinR, if_neg (by simp [hb])]
  simp [Nat.add_comm]
theorem quoX_tok {l : Bs} {k n : Nat} (h : one1 l = .tok k n) (hk : k = 3) : quoX (strL (l.take n)) ≠ none := by
 subst hk
 cases l with
 | nil => cases h
 | cons c r =>
  rw [one1] at h; split at h
  ·simp only [LR.tok.injEq] at h; omega
  split at h
  ·unfold num1 at h
   split at h
   ·simp only [LR.tok.injEq] at h; omega
   ·cases h
  split at h
  ·unfold quo1 at h
   split at h
   ·next hz =>
    simp only [LR.tok.injEq, true_and] at h; subst h; have hsz := scanQ_size (nb_byt (c :: r)) hz; have hm := scanQ_more (m := []) (nb_byt (c :: r)) (fun x hx => by cases hx) hz
    rw [List.append_nil] at hm; have hnb : nb ((c :: r).take (scanQ (nb (c :: r))).2.1) = (nb (c :: r)).take (scanQ (nb (c :: r))).2.1 := by unfold nb; rw [List.map_take]
    unfold quoX; rw [strL_list, hnb, hm, if_pos]
    ·simp
    ·refine ⟨hz, ?_⟩
     rw [size_list, strL_list, List.length_take]; rw [nb_len] at hsz; omega
   ·cases h
  split at h
  ·simp only [LR.tok.injEq] at h; omega
  split at h
  ·unfold remT at h
   split at h
   ·cases h
   ·simp only [LR.tok.injEq] at h; omega
  split at h
  ·unfold aside1 at h
   split at h
   ·cases h
   ·split at h
    ·cases h
    ·unfold remT at h
     split at h
     ·cases h
     ·simp only [LR.tok.injEq] at h; omega
  split at h
  ·cases h
  ·simp only [LR.tok.injEq] at h; omega
theorem lexL_quo : ∀ (k : Nat) (l : Bs) (p : Nat), l.length <= k -> ∀ t ∈ (lexL l p).1, t.kind = 3 -> quoX t.text ≠ none
 | k, [], p, _, t, ht, _ => by rw [lexL_nil] at ht; cases ht
 | 0, c :: l, p, hk, _, _, _ => by simp at hk
 | k + 1, c :: l, p, hk, t, ht, h3 => by
  simp only [List.length_cons] at hk
  cases hb : blankB c with
  | true =>
   rw [lexL_blank hb] at ht; exact lexL_quo k l (p + 1) (by omega) t ht h3
  | false =>
   cases ho : one1 (c :: l) with
   | bad o e => rw [lexL_bad hb ho] at ht; cases ht
   | tok kd sz =>
    have hs := one1_size ho; rw [lexL_tok hb ho] at ht; rcases List.mem_cons.1 ht with rfl | ht
    ·exact quoX_tok ho (by simp only at h3; omega)
    ·exact lexL_quo k _ _ (by rw [List.length_drop, List.length_cons]; omega) t ht h3
end Go.Proofs.YtbcdaaobbebooaaGreatDoor
namespace Go.Proofs.YtbcdaaobbebooaaGreatDoor
set_option maxRecDepth 100000
set_option maxHeartbeats 20000000
theorem digs_stop {s : Bs} (h : digs s = 0) : ∀ l : Bs, digs (l ++ s) = digs l
 | [] => h
 | c :: l => by simp only [List.cons_append, digs, digs_stop h l]
theorem idN_stop {s : Bs} (h : idN s = 0) : ∀ l : Bs, idN (l ++ s) = idN l
 | [] => h
 | c :: l => by simp only [List.cons_append, idN, idN_stop h l]
structure NumStop (s : Bs) : Prop where
 d : digs s = 0
 f : fracS s = 0
 p : powS s = 0
 g : sgS s = 0
theorem fracS_stop {s : Bs} (h : NumStop s) : ∀ l : Bs, fracS (l ++ s) = fracS l
 | [] => h.f
 | c :: l => by simp only [List.cons_append, fracS, digs_stop h.d l]
theorem sgS_stop {s : Bs} (h : NumStop s) : ∀ l : Bs, sgS (l ++ s) = sgS l
 | [] => h.g
 | c :: l => by simp only [List.cons_append, sgS]
theorem sgS_le : ∀ l : Bs, sgS l <= l.length
 | [] => Nat.le_refl _
 | c :: l => by rw [sgS]; split <;> simp
theorem powS_stop {s : Bs} (h : NumStop s) : ∀ l : Bs, powS (l ++ s) = powS l
 | [] => h.p
 | c :: l => by
  simp only [List.cons_append, powS, sgS_stop h l]; rw [List.drop_append_of_le_length (sgS_le l), digs_stop h.d]
theorem intS_stop {s : Bs} (h : NumStop s) : ∀ l : Bs, intS (l ++ s) = intS l
 | [] => by
  simp only [List.nil_append]
  cases s with
  | nil => rfl
  | cons c s =>
   have := h.d; show intS (c :: s) = 0; simp only [intS]; split
   ·next hc => subst hc; rw [digs, if_pos (by decide)] at this; omega
   ·exact this
 | c :: l => by
  simp only [List.cons_append, intS]; rw [<- List.cons_append, digs_stop h.d]
theorem fracS_le : ∀ l : Bs, fracS l <= l.length
 | [] => Nat.le_refl _
 | c :: l => by rw [fracS]; have := digs_le l; split <;> simp; omega
theorem intS_le : ∀ l : Bs, intS l <= l.length
 | [] => Nat.le_refl _
 | c :: l => by
  rw [intS]; split
  ·simp
  ·exact digs_le _
theorem tailS_stop {s : Bs} (h : NumStop s) (l : Bs) : tailS (l ++ s) = tailS l := by
 unfold tailS; rw [fracS_stop h, List.drop_append_of_le_length (fracS_le l), powS_stop h]
theorem mnS_le : ∀ l : Bs, mnS l <= l.length
 | [] => Nat.le_refl _
 | c :: l => by rw [mnS]; split <;> simp
theorem scanN_stop {s : Bs} (h : NumStop s) {l : Bs} (hl : l ≠ []) : scanN (l ++ s) = scanN l := by
 have hm : mnS (l ++ s) = mnS l := by cases l with | nil => exact absurd rfl hl | cons c l => rfl
 unfold scanN; have hi := intS_le (l.drop (mnS l)); rw [List.length_drop] at hi; have hml := mnS_le l; rw [hm, List.drop_append_of_le_length hml, intS_stop h, List.drop_append_of_le_length (by omega), tailS_stop h]
theorem endN_app : ∀ (l s : Bs) (n : Nat), endN l = some n -> endN (l ++ s) = some n
 | [], _, _, h => by cases h
 | c :: l, s, n, h => by
  cases l with
  | nil =>
   rw [endN] at h; simp [endN] at h
  | cons d l =>
   rw [List.cons_append, endN]; rw [endN] at h; have hh : ((d :: l) ++ s).head? = (d :: l).head? := rfl; rw [hh]; split at h
   ·next hc => rw [if_pos hc]; exact h
   ·next hc =>
    rw [if_neg hc]; obtain ⟨m, hm, rfl⟩ := Option.map_eq_some_iff.1 h; rw [endN_app (d :: l) s m hm]; rfl
theorem sgN_app {c : UInt8} {r s : Bs} (h : r ≠ [] \/ (s.head? ≠ some 61 /\ s.head? ≠ some 38 /\ s.head? ≠ some 124)) : sgN (c :: (r ++ s)) = sgN (c :: r) := by
 have hany : dbls.any (fun d => d.isPrefixOf (c :: (r ++ s))) = dbls.any (fun d => d.isPrefixOf (c :: r)) := by
  simp only [dbls, List.any_cons, List.any_nil, pfx2]
  cases r with
  | cons d r => rfl
  | nil =>
   rcases h with h | ⟨h1, h2, h3⟩
   ·exact absurd rfl h
   ·simp [h1, h2, h3]
 simp only [sgN, hany]
theorem nb_app (a b : Bs) : nb (a ++ b) = nb a ++ nb b := by unfold nb; rw [List.map_append]
theorem quo1_app {l s : Bs} {k n : Nat} (h : quo1 l = .tok k n) : quo1 (l ++ s) = .tok k n := by
 unfold quo1 at h ⊢; split at h
 ·next hz =>
  have hsz := scanQ_size (nb_byt l) hz
  have hm := scanQ_more (l := nb l) (m := (nb l).drop (scanQ (nb l)).2.1 ++ nb s) (nb_byt l) (fun x hx => by
   rcases List.mem_append.1 hx with hx | hx
   ·exact nb_byt l x (List.mem_of_mem_drop hx)
   ·exact nb_byt s x hx) hz
  rw [<- List.append_assoc, List.take_append_drop, <- nb_app] at hm; rw [hm, if_pos hz]; exact h
 ·cases h
theorem num1_app {l s : Bs} {k n : Nat} (h : num1 l = .tok k n) (hl : l ≠ []) (hs : NumStop s) : num1 (l ++ s) = .tok k n := by
 unfold num1 at h ⊢; rw [scanN_stop hs hl, List.take_append_of_le_length (scanN_le l)]; exact h
theorem lineN_nl (b : Bs) : ∀ l : Bs, lineN (l ++ 10 :: b) = lineN l
 | [] => by simp [lineN]
 | c :: l => by simp only [List.cons_append, lineN, lineN_nl b l]
theorem remS_nl (l b : Bs) : remS (l ++ 10 :: b) = remS l := by
 unfold remS; rw [lineN_nl, List.take_append_of_le_length (lineN_le l)]
theorem aside1_app {l s : Bs} {k n : Nat} (h : aside1 l = .tok k n) (h2 : 2 <= l.length) : aside1 (l ++ s) = .tok k n := by
 unfold aside1 at h ⊢; rw [List.drop_append_of_le_length h2]
 cases he : endN (l.drop 2) with
 | none => rw [he] at h; cases h
 | some m =>
  rw [he] at h; have hle := endN_le _ _ he; rw [List.length_drop] at hle; rw [endN_app _ s m he]; simp only at h ⊢; rw [List.take_append_of_le_length (by omega), List.take_append_of_le_length (by omega)]
  exact h
theorem stop_nl (b : Bs) : NumStop (10 :: b) := ⟨by simp [digs, show dg 10 = false from rfl], by simp [fracS], by simp [powS], by simp [sgS]⟩
theorem one1_nl {l : Bs} {k n : Nat} (h : one1 l = .tok k n) (b : Bs) : one1 (l ++ 10 :: b) = .tok k n := by
 cases l with
 | nil => cases h
 | cons c r =>
  rw [List.cons_append]; rw [one1] at h ⊢; split at h
  ·next hc => rw [if_pos hc, idN_stop (by simp [idN, show idB 10 = false from rfl])]; exact h
  next hc =>
  rw [if_neg hc]; split at h
  ·next hg => rw [if_pos hg, <- List.cons_append]; exact num1_app h (by simp) (stop_nl b)
  next hg =>
  rw [if_neg hg]; split at h
  ·next hq => rw [if_pos hq, <- List.cons_append]; exact quo1_app h
  next hq =>
  rw [if_neg hq]; split at h
  ·next h10 => rw [if_pos h10]; exact h
  next h10 =>
  rw [if_neg h10]
  have hh : ∀ x : UInt8, x ≠ 10 -> (((r ++ 10 :: b).head? = some x) ↔ (r.head? = some x)) := fun x hx => by
   cases r with
   | nil => simp; exact fun e => hx e.symm
   | cons d r => simp
  simp only [hh 47 (by decide), hh 42 (by decide)]
  split at h
  ·next hr => rw [if_pos hr, <- List.cons_append, remS_nl]; exact h
  next hr =>
  rw [if_neg hr]; split at h
  ·next ha =>
   rw [if_pos ha, <- List.cons_append]; exact aside1_app h (by cases r with | nil => simp at ha | cons d r => simp)
  next ha =>
  rw [if_neg ha, sgN_app (.inr (by simp))]
  exact h
theorem lex_nl : ∀ (k : Nat) (a : Bs) (p : Nat) (b : Bs), a.length <= k -> (lexL a p).2.2 = 0 ->
  lexL (a ++ 10 :: b) p = ((lexL a p).1 ++ ⟨5, strL [10], ((p + a.length : Nat) : Int)⟩ :: (lexL b (p + a.length + 1)).1, (lexL b (p + a.length + 1)).2)
 | k, [], p, b, _, _ => by
  have ho : one1 (10 :: b) = .tok 5 1 := by simp [one1, show letB 10 = false from rfl, show dg 10 = false from rfl]
  rw [List.nil_append, lexL_tok rfl ho, lexL_nil]; simp
 | 0, c :: r, p, b, hk, _ => by simp at hk
 | k + 1, c :: r, p, b, hk, h => by
  simp only [List.length_cons] at hk; rw [List.cons_append]
  cases hb : blankB c with
  | true =>
   rw [lexL_blank hb] at h ⊢; rw [lexL_blank hb, lex_nl k r (p + 1) b (by omega) h]
   simp only [List.length_cons]; rw [show p + 1 + r.length = p + (r.length + 1) by omega]
  | false =>
   cases ho : one1 (c :: r) with
   | bad o e => rw [lexL_bad hb ho] at h; exact absurd h (one1_err ho)
   | tok kd sz =>
    have hs := one1_size ho; rw [List.length_cons] at hs; rw [lexL_tok hb ho] at h ⊢; have ho2 := one1_nl ho b; rw [List.cons_append] at ho2; rw [lexL_tok hb ho2, <- List.cons_append, List.take_append_of_le_length (by simp; omega), List.drop_append_of_le_length (by simp; omega)]
    have ih := lex_nl k ((c :: r).drop sz) (p + sz) b (by rw [List.length_drop, List.length_cons]; omega) h
    rw [ih, List.length_drop, List.length_cons]; simp only [List.cons_append]; rw [show p + sz + (r.length + 1 - sz) = p + (r.length + 1) by omega]
end Go.Proofs.YtbcdaaobbebooaaGreatDoor
namespace Go.Proofs.YtbcdaaobbebooaaGreatDoor
set_option maxRecDepth 100000
set_option maxHeartbeats 20000000
def NoCtl (l : List Nat) : Prop := ∀ x ∈ l, 32 <= x
theorem NoCtl.app {a b : List Nat} (h1 : NoCtl a) (h2 : NoCtl b) : NoCtl (a ++ b) := fun x hx => (List.mem_append.1 hx).elim (h1 x) (h2 x)
theorem hexV_ctl {c d : Nat} (h : hexV c = some d) : 32 <= c := by
 unfold hexV at h; split at h
 ·omega
 split at h
 ·omega
 split at h
 ·omega
 ·cases h
theorem unitF_ctl : ∀ (k n : Nat) (l : List Nat), (unitF k n l).2 = 0 -> NoCtl (l.take k)
 | 0, _, _, _ => by intro x hx; simp at hx
 | _ + 1, _, [], _ => by intro x hx; simp at hx
 | k + 1, n, c :: r, h => by
  simp only [unitF] at h
  cases hc : hexV c with
  | none => simp [hc] at h
  | some d =>
   rw [hc] at h; simp only at h; rw [List.take_succ_cons]; intro x hx; rcases List.mem_cons.1 hx with rfl | hx
   ·exact hexV_ctl hc
   ·exact unitF_ctl k _ r h x hx
theorem lowQ_ctl {n : Nat} {l : List Nat} (h : (lowQ n l).2.2 = 0) : NoCtl (l.take 6) := by
 match l with
 | [] => simp [lowQ, errR] at h
 | [c] => by_cases hc : c = 92 <;> simp [lowQ, errR, hc] at h
 | c :: d :: u =>
  by_cases hc : c = 92
  ·by_cases hd : d = 117
   ·have h1 : (unitQ u).2 = 0 := by
     unfold lowQ at h; simp only at h; rw [if_neg (by simp [hc]), if_neg (by simp [hd])] at h
     by_cases hu : (unitQ u).2 = 0
     ·exact hu
     ·rw [if_pos (by simpa using hu)] at h; exact absurd h hu
    have h2 := unitF_ctl 4 0 u h1; subst hc hd; simp only [List.take_succ_cons]; intro x hx; rcases List.mem_cons.1 hx with rfl | hx
    ·decide
    rcases List.mem_cons.1 hx with rfl | hx
    ·decide
    ·exact h2 x hx
   ·unfold lowQ at h; simp only at h; rw [if_neg (by simp [hc]), if_pos (by simpa using hd)] at h; simp [errR] at h
  ·unfold lowQ at h; simp only at h; rw [if_pos (by simpa using hc)] at h; simp [errR] at h
theorem codedQ_ctl {r : List Nat} (h : (codedQ r).2.2 = 0) : NoCtl (r.take ((codedQ r).2.1 - 2)) := by
 have hu : (unitQ r).2 = 0 := by
  unfold codedQ at h
  by_cases hu : (unitQ r).2 = 0
  ·exact hu
  ·rw [if_pos (by simpa using hu)] at h; exact absurd h hu
 have h4 := unitF_ctl 4 0 r hu; unfold codedQ at h ⊢; rw [if_neg (by simp [hu])] at h ⊢
 by_cases h1 : 56320 <= (unitQ r).1 /\ (unitQ r).1 <= 57343
 ·rw [if_pos h1] at h; simp [errR] at h
 rw [if_neg h1] at h ⊢
 by_cases h2 : (unitQ r).1 < 55296 \/ 57343 < (unitQ r).1
 ·rw [if_pos h2]
  exact h4
 ·rw [if_neg h2] at h ⊢
  obtain ⟨_, _, _, h12, h6⟩ := lowQ_ok (by have := unitQ_val hu; omega) h
  rw [h12]; have hl := lowQ_ctl h; show NoCtl (r.take 10); rw [show (10 : Nat) = 4 + 6 from rfl, List.take_add]; exact h4.app hl
theorem oneN_ctl {c : Nat} {r : List Nat} (hl : Byt (c :: r)) (h1 : ¬ c < 32) (h : (oneN (c :: r)).2 ≠ 0) : NoCtl ((c :: r).take (oneN (c :: r)).2) := by
 obtain ⟨q1, q2, q3, q4⟩ := put_oneN (c := (oneN (c :: r)).1) (n := (oneN (c :: r)).2) hl rfl h; rw [<- q3]
 have hc : 32 <= (oneN (c :: r)).1 := by
  obtain ⟨j, hj⟩ : ∃ j, (oneN (c :: r)).2 = j + 1 := ⟨(oneN (c :: r)).2 - 1, by omega⟩
  by_cases h8 : (oneN (c :: r)).1 < 128
  ·have : putN (oneN (c :: r)).1 = [(oneN (c :: r)).1] := by simp [putN, h8]
   rw [this, hj] at q3; simp only [List.take_succ_cons, List.cons.injEq] at q3; omega
  ·omega
 generalize (oneN (c :: r)).1 = v at *; intro x hx; unfold putN at hx; split at hx
 ·simp at hx; omega
 split at hx
 ·simp at hx; omega
 split at hx
 ·simp at hx; omega
 ·simp at hx; omega
theorem escB_ctl {c b : Nat} (h : escB c = some b) : 32 <= c := by
 unfold escB at h; repeat' (split at h)
 all_goals first | (cases h; omega) | omega | cases h
theorem partQ_ctl {l : List Nat} (hl : Byt l) (h : (partQ l).2.2 = 0) : NoCtl (l.take (partQ l).2.1) := by
 match l with
 | [] => intro x hx; simp at hx
 | c :: r =>
  rw [partQ_cons] at h ⊢
  by_cases h1 : c < 32
  ·rw [if_pos h1] at h; simp [errR] at h
  rw [if_neg h1] at h ⊢
  by_cases h2 : c = 92
  ·rw [if_pos h2] at h ⊢
   match r with
   | [] => simp [escQ, errR] at h
   | d :: t =>
    simp only [escQ] at h ⊢
    cases hd : escB d with
    | some b =>
     simp only [List.take_succ_cons, List.take_zero]; intro x hx; simp at hx
     rcases hx with rfl | rfl
     ·omega
     ·exact escB_ctl hd
    | none =>
     rw [hd] at h; simp only at h ⊢
     by_cases h3 : d = 117
     ·rw [if_pos h3] at h ⊢
      have hc := codedQ_ctl h
      obtain ⟨k, hk⟩ : ∃ k, (codedQ t).2.1 = k + 2 := by
       have : (codedQ t).2.1 = 6 \/ (codedQ t).2.1 = 12 := by
        unfold codedQ at h ⊢
        by_cases hu : (unitQ t).2 = 0
        ·rw [if_neg (by simp [hu])] at h ⊢
         by_cases g1 : 56320 <= (unitQ t).1 /\ (unitQ t).1 <= 57343
         ·rw [if_pos g1] at h; simp [errR] at h
         ·rw [if_neg g1] at h ⊢
          by_cases g2 : (unitQ t).1 < 55296 \/ 57343 < (unitQ t).1
          ·rw [if_pos g2]; exact .inl rfl
          ·rw [if_neg g2] at h ⊢
           exact .inr (lowQ_ok (by omega) h).choose_spec.2.2.1
        ·rw [if_pos (by simpa using hu)] at h; exact absurd h hu
       rcases this with h | h
       ·exact ⟨4, h⟩
       ·exact ⟨10, h⟩
      rw [hk] at hc ⊢; simp only [Nat.add_sub_cancel] at hc; simp only [List.take_succ_cons]; intro x hx; rcases List.mem_cons.1 hx with rfl | hx
      ·omega
      rcases List.mem_cons.1 hx with rfl | hx
      ·omega
      ·exact hc x hx
     ·rw [if_neg h3] at h; simp [errR] at h
  ·rw [if_neg h2] at h ⊢
   by_cases h3 : (oneN (c :: r)).2 = 0
   ·rw [if_pos h3] at h; simp [errR] at h
   ·rw [if_neg h3]
    exact oneN_ctl hl h1 h3
theorem bodyQ_ctl : ∀ (k : Nat) (l : List Nat), l.length <= k -> Byt l -> (bodyQ l).2.2 = 0 -> NoCtl (l.take (bodyQ l).2.1)
 | k, l, hk, hl, h => by
  by_cases h34 : l.head? = some 34
  ·have e : bodyQ l = ([], 1, 0) := by rw [bodyQ_step hl, if_pos h34]
   rw [e]
   cases l with
   | nil => cases h34
   | cons c r =>
    have hc : c = 34 := by simpa using h34
    subst hc; intro x hx; simp at hx
    omega
  ·have hp : (partQ l).2.2 = 0 := by
    refine Decidable.byContradiction fun hn => ?_; rw [bodyQ_step hl, if_neg h34, if_pos hn] at h; exact hn h
   obtain ⟨_, _, _, q3, q4⟩ := partQ_ok hl hp
   have hr : (bodyQ (l.drop (partQ l).2.1)).2.2 = 0 := by
    refine Decidable.byContradiction fun hn => ?_; rw [bodyQ_step hl, if_neg h34, if_neg (by simp [hp]), if_pos hn] at h
    exact hn h
   have e : bodyQ l = ((partQ l).1 ++ (bodyQ (l.drop (partQ l).2.1)).1, (partQ l).2.1 + (bodyQ (l.drop (partQ l).2.1)).2.1, 0) := by
    rw [bodyQ_step hl, if_neg h34, if_neg (by simp [hp]), if_neg (by simp [hr])]
   cases k with
   | zero => omega
   | succ k =>
    have ih := bodyQ_ctl k (l.drop (partQ l).2.1) (by simp; omega) (hl.drop _) hr
    rw [e, List.take_add]; exact (partQ_ctl hl hp).app ih
theorem scanQ_ctl {l : List Nat} (hl : Byt l) (h : (scanQ l).2.2 = 0) : NoCtl (l.take (scanQ l).2.1) := by
 cases l with
 | nil => intro x hx; simp at hx
 | cons c r =>
  have hc : c = 34 := by
   refine Decidable.byContradiction fun hn => ?_; rw [scanQ, if_pos hn] at h; simp [errR] at h
  have e : scanQ (c :: r) = joinR [] 1 (bodyQ r) := by rw [scanQ, if_neg (by simpa using hc)]
  have hb : (bodyQ r).2.2 = 0 := by
   refine Decidable.byContradiction fun hn => ?_; rw [e, joinR, if_pos hn] at h; exact hn h
  have ih := bodyQ_ctl r.length r (Nat.le_refl _) (fun x hx => hl x (by simp [hx])) hb
  rw [e, joinR, if_neg (by simp [hb])]
  simp only; rw [Nat.add_comm 1, List.take_succ_cons]; intro x hx; rcases List.mem_cons.1 hx with rfl | hx
  ·omega
  ·exact ih x hx
theorem quo1_nl {l b : Bs} {k n : Nat} (h : quo1 (l ++ 10 :: b) = .tok k n) : quo1 l = .tok k n := by
 unfold quo1 at h ⊢; split at h
 ·next hz =>
  have hc := scanQ_ctl (nb_byt _) hz; have hsz := scanQ_size (nb_byt _) hz
  have hle : (scanQ (nb (l ++ 10 :: b))).2.1 <= l.length := by
   refine Nat.le_of_not_lt fun hlt => ?_; generalize (scanQ (nb (l ++ 10 :: b))).2.1 = q at *
   have := hc 10 (by
    rw [nb_app]; refine List.mem_take_iff_getElem.2 ⟨l.length, ?_, ?_⟩
    ·simp [nb_len]; omega
    ·rw [List.getElem_append_right (by simp [nb_len])]
     simp [nb])
   omega
  have hm := scanQ_more (l := nb (l ++ 10 :: b)) (m := nb (l.drop (scanQ (nb (l ++ 10 :: b))).2.1)) (nb_byt _) (nb_byt _) hz
  have he : (nb (l ++ 10 :: b)).take (scanQ (nb (l ++ 10 :: b))).2.1 ++ nb (l.drop (scanQ (nb (l ++ 10 :: b))).2.1) = nb l := by
   generalize (scanQ (nb (l ++ 10 :: b))).2.1 = m at *; rw [nb_app, List.take_append_of_le_length (by rw [nb_len]; exact hle)]
   unfold nb; rw [<- List.map_take, <- List.map_append, List.take_append_drop]
  rw [he] at hm; rw [hm, if_pos hz]; exact h
 ·cases h
theorem endN_spec : ∀ (l : Bs) (n : Nat), endN l = some n -> l[n]? = some 42 /\ l[n + 1]? = some 47
 | [], _, h => by cases h
 | c :: l, n, h => by
  rw [endN] at h; split at h
  ·next hc =>
   cases h
   cases l with
   | nil => simp at hc
   | cons d l => simp at hc; simp [hc.1, hc.2]
  ·obtain ⟨m, hm, rfl⟩ := Option.map_eq_some_iff.1 h
   simpa using endN_spec l m hm
theorem endN_cut : ∀ (l s : Bs) (n : Nat), endN (l ++ s) = some n -> n + 2 <= l.length -> endN l = some n
 | [], _, _, _, hn => by simp at hn
 | [c], _, n, _, hn => by simp at hn
 | c :: d :: l, s, n, h, hn => by
  rw [List.cons_append, endN] at h; rw [endN]; have hh : ((d :: l) ++ s).head? = (d :: l).head? := rfl; rw [hh] at h; split at h
  ·next hc => rw [if_pos hc]; exact h
  ·next hc =>
   rw [if_neg hc]; obtain ⟨m, hm, rfl⟩ := Option.map_eq_some_iff.1 h; rw [endN_cut (d :: l) s m hm (by simp at hn ⊢; omega)]
   rfl
theorem aside1_nl {l b : Bs} {k n : Nat} (h : aside1 (l ++ 10 :: b) = .tok k n) (h2 : 2 <= l.length) : aside1 l = .tok k n := by
 unfold aside1 at h ⊢; rw [List.drop_append_of_le_length h2] at h
 cases he : endN (l.drop 2 ++ 10 :: b) with
 | none => rw [he] at h; cases h
 | some m =>
  rw [he] at h; simp only at h; have hsp := endN_spec _ _ he
  by_cases hc : ((l ++ 10 :: b).take (m + 2)).contains 10 = true
  ·rw [if_pos hc] at h; cases h
  ·rw [if_neg hc] at h
   have hlen : (l.drop 2).length = l.length - 2 := List.length_drop
   have h10 : (l.drop 2 ++ 10 :: b)[l.length - 2]? = some 10 := by
    rw [List.getElem?_append_right (by omega)]; simp
   have hm1 : m + 2 <= l.length := by
    refine Nat.le_of_not_lt fun hlt => hc ?_; rw [List.contains_iff_mem]; refine List.mem_take_iff_getElem.2 ⟨l.length, ?_, ?_⟩
    ·simp; omega
    ·rw [List.getElem_append_right (Nat.le_refl _)]; simp
   have hm2 : m ≠ l.length - 2 := fun e => by rw [e, h10] at hsp; simp at hsp
   have hm3 : m + 1 ≠ l.length - 2 := fun e => by have := hsp.2; rw [e, h10] at this; simp at this
   rw [endN_cut _ _ m he (by omega)]
   simp only; rw [List.take_append_of_le_length (by omega)] at hc h
   rw [if_neg hc]; exact h
theorem one1_cut {l : Bs} (hl : l ≠ []) {k n : Nat} {b : Bs} (h : one1 (l ++ 10 :: b) = .tok k n) : one1 l = .tok k n := by
 cases l with
 | nil => exact absurd rfl hl
 | cons c r =>
  rw [List.cons_append] at h; rw [one1] at h ⊢; split at h
  ·next hc => rw [if_pos hc]; rw [idN_stop (by simp [idN, show idB 10 = false from rfl])] at h; exact h
  next hc =>
  rw [if_neg hc]; split at h
  ·next hg =>
   rw [if_pos hg]; rw [<- List.cons_append] at h; unfold num1 at h ⊢; rw [scanN_stop (stop_nl b) (by simp), List.take_append_of_le_length (scanN_le _)] at h
   exact h
  next hg =>
  rw [if_neg hg]; split at h
  ·next hq => rw [if_pos hq]; rw [<- List.cons_append] at h; exact quo1_nl h
  next hq =>
  rw [if_neg hq]; split at h
  ·next h10 => rw [if_pos h10]; exact h
  next h10 =>
  rw [if_neg h10]
  have hh : ∀ x : UInt8, x ≠ 10 -> (((r ++ 10 :: b).head? = some x) ↔ (r.head? = some x)) := fun x hx => by
   cases r with
   | nil => simp; exact fun e => hx e.symm
   | cons d r => simp
  simp only [hh 47 (by decide), hh 42 (by decide)] at h
  split at h
  ·next hr => rw [if_pos hr]; rw [<- List.cons_append, remS_nl] at h; exact h
  next hr =>
  rw [if_neg hr]; split at h
  ·next ha =>
   rw [if_pos ha]; rw [<- List.cons_append] at h; exact aside1_nl h (by cases r with | nil => simp at ha | cons d r => simp)
  next ha =>
  rw [if_neg ha]; rw [sgN_app (.inr (by simp))] at h
  exact h
theorem lex_cut : ∀ (k : Nat) (a : Bs) (p : Nat) (b : Bs), a.length <= k -> (lexL (a ++ 10 :: b) p).2.2 = 0 -> (lexL a p).2.2 = 0
 | k, [], p, b, _, _ => by rw [lexL_nil]
 | 0, c :: r, p, b, hk, _ => by simp at hk
 | k + 1, c :: r, p, b, hk, h => by
  simp only [List.length_cons] at hk; rw [List.cons_append] at h
  cases hb : blankB c with
  | true =>
   rw [lexL_blank hb] at h ⊢; exact lex_cut k r (p + 1) b (by omega) h
  | false =>
   cases ho : one1 (c :: (r ++ 10 :: b)) with
   | bad o e => rw [lexL_bad hb ho] at h; exact absurd h (one1_err ho)
   | tok kd sz =>
    have ho2 := one1_cut (l := c :: r) (by simp) (b := b) ho
    have hs := one1_size ho2; rw [List.length_cons] at hs; rw [lexL_tok hb ho, <- List.cons_append, List.drop_append_of_le_length (by simp; omega)] at h
    rw [lexL_tok hb ho2]; exact lex_cut k _ _ b (by rw [List.length_drop, List.length_cons]; omega) h
def shT (q : Nat) (t : Tok) : Tok := ⟨t.kind, t.text, t.pos + (q : Nat)⟩
theorem lex_shift : ∀ (k : Nat) (l : Bs) (p q : Nat), l.length <= k -> lexL l (p + q) = ((lexL l p).1.map (shT q), if (lexL l p).2.2 = 0 then -1 else (lexL l p).2.1 + (q : Nat), (lexL l p).2.2)
 | k, [], p, q, _ => by rw [lexL_nil, lexL_nil]; rfl
 | 0, c :: r, p, q, hk => by simp at hk
 | k + 1, c :: r, p, q, hk => by
  simp only [List.length_cons] at hk
  cases hb : blankB c with
  | true =>
   rw [lexL_blank hb, lexL_blank hb, show p + q + 1 = p + 1 + q by omega]
   exact lex_shift k r (p + 1) q (by omega)
  | false =>
   cases ho : one1 (c :: r) with
   | bad o e =>
    rw [lexL_bad hb ho, lexL_bad hb ho]; simp only [List.map_nil, if_neg (one1_err ho)]
    congr 2
    omega
   | tok kd sz =>
    have hs := one1_size ho; rw [lexL_tok hb ho, lexL_tok hb ho, show p + q + sz = p + sz + q by omega, lex_shift k ((c :: r).drop sz) (p + sz) q (by rw [List.length_drop, List.length_cons]; omega)]
    simp only [List.map_cons, shT]
    congr 2
end Go.Proofs.YtbcdaaobbebooaaGreatDoor
namespace Go.Proofs.YtbcdaaobbebooaaGreatDoor
set_option maxRecDepth 100000
set_option maxHeartbeats 20000000
def cutL : Bs -> List Bs
 | [] => [[]]
 | c :: l => if c = 10 then [] :: cutL l else match cutL l with
  | a :: r => (c :: a) :: r
  | [] => [[c]]
theorem cutL_ne : ∀ l : Bs, cutL l ≠ []
 | [] => by simp [cutL]
 | c :: l => by
  rw [cutL]; split
  ·simp
  ·split <;> simp
theorem cutL_nl : ∀ (a b : Bs), 10 ∉ a -> cutL (a ++ 10 :: b) = a :: cutL b
 | [], b, _ => by simp [cutL]
 | c :: a, b, h => by
  simp only [List.mem_cons, not_or] at h; rw [List.cons_append, cutL, if_neg (fun e => h.1 e.symm), cutL_nl a b h.2]
theorem cutL_one : ∀ (a : Bs), 10 ∉ a -> cutL a = [a]
 | [], _ => rfl
 | c :: a, h => by
  simp only [List.mem_cons, not_or] at h; rw [cutL, if_neg (fun e => h.1 e.symm), cutL_one a h.2]
theorem cut_ind {P : Bs -> Prop} (h1 : ∀ a, 10 ∉ a -> P a) (h2 : ∀ a b, 10 ∉ a -> P b -> P (a ++ 10 :: b)) (l : Bs) : P l := by
 have hk : ∀ (k : Nat) (l : Bs), l.length <= k -> P l := by
  intro k
  induction k with
  | zero => intro l hl; rw [List.eq_nil_of_length_eq_zero (Nat.le_zero.1 hl)]; exact h1 [] (by simp)
  | succ k ih =>
   intro l hl
   by_cases h : 10 ∈ l
   ·obtain ⟨a, b, e, ha⟩ := List.eq_append_cons_of_mem h
    rw [e]; refine h2 a b ha (ih b ?_); rw [e] at hl; simp at hl; omega
   ·exact h1 l h
 exact hk l.length l (Nat.le_refl _)
def plR (r : List Tok) : List Tok := r.filter (fun t => !comB t)
def opR (r : List Tok) : Bool := match (plR r).getLast? with | some t => isB t sLc | none => false
def clR (r : List Tok) : Bool := match plR r with | t :: _ => isB t sRc | [] => false
structure RowD where
 toks : List Tok
 lo : Int
 hi : Int
 dep : Int
def depR (o : Int) (l : List Tok) : Int := if clR l then o - 1 else o
def endR (o : Int) (l : List Tok) (lo hi : Int) : RowD := ⟨l, lo, hi, depR o l⟩
def nxtO (o : Int) (l : List Tok) : Int := if opR l then depR o l + 1 else depR o l
def rowsF (size : Int) : List Tok -> List Tok -> Int -> Int -> List RowD
 | [], cur, fr, o => if fr < size then [endR o cur fr size] else []
 | t :: r, cur, fr, o => if t.kind = 5 then endR o cur fr t.pos :: rowsF size r [] (t.pos + 1) (nxtO o cur) else rowsF size r (cur ++ [t]) fr o
def rowsP (l : Bs) : List RowD := if (lexP l).2.2 = 0 then rowsF l.length (lexP l).1 [] 0 0 else []
def rowsL : List Bs -> Nat -> Int -> List RowD
 | [], _, _ => []
 | [a], p, o => if a = [] then [] else [endR o (lexL a p).1 p ((p + a.length : Nat) : Int)]
 | a :: b :: r, p, o => endR o (lexL a p).1 p ((p + a.length : Nat) : Int) :: rowsL (b :: r) (p + a.length + 1) (nxtO o (lexL a p).1)
theorem rowsF_line (size : Int) (x : ByteArray) (q : Int) (tb : List Tok) : ∀ (ta cur : List Tok) (fr o : Int), (∀ t ∈ ta, t.kind ≠ 5) -> rowsF size (ta ++ ⟨5, x, q⟩ :: tb) cur fr o = endR o (cur ++ ta) fr q :: rowsF size tb [] (q + 1) (nxtO o (cur ++ ta))
 | [], cur, fr, o, _ => by simp only [List.nil_append, rowsF, if_true, List.append_nil]
 | t :: ta, cur, fr, o, h => by
  have h1 := h t (by simp)
  rw [List.cons_append, rowsF, if_neg h1, rowsF_line size x q tb ta (cur ++ [t]) fr o (fun u hu => h u (by simp [hu]))]
  simp
theorem rowsF_last (size : Int) : ∀ (ta cur : List Tok) (fr o : Int), (∀ t ∈ ta, t.kind ≠ 5) -> rowsF size ta cur fr o = if fr < size then [endR o (cur ++ ta) fr size] else []
 | [], cur, fr, o, _ => by rw [rowsF, List.append_nil]
 | t :: ta, cur, fr, o, h => by
  have h1 := h t (by simp)
  rw [rowsF, if_neg h1, rowsF_last size ta (cur ++ [t]) fr o (fun u hu => h u (by simp [hu]))]
  simp
theorem one1_line {c : UInt8} {r : Bs} {n : Nat} (h : one1 (c :: r) = .tok 5 n) : c = 10 := by
 refine Decidable.byContradiction fun hc => ?_; rw [one1] at h; split at h
 ·cases h
 split at h
 ·unfold num1 at h; split at h <;> cases h
 split at h
 ·unfold quo1 at h; split at h <;> cases h
 (try rw [if_neg hc] at h)
 have hr : ∀ (l : Bs) (k : Nat), remT l k = .tok 5 n -> k = 5 := fun l k hk => by
  unfold remT at hk; split at hk
  ·cases hk
  ·injection hk
 split at h
 ·exact absurd (hr _ _ h) (by decide)
 split at h
 ·unfold aside1 at h
  split at h
  ·cases h
  ·split at h
   ·cases h
   ·exact absurd (hr _ _ h) (by decide)
 split at h <;> cases h
theorem lex_noline : ∀ (k : Nat) (l : Bs) (p : Nat), l.length <= k -> 10 ∉ l -> ∀ t ∈ (lexL l p).1, t.kind ≠ 5
 | k, [], p, _, _ => by rw [lexL_nil]; intro t ht; cases ht
 | 0, c :: r, p, hk, _ => by simp at hk
 | k + 1, c :: r, p, hk, h => by
  simp only [List.length_cons] at hk; simp only [List.mem_cons, not_or] at h
  cases hb : blankB c with
  | true => rw [lexL_blank hb]; exact lex_noline k r (p + 1) (by omega) h.2
  | false =>
   cases ho : one1 (c :: r) with
   | bad o e => rw [lexL_bad hb ho]; intro t ht; cases ht
   | tok kd sz =>
    have hs := one1_size ho; rw [lexL_tok hb ho]; intro t ht; simp only [List.mem_cons] at ht; rcases ht with rfl | ht
    ·intro e
     have e : (kd : Int) = 5 := e; obtain rfl : kd = 5 := by omega
     exact h.1 (one1_line ho).symm
    ·exact lex_noline k _ _ (by rw [List.length_drop, List.length_cons]; omega) (fun hm => by
      rcases List.mem_cons.1 (List.mem_of_mem_drop hm) with e | e
      ·exact h.1 e
      ·exact h.2 e) t ht
theorem lex_lines (a b : Bs) (p : Nat) (h : (lexL (a ++ 10 :: b) p).2.2 = 0) :
  (lexL a p).2.2 = 0 /\ (lexL b (p + a.length + 1)).2.2 = 0 /\ lexL (a ++ 10 :: b) p = ((lexL a p).1 ++ ⟨5, strL [10], ((p + a.length : Nat) : Int)⟩ :: (lexL b (p + a.length + 1)).1, (lexL b (p + a.length + 1)).2) := by
 have h1 := lex_cut a.length a p b (Nat.le_refl _) h; have h2 := lex_nl a.length a p b (Nat.le_refl _) h1; rw [h2] at h; exact ⟨h1, h, h2⟩
theorem rows_lines (l : Bs) : ∀ (p : Nat) (o : Int), (lexL l p).2.2 = 0 -> rowsF ((p + l.length : Nat) : Int) (lexL l p).1 [] p o = rowsL (cutL l) p o := by
 refine cut_ind (P := fun l => ∀ (p : Nat) (o : Int), (lexL l p).2.2 = 0 -> rowsF ((p + l.length : Nat) : Int) (lexL l p).1 [] p o = rowsL (cutL l) p o) ?_ ?_ l
 ·intro a ha p o _
  rw [cutL_one a ha, rowsL, rowsF_last _ _ _ _ _ (lex_noline a.length a p (Nat.le_refl _) ha), List.nil_append]
  by_cases h0 : a = []
  ·subst h0
   rw [if_neg (by simp), if_pos rfl]
  ·have : 0 < a.length := List.length_pos_iff.2 h0
   rw [if_pos (by omega), if_neg h0]
 ·intro a b ha ih p o h
  obtain ⟨h1, h2, h3⟩ := lex_lines a b p h; rw [h3, cutL_nl a b ha]
  obtain ⟨x, r, hx⟩ : ∃ x r, cutL b = x :: r := by
   cases hc : cutL b with
   | nil => exact absurd hc (cutL_ne b)
   | cons x r => exact ⟨x, r, rfl⟩
  have ih := ih (p + a.length + 1) (nxtO o (lexL a p).1) h2; rw [hx] at ih ⊢; rw [rowsL, <- ih]; simp only; rw [rowsF_line _ _ _ _ _ _ _ _ (lex_noline a.length a p (Nat.le_refl _) ha), List.nil_append]; simp only [List.length_append, List.length_cons]; rw [show p + (a.length + (b.length + 1)) = p + a.length + 1 + b.length by omega]
  congr 1
theorem rowsP_lines {l : Bs} (h : (lexL l 0).2.2 = 0) : rowsP l = rowsL (cutL l) 0 0 := by
 have := rows_lines l 0 0 h; rw [Nat.zero_add] at this; unfold rowsP lexP; rw [if_pos h]; simp only [if_true]; exact this
end Go.Proofs.YtbcdaaobbebooaaGreatDoor
