/- The walks of At and of Get (layer 8). -/
import Derived.Test.YtpcfhiipkbpmkaaDoorTreG
import Derived.Test.YtpcfhiipkbpmkaaDoorTreM
namespace Go.Proofs.YtpcfhiipkbpmkaaDoor
open Go.RowKit Go.Tab

def getPath : List ByteArray → Tree → Option Tree
  | [], t => some t
  | k :: r, t => (getT k t).bind (getPath r)
theorem findK_bulk {key : ByteArray} {u : Tree} : ∀ {ks : List ByteArray} {ts : List Tree}, findK key ks ts = some u → u.bulk ≤ bulkAll ts
  | [], _, h => by simp [findK] at h
  | _ :: _, [], h => by simp [findK] at h
  | k :: ks, t :: ts, h => by
    simp only [findK] at h
    split at h
    · cases h; simp only [bulkAll]; omega
    · have := findK_bulk h; simp only [bulkAll]; omega
theorem getT_bulk {key : ByteArray} {t u : Tree} (h : getT key t = some u) : u.bulk ≤ t.bulk := by
  cases t
  simp only [getT] at h
  split at h
  · have := findK_bulk h; simp only [Tree.bulk]; omega
  · cases h
/-- What is told of a path, in memory of its own. -/
def AtP (w : World) (o : Option Tree) (e : Ending) (w' : World) : Prop :=
  (∃ cs, e = .returned (.tuple #[valV cs, .bool o.isSome]) ∧ ValIn (fun k => w.heap.size ≤ k) w' (o.getD zeroT) cs) ∧ Below w.heap.size w w'
theorem zero_in (P : Nat → Prop) (w : World) : ValIn P w zeroT [.int .i64 0, .bool false, .bool false, .string ⟨#[]⟩, .int .i64 0, .string ⟨#[]⟩, .slice none 0 0, .slice none 0 0] := by
  simp only [zeroT, ValIn]
  exact ⟨_, none, 0, rfl, ⟨RowOf.nil, fun b hb _ => by simp [Value.ownBlock] at hb⟩, Nat.le_refl _, by decide, fun _ => rfl, fun x h => by cases h⟩
theorem ValAt.shape {w : World} {t : Tree} {cs : List Value} (h : ValAt w t cs) :
    ∃ kind is neg digits exp str ka kn kc sa sn sc, cs = [.int .i64 kind, .bool is, .bool neg, .string digits, .int .i64 exp, .string str, .slice ka kn kc, .slice sa sn sc] := by
  cases t
  simp only [ValAt] at h
  obtain ⟨kv, a, cap, rfl, h2, -⟩ := h
  obtain ⟨ka, kc, rfl, -⟩ := h2.len
  exact ⟨_, _, _, _, _, _, _, _, _, _, _, _, rfl⟩
theorem path_step {path : List ByteArray} {k : Nat} (h : k < path.length) (t : Tree) : getPath (path.drop k) t = (getT path[k] t).bind (getPath (path.drop (k + 1))) := by
  rw [List.drop_eq_getElem_cons h]; rfl

theorem putAll_all (arr : Array Value) (l : List Value) (h : arr.size = l.length) : putAll arr 0 l = l.toArray := by
  apply Array.ext_getElem?
  intro i
  by_cases hi : i < l.length
  · have := putAll_in l arr 0 i l[i] (by omega) (List.getElem?_eq_getElem hi)
    rw [Nat.zero_add] at this
    rw [this]
    simp [hi]
  · rw [Array.getElem?_eq_none (by rw [putAll_size]; omega), Array.getElem?_eq_none (by simp; omega)]
theorem Cells.putAll {w : World} {g : Nat} {arr : Array Value} {T : TypeId} (h : Cells w g arr T) (l : List Value) (hl : arr.size = l.length) : Cells (setAll w g 0 l) g l.toArray T := by
  have := h.put l 0
  rwa [putAll_all arr l hl] at this

set_option maxHeartbeats 4000000 in
set_option maxRecDepth 100000 in
theorem At_any (t : Tree) (hb : t.bulk ≤ 1048576) (path : List ByteArray) (v : Value) (w : World) (cs : List Value) (hv : ValAt w t cs) (hp : RowOf Value.string w v path) :
    Calls Tryd.prog 21 #[valV cs, v] w (AtP w (getPath path t)) := by
  obtain ⟨pa, pc, rfl, hpl, hpm, -⟩ := hp.len
  unfold maxLen at hpm
  obtain ⟨o, ho⟩ : ∃ o, o = getPath path t := ⟨_, rfl⟩
  rw [← ho]
  have HO := Lib.hid ho
  clear ho
  have hv0 := hv
  obtain ⟨kind, is, neg, digits, exp, str, ka, kn, kc, sa, sn, sc, rfl⟩ := hv.shape
  simp only [valV]
  go_enter Tryd.func21, Tryd.ntmps21
  go_wp2_with fail
  go_loopw [12] (fun i wr => ∃ (k : Nat) (cur : Tree) (cs : List Value), k ≤ path.length ∧ i = .int .i64 (k : Int) ∧ Cells wr w.heap.size cs.toArray 27 ∧ ValAt w cur cs ∧ getPath (path.drop k) cur = o ∧ cur.bulk ≤ 1048576 ∧
    Cells wr (w.heap.size + 1) #[.int .i64 0, .bool false, .bool false, .string ⟨#[]⟩, .int .i64 0, .string ⟨#[]⟩, .slice none 0 0, .slice none 0 0] 27 ∧ Below w.heap.size w wr) (fun i _ => path.length - (intOf i).toNat)
  case atStart =>
    refine ⟨0, t, _, Nat.zero_le _, rfl, (Cells.new w _ _).alloc _, hv0, by simpa using HO.out.symm, hb, ?_, ?_⟩
    · have := Cells.new (w.alloc (.cells #[.int .i64 kind, .bool is, .bool neg, .string digits, .int .i64 exp, .string str, .slice ka kn kc, .slice sa sn sc] 27)) #[.int .i64 0, .bool false, .bool false, .string ⟨#[]⟩, .int .i64 0, .string ⟨#[]⟩, .slice none 0 0, .slice none 0 0] 27
      simpa using this
    · (repeat' (first | (with_reducible refine Below.setCell ?_ ?_ _) | (with_reducible refine Below.alloc ?_ ?_ _) | (with_reducible refine Below.drew ?_) | (with_reducible assumption) | (with_reducible exact Below.refl _ _) | (simp only [World.size_alloc, World.size_setCell, World.size_drew]; done) | (simp only [World.size_alloc, World.size_setCell, World.size_drew]; omega) | omega))
  case round =>
    clear hv hv0
    obtain ⟨k, cur, cs, hk, rfl, hc0, hcv, hpath, hcb, hc1, hbl⟩ := hrel
    have HPT := Lib.hid hpath
    clear hpath
    have hy0 := hc0.lt
    have hy1 := hc1.lt
    obtain ⟨ckind, cis, cneg, cdig, cexp, cstr, cka, ckn, ckc, csa, csn, csc, rfl⟩ := hcv.shape
    by_cases hkl : k < path.length
    · have hp1 := hp.below hbl (Nat.le_refl _)
      obtain ⟨pb, po, rfl, hplt, hpcell⟩ := hp1.at hkl
      have hpk := hpcell k hkl
      have HST := Lib.hid (path_step hkl cur)
      clear hpcell
      have hGB := fun u (h : getT path[k] cur = some u) => getT_bulk h
      have hG := get_any cur path[k] w wr hbl _ hcv
      generalize path[k] = key at *
      obtain ⟨g, hg⟩ : ∃ g, g = getT key cur := ⟨_, rfl⟩
      rw [← hg] at hG
      have HG := Lib.hid hg
      have HGB := Lib.hid hGB
      clear hg hGB
      simp only [valV] at hG
      have hc0c0 := hc0.cell 0 _ rfl
      have hc0f0 := hc0.frozen 0
      have hc0c1 := hc0.cell 1 _ rfl
      have hc0f1 := hc0.frozen 1
      have hc0c2 := hc0.cell 2 _ rfl
      have hc0f2 := hc0.frozen 2
      have hc0c3 := hc0.cell 3 _ rfl
      have hc0f3 := hc0.frozen 3
      have hc0c4 := hc0.cell 4 _ rfl
      have hc0f4 := hc0.frozen 4
      have hc0c5 := hc0.cell 5 _ rfl
      have hc0f5 := hc0.frozen 5
      have hc0c6 := hc0.cell 6 _ rfl
      have hc0f6 := hc0.frozen 6
      have hc0c7 := hc0.cell 7 _ rfl
      have hc0f7 := hc0.frozen 7
      go_wp2_with fail
      refine hG.mono ?_
      clear hG
      rintro e w2 ⟨⟨cs2, rfl, hv2⟩, hb2⟩
      obtain ⟨dkind, dis, dneg, ddig, dexp, dstr, dka, dkn, dkc, dsa, dsn, dsc, rfl⟩ := hv2.shape
      simp only [valV]
      have hd0 := hc0.below hb2 hy0
      have hd1 := hc1.below hb2 hy1
      have hb3 := hbl.trans (hb2.mono hbl.size)
      have hz0 := hd0.lt
      have hz1 := hd1.lt
      clear hc0c0 hc0c1 hc0c2 hc0c3 hc0c4 hc0c5 hc0c6 hc0c7 hc0f0 hc0f1 hc0f2 hc0f3 hc0f4 hc0f5 hc0f6 hc0f7 hc0 hc1 hb2
      have HB3 := Lib.hid hb3
      cases g with
      | none =>
        have HN : Hid (o = none) := Lib.hid (by rw [← HPT.out, HST.out, ← HG.out]; rfl)
        clear hcv hv2
        have hd0c0 := hd0.cell 0 _ rfl
        have hd0f0 := hd0.frozen 0
        have hd0c1 := hd0.cell 1 _ rfl
        have hd0f1 := hd0.frozen 1
        have hd0c2 := hd0.cell 2 _ rfl
        have hd0f2 := hd0.frozen 2
        have hd0c3 := hd0.cell 3 _ rfl
        have hd0f3 := hd0.frozen 3
        have hd0c4 := hd0.cell 4 _ rfl
        have hd0f4 := hd0.frozen 4
        have hd0c5 := hd0.cell 5 _ rfl
        have hd0f5 := hd0.frozen 5
        have hd0c6 := hd0.cell 6 _ rfl
        have hd0f6 := hd0.frozen 6
        have hd0c7 := hd0.cell 7 _ rfl
        have hd0f7 := hd0.frozen 7
        have hd1c0 := hd1.cell 0 _ rfl
        have hd1f0 := hd1.frozen 0
        have hd1c1 := hd1.cell 1 _ rfl
        have hd1f1 := hd1.frozen 1
        have hd1c2 := hd1.cell 2 _ rfl
        have hd1f2 := hd1.frozen 2
        have hd1c3 := hd1.cell 3 _ rfl
        have hd1f3 := hd1.frozen 3
        have hd1c4 := hd1.cell 4 _ rfl
        have hd1f4 := hd1.frozen 4
        have hd1c5 := hd1.cell 5 _ rfl
        have hd1f5 := hd1.frozen 5
        have hd1c6 := hd1.cell 6 _ rfl
        have hd1f6 := hd1.frozen 6
        have hd1c7 := hd1.cell 7 _ rfl
        have hd1f7 := hd1.frozen 7
        clear hd0 hd1
        go_wp2_with fail
        refine bodyPost_ret (v := .tuple #[.agg #[.int .i64 0, .bool false, .bool false, .string ⟨#[]⟩, .int .i64 0, .string ⟨#[]⟩, .slice none 0 0, .slice none 0 0], .bool false]) (by simp [results, Tryd.results21, go_sem, *]) rfl ?_
        rw [HN.out]
        refine ⟨⟨_, rfl, zero_in _ _⟩, ?_⟩
        (repeat' (first | (with_reducible refine Below.setCell ?_ ?_ _) | (with_reducible refine Below.alloc ?_ ?_ _) | (with_reducible refine Below.drew ?_) | (with_reducible assumption) | (with_reducible exact Below.refl _ _) | (simp only [World.size_alloc, World.size_setCell, World.size_drew]; done) | (simp only [World.size_alloc, World.size_setCell, World.size_drew]; omega) | omega))
      | some u =>
        have HU : Hid (getPath (path.drop (k + 1)) u = o) := Lib.hid (by rw [← HPT.out, HST.out, ← HG.out]; rfl)
        have HUB : Hid (u.bulk ≤ 1048576) := Lib.hid (Nat.le_trans (HGB.out u HG.out.symm) hcb)
        have HV2 := Lib.hid hv2
        have HC0 := Lib.hid ((hd0.putAll [.int .i64 dkind, .bool dis, .bool dneg, .string ddig, .int .i64 dexp, .string dstr, .slice dka dkn dkc, .slice dsa dsn dsc] rfl).alloc (.cells #[.int .i64 dkind, .bool dis, .bool dneg, .string ddig, .int .i64 dexp, .string dstr, .slice dka dkn dkc, .slice dsa dsn dsc] 27))
        have HC1 := Lib.hid ((hd1.setAllOther (B := w.heap.size) (o := 0) (l := [.int .i64 dkind, .bool dis, .bool dneg, .string ddig, .int .i64 dexp, .string dstr, .slice dka dkn dkc, .slice dsa dsn dsc]) (by omega)).alloc (.cells #[.int .i64 dkind, .bool dis, .bool dneg, .string ddig, .int .i64 dexp, .string dstr, .slice dka dkn dkc, .slice dsa dsn dsc] 27))
        clear hcv hv2 hd1
        have hd0c0 := hd0.cell 0 _ rfl
        have hd0f0 := hd0.frozen 0
        have hd0c1 := hd0.cell 1 _ rfl
        have hd0f1 := hd0.frozen 1
        have hd0c2 := hd0.cell 2 _ rfl
        have hd0f2 := hd0.frozen 2
        have hd0c3 := hd0.cell 3 _ rfl
        have hd0f3 := hd0.frozen 3
        have hd0c4 := hd0.cell 4 _ rfl
        have hd0f4 := hd0.frozen 4
        have hd0c5 := hd0.cell 5 _ rfl
        have hd0f5 := hd0.frozen 5
        have hd0c6 := hd0.cell 6 _ rfl
        have hd0f6 := hd0.frozen 6
        have hd0c7 := hd0.cell 7 _ rfl
        have hd0f7 := hd0.frozen 7
        clear hd0
        go_wp2_with fail
        go_roundw
        case rel =>
          refine ⟨k + 1, u, _, hkl, by go_num, HC0.out, HV2.out, HU.out, HUB.out, HC1.out, ?_⟩
          have hb3 := HB3.out
          (repeat' (first | (with_reducible refine Below.setCell ?_ ?_ _) | (with_reducible refine Below.alloc ?_ ?_ _) | (with_reducible refine Below.drew ?_) | (with_reducible assumption) | (with_reducible exact Below.refl _ _) | (simp only [World.size_alloc, World.size_setCell, World.size_drew]; done) | (simp only [World.size_alloc, World.size_setCell, World.size_drew]; omega) | omega))
        case measure => simp [intOf]; omega
    · obtain rfl : k = path.length := by omega
      have HE : Hid (o = some cur) := Lib.hid (by rw [← HPT.out]; simp [getPath])
      have hC := Copy_any cur hcb wr _ (ValAt.below hbl _ _ hcv)
      simp only [valV] at hC
      have hc0c0 := hc0.cell 0 _ rfl
      have hc0f0 := hc0.frozen 0
      have hc0c1 := hc0.cell 1 _ rfl
      have hc0f1 := hc0.frozen 1
      have hc0c2 := hc0.cell 2 _ rfl
      have hc0f2 := hc0.frozen 2
      have hc0c3 := hc0.cell 3 _ rfl
      have hc0f3 := hc0.frozen 3
      have hc0c4 := hc0.cell 4 _ rfl
      have hc0f4 := hc0.frozen 4
      have hc0c5 := hc0.cell 5 _ rfl
      have hc0f5 := hc0.frozen 5
      have hc0c6 := hc0.cell 6 _ rfl
      have hc0f6 := hc0.frozen 6
      have hc0c7 := hc0.cell 7 _ rfl
      have hc0f7 := hc0.frozen 7
      go_wp2_with fail
      refine hC.mono ?_
      clear hC
      rintro e w2 ⟨⟨cs2, rfl, hin⟩, hb2⟩
      obtain ⟨dkind, dis, dneg, ddig, dexp, dstr, dka, dkn, dkc, dsa, dsn, dsc, rfl⟩ := hin.shape
      simp only [valV]
      have hd1 := hc1.below hb2 hy1
      have hb3 := hbl.trans (hb2.mono hbl.size)
      have hz1 := hd1.lt
      have HIN := Lib.hid (ValIn.move (w' := setAll w2 (w.heap.size + 1) 0 [.int .i64 dkind, .bool dis, .bool dneg, .string ddig, .int .i64 dexp, .string dstr, .slice dka dkn dkc, .slice dsa dsn dsc]) (Q := fun m => w.heap.size ≤ m)
        (Nat.le_of_eq (setAll_size _ _ _ _).symm) (fun m (hm : wr.heap.size ≤ m) _ => setAll_other _ _ _ _ m (by omega)) (fun m (hm : wr.heap.size ≤ m) _ => by show w.heap.size ≤ m; omega) _ _ hin)
      have HB3 := Lib.hid (setAll_below (w.heap.size + 1) w.heap.size (by omega) [.int .i64 dkind, .bool dis, .bool dneg, .string ddig, .int .i64 dexp, .string dstr, .slice dka dkn dkc, .slice dsa dsn dsc] 0 _ _ hb3)
      clear hc0c0 hc0c1 hc0c2 hc0c3 hc0c4 hc0c5 hc0c6 hc0c7 hc0f0 hc0f1 hc0f2 hc0f3 hc0f4 hc0f5 hc0f6 hc0f7 hc0 hc1 hb2 hin hcv
      have hd1c0 := hd1.cell 0 _ rfl
      have hd1f0 := hd1.frozen 0
      have hd1c1 := hd1.cell 1 _ rfl
      have hd1f1 := hd1.frozen 1
      have hd1c2 := hd1.cell 2 _ rfl
      have hd1f2 := hd1.frozen 2
      have hd1c3 := hd1.cell 3 _ rfl
      have hd1f3 := hd1.frozen 3
      have hd1c4 := hd1.cell 4 _ rfl
      have hd1f4 := hd1.frozen 4
      have hd1c5 := hd1.cell 5 _ rfl
      have hd1f5 := hd1.frozen 5
      have hd1c6 := hd1.cell 6 _ rfl
      have hd1f6 := hd1.frozen 6
      have hd1c7 := hd1.cell 7 _ rfl
      have hd1f7 := hd1.frozen 7
      clear hd1
      go_wp2_with fail
      refine bodyPost_ret (v := .tuple #[.agg #[.int .i64 dkind, .bool dis, .bool dneg, .string ddig, .int .i64 dexp, .string dstr, .slice dka dkn dkc, .slice dsa dsn dsc], .bool true]) (by simp [results, Tryd.results21, go_sem, *]) rfl ?_
      rw [HE.out]
      exact ⟨⟨_, rfl, HIN.out⟩, HB3.out⟩
end Go.Proofs.YtpcfhiipkbpmkaaDoor
