/- The walk of Get (layer 8). -/
import Derived.Test.YtpcfhiipkbpmkaaDoorTreO
namespace Go.Proofs.YtpcfhiipkbpmkaaDoor
open Go.RowKit Go.Tab

set_option maxHeartbeats 4000000 in
set_option maxRecDepth 100000 in
theorem Get_any (t : Tree) (hb : t.bulk ≤ 1048576) (key : ByteArray) (w : World) (cs : List Value) (hv : ValAt w t cs) :
    Calls Tryd.prog 19 #[valV cs, .string key] w (AtP w (getT key t)) := by
  have ho : getPath [key] t = getT key t := by
    show (getT key t).bind (getPath []) = _
    cases getT key t <;> rfl
  obtain ⟨o, hoo⟩ : ∃ o, o = getT key t := ⟨_, rfl⟩
  rw [← hoo] at ho ⊢
  have hA := fun v W hv' hp => At_any t hb [key] v W cs hv' hp
  rw [ho] at hA
  clear ho hoo
  have hv0 := hv
  obtain ⟨kind, is, neg, digits, exp, str, ka, kn, kc, sa, sn, sc, rfl⟩ := hv.shape
  clear hv
  simp only [valV] at hA ⊢
  go_enter Tryd.func19, Tryd.ntmps19
  go_wp2_with fail
  have hC : Cells ((w.alloc (.cells #[.int .i64 kind, .bool is, .bool neg, .string digits, .int .i64 exp, .string str, .slice ka kn kc, .slice sa sn sc] 27)).alloc
    (.cells #[.int .i64 0, .bool false, .bool false, .string ⟨#[]⟩, .int .i64 0, .string ⟨#[]⟩, .slice none 0 0, .slice none 0 0] 27)) (w.heap.size + 1) #[.int .i64 0, .bool false, .bool false, .string ⟨#[]⟩, .int .i64 0, .string ⟨#[]⟩, .slice none 0 0, .slice none 0 0] 27 := by
    have := Cells.new (w.alloc (.cells #[.int .i64 kind, .bool is, .bool neg, .string digits, .int .i64 exp, .string str, .slice ka kn kc, .slice sa sn sc] 27)) #[.int .i64 0, .bool false, .bool false, .string ⟨#[]⟩, .int .i64 0, .string ⟨#[]⟩, .slice none 0 0, .slice none 0 0] 27
    simpa using this
  have hB : Below w.heap.size w ((w.alloc (.cells #[.int .i64 kind, .bool is, .bool neg, .string digits, .int .i64 exp, .string str, .slice ka kn kc, .slice sa sn sc] 27)).alloc
    (.cells #[.int .i64 0, .bool false, .bool false, .string ⟨#[]⟩, .int .i64 0, .string ⟨#[]⟩, .slice none 0 0, .slice none 0 0] 27)) := by (repeat' (first | (with_reducible refine Below.setCell ?_ ?_ _) | (with_reducible refine Below.alloc ?_ ?_ _) | (with_reducible refine Below.drew ?_) | (with_reducible assumption) | (with_reducible exact Below.refl _ _) | (simp only [World.size_alloc, World.size_setCell, World.size_drew]; done) | (simp only [World.size_alloc, World.size_setCell, World.size_drew]; omega) | omega))
  have hz : ((w.alloc (.cells #[.int .i64 kind, .bool is, .bool neg, .string digits, .int .i64 exp, .string str, .slice ka kn kc, .slice sa sn sc] 27)).alloc
    (.cells #[.int .i64 0, .bool false, .bool false, .string ⟨#[]⟩, .int .i64 0, .string ⟨#[]⟩, .slice none 0 0, .slice none 0 0] 27)).heap.size = w.heap.size + 2 := by simp
  generalize (w.alloc (.cells #[.int .i64 kind, .bool is, .bool neg, .string digits, .int .i64 exp, .string str, .slice ka kn kc, .slice sa sn sc] 27)).alloc
    (.cells #[.int .i64 0, .bool false, .bool false, .string ⟨#[]⟩, .int .i64 0, .string ⟨#[]⟩, .slice none 0 0, .slice none 0 0] 27) = w1 at *
  have hrow : RowOf Value.string (w1.alloc (.cells #[.string key] 9)) (.slice (some ⟨w.heap.size + 1 + 1, 0, none⟩) 1 1) [key] := by
    have := (OwnOf.lit (f := Value.string) (E := 9) (base := 0) (w := w1) [key] (Nat.zero_le _) (by simp [maxLen])).row
    rw [hz] at this
    exact this
  refine (hA _ _ ((ValAt.below hB _ _ hv0).below_alloc _) hrow).mono ?_
  rintro e w2 ⟨⟨cs2, rfl, hin⟩, hb2⟩
  obtain ⟨dkind, dis, dneg, ddig, dexp, dstr, dka, dkn, dkc, dsa, dsn, dsc, rfl⟩ := hin.shape
  simp only [valV]
  have hs2 := hb2.size
  simp only [World.size_alloc] at hs2
  have hd := (hC.alloc (.cells #[.string key] 9)).below hb2 (by simp; omega)
  have hb3 := (hB.alloc (by omega) (.cells #[.string key] 9)).trans (hb2.mono (by simp; omega))
  have hzd := hd.lt
  have HIN := Lib.hid (ValIn.move (w' := setAll w2 (w.heap.size + 1) 0 [.int .i64 dkind, .bool dis, .bool dneg, .string ddig, .int .i64 dexp, .string dstr, .slice dka dkn dkc, .slice dsa dsn dsc]) (Q := fun m => w.heap.size ≤ m)
    (Nat.le_of_eq (setAll_size _ _ _ _).symm) (fun m (hm : (w1.alloc _).heap.size ≤ m) _ => setAll_other _ _ _ _ m (by simp at hm; omega)) (fun m (hm : (w1.alloc _).heap.size ≤ m) _ => by show w.heap.size ≤ m; simp at hm; omega) _ _ hin)
  have HB3 := Lib.hid (setAll_below (w.heap.size + 1) w.heap.size (by omega) [.int .i64 dkind, .bool dis, .bool dneg, .string ddig, .int .i64 dexp, .string dstr, .slice dka dkn dkc, .slice dsa dsn dsc] 0 _ _ hb3)
  clear hA hC hin hb2 hB hrow hv0
  have hdc0 := hd.cell 0 _ rfl
  have hdf0 := hd.frozen 0
  have hdc1 := hd.cell 1 _ rfl
  have hdf1 := hd.frozen 1
  have hdc2 := hd.cell 2 _ rfl
  have hdf2 := hd.frozen 2
  have hdc3 := hd.cell 3 _ rfl
  have hdf3 := hd.frozen 3
  have hdc4 := hd.cell 4 _ rfl
  have hdf4 := hd.frozen 4
  have hdc5 := hd.cell 5 _ rfl
  have hdf5 := hd.frozen 5
  have hdc6 := hd.cell 6 _ rfl
  have hdf6 := hd.frozen 6
  have hdc7 := hd.cell 7 _ rfl
  have hdf7 := hd.frozen 7
  clear hd
  go_wp2_with fail
  refine bodyPost_ret (v := .tuple #[.agg #[.int .i64 dkind, .bool dis, .bool dneg, .string ddig, .int .i64 dexp, .string dstr, .slice dka dkn dkc, .slice dsa dsn dsc], .bool o.isSome]) (by simp [results, Tryd.results19, go_sem, *]) rfl ?_
  exact ⟨⟨_, rfl, HIN.out⟩, HB3.out⟩
end Go.Proofs.YtpcfhiipkbpmkaaDoor
