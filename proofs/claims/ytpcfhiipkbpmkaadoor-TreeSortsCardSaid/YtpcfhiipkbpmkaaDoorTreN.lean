/- The walk of areKeys (layer 8): a set of the texts that have come. -/
import Derived.Test.YtpcfhiipkbpmkaaDoorTreK
import Derived.Test.YtpcfhiipkbpmkaaDoorUtfC
import Derived.Maps.Own
import Derived.Maps.Views
import Derived.Maps.StringElems
namespace Go.Proofs.YtpcfhiipkbpmkaaDoor
open Go.RowKit Go.Tab Go.Maps Go.WideMaps

/-- A text whose bytes are a text's. -/
def validS (s : ByteArray) : Prop := (scan (bs s) 0).2.isNone = true
def keysR (l : List ByteArray) : Prop := (∀ x ∈ l, validS x) ∧ l.Nodup
/-- The set is that of these texts. -/
def SetAt (D : DataW Unit) (l : List ByteArray) : Prop := IsMap D ∧ ∀ key : ByteArray, ∃ b : Bool, D.atKey (.string key.data.toList) (.lit (.bool false)) = .lit (.bool b) ∧ (b = true ↔ key ∈ l)
theorem lit_ne {a b : ByteArray} (h : a ≠ b) : (Lit.string a.data.toList) ≠ .string b.data.toList := by
  intro e
  injection e with e
  exact h (ByteArray.ext (Array.ext' e))
theorem SetAt.none : SetAt (.map []) [] := ⟨⟨_, rfl⟩, fun key => ⟨false, rfl, by simp⟩⟩
theorem SetAt.put {D : DataW Unit} {l : List ByteArray} (h : SetAt D l) (x : ByteArray) : SetAt (D.put (.string x.data.toList) (.lit (.bool true))) (l ++ [x]) := by
  refine ⟨h.1.put _ _, fun key => ?_⟩
  by_cases hk : key = x
  · subst hk
    rw [atKey_put_same h.1 (k := .string key.data.toList) trivial]
    exact ⟨true, rfl, by simp⟩
  · rw [atKey_put_other (lit_ne hk)]
    obtain ⟨b, h1, h2⟩ := h.2 key
    exact ⟨b, h1, by rw [h2]; simp [hk]⟩
theorem plainElem_bool_inv {P : Program} {e : TypeId} (he : P.underlying e = some .bool) {v : Value} {z : DataW Unit × List MemPlace} (h : plainElem P e v = some z) : ∃ b, v = .bool b ∧ z = (.lit (.bool b), []) := by
  unfold plainElem at h
  rw [he] at h
  cases v <;> simp at h
  exact ⟨_, rfl, h.symm⟩
theorem run_makeMap_hint {P : Program} {t k e : TypeId} (ht : P.underlying t = some (.map k e)) (n : Int) (w : World) : (Instr.makeMap t (some (.int .i64 n))).run P w = .ok (.map (some w.heap.size)) (w.alloc (.map #[] 0)) := by
  simp [Instr.makeMap, run_underlying ht, asInt, asIntOf, Result.andThen]
theorem keyedS : Keyed Tryd.prog 9 := string_keyed Tryd.underlying9
theorem nodup_snoc {l : List ByteArray} {x : ByteArray} : (l ++ [x]).Nodup ↔ l.Nodup ∧ x ∉ l := by
  rw [List.nodup_append]
  constructor
  · intro ⟨h1, _, h3⟩
    exact ⟨h1, fun hx => h3 x hx x (by simp) rfl⟩
  · intro ⟨h1, h2⟩
    refine ⟨h1, by simp, fun a ha b hb => ?_⟩
    simp at hb
    subst hb
    intro e
    subst e
    exact h2 ha
theorem keysR_take {l : List ByteArray} (h : keysR l) (k : Nat) : keysR (l.take k) := ⟨fun x hx => h.1 x (List.mem_of_mem_take hx), h.2.sublist (List.take_sublist _ _)⟩
theorem keysR_snoc {l : List ByteArray} {x : ByteArray} : keysR (l ++ [x]) ↔ keysR l ∧ validS x ∧ x ∉ l := by
  unfold keysR
  rw [nodup_snoc]
  constructor
  · intro ⟨h1, h2, h3⟩
    exact ⟨⟨fun y hy => h1 y (by simp [hy]), h2⟩, h1 x (by simp), h3⟩
  · intro ⟨⟨h1, h2⟩, h3, h4⟩
    refine ⟨fun y hy => ?_, h2, h4⟩
    rcases List.mem_append.1 hy with h | h
    · exact h1 y h
    · simp at h; subst h; exact h3

set_option maxHeartbeats 4000000 in
set_option maxRecDepth 100000 in
theorem areKeys_any (v : Value) (l : List ByteArray) (w : World) (hT : Tab w) (hv : RowOf Value.string w v l) (hs : ∀ x ∈ l, x.size ≤ 1048576) (hll : l.length ≤ 1048576) :
    Calls Tryd.prog 110 #[v] w (SameP (keysR l) w) := by
  obtain ⟨xa, ca, rfl, hla, hca, -⟩ := hv.len
  unfold maxLen at hca
  obtain ⟨p, hp⟩ : ∃ p, p = keysR l := ⟨_, rfl⟩
  rw [← hp]
  have HP : Hid (p = keysR l) := Lib.hid hp
  clear hp
  have hmm := fun n w => run_makeMap_hint (P := Tryd.prog) Tryd.underlying148 n w
  go_enter Tryd.func110, Tryd.ntmps110
  go_wp2_with fail
  go_loopw [11] (fun i wr => ∃ k : Nat, k ≤ l.length ∧ i = .int .i64 (k : Int) ∧ (∃ D, wr.ownsMap Tryd.prog 9 (plainElem Tryd.prog 4) w.heap.size k D ∧ SetAt D (l.take k)) ∧ keysR (l.take k) ∧ Below w.heap.size w wr) (fun i _ => l.length - (intOf i).toNat)
  case atStart => exact ⟨0, Nat.zero_le _, rfl, ⟨_, World.ownsMap_made _ _ _ _, by simpa using SetAt.none⟩, ⟨by simp, by simp⟩, (Below.refl _ _).alloc (Nat.le_refl _) _⟩
  case round =>
    clear hmm
    obtain ⟨k, hk, rfl, ⟨D, hown, hset⟩, hR, hbl⟩ := hrel
    have hv1 := hv.below hbl (Nat.le_refl _)
    have HR := Lib.hid hR
    have HS := Lib.hid hset
    clear hR hset
    by_cases hkl : k < l.length
    · obtain ⟨ba, oa, rfl, hlta, hcella⟩ := hv1.at hkl
      have hcka := hcella k hkl
      have hsz := hs l[k] (List.getElem_mem hkl)
      have HTK : Hid (l.take (k + 1) = l.take k ++ [l[k]]) := Lib.hid (take_snoc' l k hkl)
      clear hcella
      have hV := Valid_any l[k] wr (hT.below hbl hT.pos) hsz
      generalize l[k] = key at *
      have hkey : keyOf Tryd.prog 9 (.string key) = some (.string key.data.toList) := keyOf_string_mk Tryd.underlying9 (by unfold maxLen; omega)
      obtain ⟨u, ps, hlook, hel⟩ := hown.lookup (t := 148) keyedS Tryd.underlying148 (z := .bool false) (zd := .lit (.bool false)) (zp := []) (by rfl) (plainElem_bool Tryd.underlying4 false) hkey
      obtain ⟨b, rfl, hb⟩ := plainElem_bool_inv Tryd.underlying4 hel
      obtain ⟨b', hb1, hb2⟩ := HS.out.2 key
      obtain rfl : b' = b := by
        have : (DataW.lit (.bool b') : DataW Unit) = .lit (.bool b) := by rw [← hb1]; exact (congrArg Prod.fst hb)
        injection this with this
        injection this
      have HB := Lib.hid hb2
      clear hb hel hb1 hb2
      cases b'
      · have HN : Hid (key ∉ l.take k) := Lib.hid (fun h => by have := HB.out.2 h; cases this)
        obtain ⟨c, hc⟩ : ∃ c, c = (scan (bs key) 0).2.isNone := ⟨_, rfl⟩
        rw [← hc] at hV
        have HC : Hid (c = (scan (bs key) 0).2.isNone) := Lib.hid hc
        clear hc
        go_wp2_with fail
        refine hV.mono ?_
        rintro e w3 ⟨rfl, rfl⟩
        clear hV
        cases c
        · have HF : Hid (¬ keysR l) := Lib.hid (fun h => by
            have h1 := (keysR_snoc.1 (HTK.out ▸ keysR_take h (k + 1))).2.1
            unfold validS at h1
            rw [← HC.out] at h1
            cases h1)
          clear hown hlook HTK HC HN HR HS
          go_wp2_with fail
          go_ret
          exact ⟨⟨false, rfl, no_iff (by rw [HP.out]; exact HF.out)⟩, hbl⟩
        · have HR2 : Hid (keysR (l.take (k + 1))) := Lib.hid (by rw [HTK.out, keysR_snoc]; exact ⟨HR.out, HC.out.symm, HN.out⟩)
          clear HC HN HR
          go_wp2_with (at_mapUpdate; refine wpList_mapUpdate_own _ rfl _ _ _ 148 rfl 9 4 keyedS Tryd.underlying148 (plainElem (H := Unit) Tryd.prog 4) w.heap.size k _ rfl hown (by unfold maxLen; omega) _ _ _ rfl rfl hkey _ [] (plainElem_bool Tryd.underlying4 true) ?_; intro w1 hown1 hgrow1)
          go_roundw
          case rel => exact ⟨k + 1, by omega, by go_num, ⟨_, hown1, by rw [HTK.out]; exact HS.out.put key⟩, HR2.out, hbl.grown hgrow1 hbl.size (fun j hj => by cases hj; exact Nat.le_refl _)⟩
          case measure => simp [intOf]; omega
      · have HF : Hid (¬ keysR l) := Lib.hid (fun h => by
          have h1 := (keysR_snoc.1 (HTK.out ▸ keysR_take h (k + 1))).2.2
          exact h1 (HB.out.1 rfl))
        clear HTK HR HS hV HB
        go_wp2_with fail
        go_ret
        exact ⟨⟨false, rfl, no_iff (by rw [HP.out]; exact HF.out)⟩, hbl⟩
    · obtain rfl : k = l.length := by omega
      have HR2 : Hid (keysR l) := Lib.hid (by have := HR.out; rwa [List.take_length] at this)
      clear HR HS hown
      go_wp2_with fail
      go_ret
      exact ⟨⟨true, rfl, yes_iff (by rw [HP.out]; exact HR2.out)⟩, hbl⟩
end Go.Proofs.YtpcfhiipkbpmkaaDoor
