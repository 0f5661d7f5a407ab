/- The walks of layer 2's Put and of the reference's Put. -/
import Derived.Test.YtpcfhiipkbpmkaaDoorUtfC
import Derived.Laws.IdiomStrings
namespace Go.Proofs.YtpcfhiipkbpmkaaDoor
open Go.RowKit Go.Tab

def strOf (l : List UInt8) : ByteArray := ⟨l.toArray⟩
theorem or_join (k m x : Nat) (hx : x < 2 ^ k) (hm : 2 ^ k * m < 256) (hx2 : x < 256) : bits .or .i64 ((2 ^ k * m : Nat) : Int) (x : Int) = ((2 ^ k * m + x : Nat) : Int) := by
  have := i64_or_nat (2 ^ k * m) x (by omega) (by omega)
  rw [← Nat.two_pow_add_eq_or_of_lt hx m] at this
  exact this
theorem or128 (x : Nat) (h : x < 64) : bits .or .i64 128 (x : Int) = ((128 + x : Nat) : Int) := or_join 6 2 x h (by decide) (by omega)
theorem or192 (x : Nat) (h : x < 64) : bits .or .i64 192 (x : Int) = ((192 + x : Nat) : Int) := or_join 6 3 x h (by decide) (by omega)
theorem or224 (x : Nat) (h : x < 32) : bits .or .i64 224 (x : Int) = ((224 + x : Nat) : Int) := or_join 5 7 x h (by decide) (by omega)
theorem or240 (x : Nat) (h : x < 16) : bits .or .i64 240 (x : Int) = ((240 + x : Nat) : Int) := or_join 4 15 x h (by decide) (by omega)

theorem Tryd.underS : Tryd.prog.underlying 9 = some .string := by kernel_rfl
theorem Tryd.underI : Tryd.prog.underlying 3 = some (.int .i64) := by kernel_rfl
theorem conv_back (w : World) (l : List UInt8) (cs : Array Value) (n : Nat) (m : List UInt8) (hm : m = l) (h : cs = (l.map byteV).toArray) (hn : n = l.length) :
    (convert 86 9 (.slice (some ⟨w.heap.size, 0, none⟩) n n)).run Tryd.prog (w.alloc (.cells cs 5)) = .ok (.string (strOf m)) (w.alloc (.cells cs 5)) := by
  subst hm h hn
  refine run_convert_bytes_back (P := Tryd.prog) _ _ _ 5 _ m.length m Tryd.underlying86 Tryd.underlying5 Tryd.underS fun j hj => ?_
  rw [Addr.add_lit, World.cell?_alloc_new]
  simp [hj]

end Go.Proofs.YtpcfhiipkbpmkaaDoor
