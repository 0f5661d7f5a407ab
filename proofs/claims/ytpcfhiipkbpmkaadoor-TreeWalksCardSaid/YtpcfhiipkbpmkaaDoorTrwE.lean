/- What Walk hands back is an iterator that keeps its word (layer 8). -/
import Derived.Test.YtpcfhiipkbpmkaaDoorTrwD
namespace Go.Proofs.YtpcfhiipkbpmkaaDoor
open Go.RowKit Go.Tab Go.Shelf

theorem grown_none {w w' : World} (h : Below w.heap.size w w') : w.grownBy w' none := ⟨h.os, h.tape, h.output, h.size, fun k hk _ => h.block k hk⟩
theorem walk_good (n X b1 b2 : Nat) (P : Nat → Prop) (hP : ∀ k, P k → k ≠ b1 ∧ k ≠ b2) (t : Tree) (hb : t.bulk ≤ 1048576) (cs : List Value) (w : World) (hbs : b1 < w.heap.size ∧ b2 < w.heap.size) (hX : Cells w X cs.toArray 27) (hv : ValIn P w t cs) :
    SeqGood Fence.wide n Tryd.prog 48 #[.pointer (some ⟨X, 0, none⟩)] encT (KpW b1 b2) (fun (x : Tx) W => ValAt W x.2.1 x.2.2) (fun xs => xs.map keyT = spots 0 t) (fun xs => xs.map keyT <+: spots 0 t) (spots 0 t).length w := fun l J Jx W hW aJ _ hY h0 =>
  (Walk1_in l X b1 b2 n P hP J Jx (fun s A B hs hbl => aJ s A B none hs (grown_none hbl) (fun r e => by cases e)) t hb (fun pre x W1 hj hg hl => hY pre x W1 hj hg hl) W cs
    ⟨Nat.lt_of_lt_of_le hbs.1 hW.size, Nat.lt_of_lt_of_le hbs.2 hW.size⟩ (hX.below hW hX.lt) (ValIn.below hW _ _ hv) h0).mono fun e W' ⟨h1, h2⟩ =>
    ⟨h1, h2.elim (fun ⟨xs, q1, q2⟩ => .inl ⟨xs, q1, q2⟩) (fun ⟨xs, q1, q2⟩ => .inr ⟨xs, q1, q2⟩)⟩
end Go.Proofs.YtpcfhiipkbpmkaaDoor
