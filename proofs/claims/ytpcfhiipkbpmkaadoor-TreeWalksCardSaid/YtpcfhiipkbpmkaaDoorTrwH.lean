/- A region that draws its order within a round of a range, whose calls make memory of their own and hand back one value. -/
import Derived.Test.YtpcfhiipkbpmkaaDoorTreU
import Derived.Sort.QuietThIn
import Derived.Sort.QuietIn
namespace Go.Proofs.YtpcfhiipkbpmkaaDoor
open Go.RowKit Go.Tab Go.Shelf

section
variable {F : Fence} {n : Nat} {P : Program} {ops : Array Oper} {C : World → Prop} {md : Region.Mode}
/-- No deferred call. -/
def plainOp (o : Oper) : Bool := match o.op with | .defer _ => false | _ => true
theorem plainOp.ne {o : Oper} (h : plainOp o = true) : ∀ c, o.op ≠ .defer c := fun c e => by simp [plainOp, e] at h

theorem quiet_op {o : Oper} {a : Act} {K : Act → Prop} {K' : Act → World → Prop} {Q' : Exit → Act → World → Prop} {w : World} (hd : plainOp o = true) (hw : C w) (h : ∀ a w', C w' → K a → K' a w')
    (ha : o.askedIn F P a C) (hh : o.quietIn F n P a C K) : o.wpIn F n P a w K' Q' := by
  obtain ⟨v, h1, h2⟩ := hh
  have h3 := h1 w hw
  unfold Oper.quietAtIn at h3
  unfold Oper.wpIn
  refine ⟨ha w hw, ?_⟩
  rw [Oper.semAt_eq _ _ _ (plainOp.ne hd)]
  generalize (execOp a.eval o).run P w = r at *
  cases r with
  | halt x w' => simp only [Oper.quietUponIn] at h3
  | ok x w' =>
    cases x <;> simp only [Oper.quietUponIn] at h3 <;> simp only [Oper.uponIn]
    case value u => obtain ⟨rfl, rfl⟩ := h3; exact h _ _ hw h2
    case skip => obtain ⟨rfl, rfl⟩ := h3; exact h _ _ hw h2
    case enter f args =>
      obtain ⟨rfl, hdp, hc⟩ := h3
      exact ⟨hdp, hc.mono fun e w'' ⟨he, hw''⟩ => by subst he; exact h _ _ hw'' h2⟩
theorem quiet_at {i : Nat} {a : Act} {K : Act → Prop} {K' : Act → World → Prop} {Q' : Exit → Act → World → Prop} {w : World} (hd : ∀ o ∈ ops.toList, plainOp o = true) (hC : C w) (h : ∀ a w', C w' → K a → K' a w')
    (hh : qOpIn F n P ops C i K a) : wpOpIn F n P ops Q' i K' a w := by
  unfold qOpIn at hh
  unfold wpOpIn
  split
  · rename_i ho; simp only [ho] at hh; exact h _ _ hC hh
  · rename_i o ho
    simp only [ho] at hh
    obtain ⟨ha, hh⟩ := hh
    have hdo := hd o (by rw [Array.mem_toList_iff]; exact Array.mem_of_getElem? ho)
    split
    · rename_i hw; simp only [hw, if_true] at hh; exact quiet_op hdo hC h ha hh
    · rename_i hw; simp only [hw] at hh; exact ⟨ha w hC, h _ _ hC hh⟩
theorem quiet_any {Q : Act → Prop} {Q' : Exit → Act → World → Prop} (hd : ∀ o ∈ ops.toList, plainOp o = true) (hQ : ∀ a w, C w → Q a → Q' .normal a w) : ∀ (fuel : Nat) (listed : Array Bool) (a : Act) (w : World), C w →
    wpAnyQIn F n P md ops C Q fuel listed a → wpAnyIn F n P md ops Q' fuel listed a w
  | 0, _, _, _, hw, h => ⟨h.1, hQ _ _ hw h.2⟩
  | fuel + 1, _, _, _, hw, h => ⟨fun h0 => hQ _ _ hw (h.1 h0), fun i hi => quiet_at hd hw (fun a' w' hw' => quiet_any hd hQ fuel _ a' w' hw') (h.2 i hi)⟩

/-- As wp_region_under, within a fence, in a round too. -/
theorem wpIn_region_under {id : Nat} {l : List Oper} {Q : Exit → Act → World → Prop} {a : Act} {w : World} (w0 : World) (hm : P.follows .mixedOrders = true) (hB : Region.lexB .any l.toArray = true) (hd : l.all plainOp = true)
    (hw : Below w0.heap.size w0 w)
    (h : wpQuietIn F n P l.toArray (fun w' => ∃ x : Under w0, w' = x.w) (fun a' => ∀ w', (∃ x : Under w0, w' = x.w) → Q .normal a' w') l a) : (Code.region id l.toArray true).wpIn F n P Q a w := by
  simp only [Region.lexB, Bool.and_eq_true] at hB
  refine wpIn_region_any hm (quiet_any (Q := fun a' => ∀ w', (∃ x : Under w0, w' = x.w) → Q .normal a' w') (C := fun w' => ∃ x : Under w0, w' = x.w) (by simpa using List.all_eq_true.1 hd) (fun _ w' hw' h => h w' hw') _ _ _ _ ⟨⟨_, hw.drew⟩, rfl⟩ ?_)
  have := wpAnyQIn_lex (F := F) (n := n) (C := fun w' => ∃ x : Under w0, w' = x.w) (md := .any) hB.1 l 0 (Array.replicate l.toArray.size false) a (by simp) (by simpa using hB.2) h
  simpa using this
end
/-- A callee's contract in a world of the class, in a round. -/
theorem Under.callIn {P : Program} {f : FuncId} {args : Array Value} {w0 : World} {v : Value} {l n : Nat} (x : Under w0)
    (h : Calls P f args x.w fun e w' => e = .returned v ∧ Below x.w.heap.size x.w w') : CallsIn (Fence.wide.inRound l) n P f args x.w fun e w' => e = .returned v ∧ ∃ y : Under w0, w' = y.w :=
  (CallsIn.inRound l (callsIn_wide.2 h)).mono fun _ w' ⟨he, hb⟩ => ⟨he, ⟨w', x.below.trans (hb.mono x.below.size)⟩, rfl⟩
end Go.Proofs.YtpcfhiipkbpmkaaDoor
