import Derived.Test.YtbcdaaobbebooaaGreatDoorRows
import Derived.Test.YtbcdaaobbebooaaGreatDoorMga
import Derived.Deep.Slices
import Derived.SliceStrings
import Derived.ChangeArms
namespace Go.Proofs.YtbcdaaobbebooaaGreatDoor
set_option linter.unusedVariables false
open Go.RowKit Go.Tab Go.ChangeShapes
theorem Tryz.strK:Tryz.prog.cellsOf 9=1:=by kernel_rfl
def ksBulk:List ByteArray→Nat
  | [] => 0
  | k :: r => k.size + 1 + ksBulk r
section
variable {H:Type} {enc:TypeId × Value→H} {W:World} {base:Nat} {spare:Nat→Bool} {held:Bool}
theorem kb (l:List ByteArray):ksBulk l<=Rows.uptoBulkAll (l.map fun s => (DataW.lit (.string s.data.toList):DataW H)):=by
  induction l with
  | nil => simp [ksBulk]
  | cons k r ih =>
    simp only [ksBulk,List.map_cons,Rows.uptoBulkAll,Rows.uptoBulk]
    have:k.size=k.data.toList.length:=rfl
    omega
theorem strs_open {n:Nat} {c:Value} {x:DataW H × List MemPlace} (e4:DataW.trod enc Tryz.prog W base spare held n 34 [c]=some x) :
    ∃ keys,RowOf Value.string W c keys∧ksBulk keys<=Rows.uptoBulk x.1:=by
  rcases open_strings Tryz.underlying34 Tryz.underlying9 Tryz.strK e4 with ⟨h1,h2⟩ | ⟨a,ln,cp,ss,h1,hb,hl,hm,hS,hx,hC,hsz⟩
  · simp at h1
    subst h1
    exact ⟨[],RowOf.nil,by simp [ksBulk]⟩
  · simp at h1
    subst h1
    have hln:ln<=ss.length:=by rw [hS]; split <;> omega
    have htl:(ss.take ln).length=ln:=by rw [List.length_take]; omega
    refine ⟨ss.take ln,⟨some a,cp,by rw [htl],by rw [htl]; exact hl,hm,(fun h => by cases h),fun y hy hne => ?_⟩,?_⟩
    · cases hy
      have h0:0 < ss.length:=by
        rcases Nat.eq_zero_or_pos ss.length with h | h
        · rw [List.eq_nil_of_length_eq_zero h] at hne; simp at hne
        · exact h
      have hc0:=hC 0 h0
      obtain ⟨bb,off,sp⟩:=a
      have hsp:sp=none:=by simpa [Addr.add] using World.cell?_spot hc0
      subst hsp
      refine ⟨rfl,World.block_lt_of_cell? W _ hc0,fun j hj => ?_⟩
      rw [htl] at hj
      have:=hC j (by omega)
      rw [Addr.add_lit] at this
      rw [this,List.getD_eq_getElem?_getD,List.getElem?_eq_getElem (by omega)]
      simp
    · rw [hx]
      have:=kb (H:=H) (ss.take ln)
      simp only [Rows.uptoBulk,strs]
      omega
end
end Go.Proofs.YtbcdaaobbebooaaGreatDoor
