/- Plain: the line of an event. -/
import Derived.Test.YtofabhenmplkoaaGreatDoorEvtB
import Derived.Test.YtofabhenmplkoaaGreatDoorStrF
namespace Go.Proofs.YtofabhenmplkoaaGreatDoor.evt
open Go Go.RowKit
open Go.Proofs.YtofabhenmplkoaaGreatDoor.typ Go.Proofs.YtofabhenmplkoaaGreatDoor.txt
set_option linter.unusedVariables false
set_option linter.unusedSimpArgs false

def stpN (s : Stp) : List Int := [s.place, s.opn, s.close, s.service]
/-- The numbers of a line without its order. -/
def numsF (e : Evt) : List Int := e.at_ :: (if e.kind = 3 then [e.a, e.b, e.n] else if e.kind = 5 then [e.a, e.n] else if e.kind = 4 ∨ e.kind = 2 then [e.a] else [])
/-- The numbers of an order behind its name. -/
def ordN (o : Ord) : List Int := (o.load.length : Int) :: (o.load ++ (stpN o.pick ++ (stpN o.drop ++ [o.skills, o.penalty, o.split, o.last, o.now])))
/-- The parts of a line. -/
def partsF (e : Evt) : List By := (wordS e.kind).data.toList :: ((numsF e).map Lib.itoa ++ (if e.kind = 1 then e.order.name.data.toList :: (ordN e.order).map Lib.itoa else []))
/-- The error of Print. -/
def prtE (e : Evt) : Int := if ¬ (1 ≤ e.kind ∧ e.kind ≤ 5) then 8 else if ¬ cleanB e = true then 2 else if e.kind = 1 then (if e.order.off then 9 else if ¬ nameB e.order.name = true then 5 else if 3 < e.order.load.length then 4 else 0) else 0
/-- The text of Print. -/
def prtS (e : Evt) : By := if prtE e = 0 then joinS (partsF e) else []
/-- An event's numbers are ints, and so are its loads. -/
def Evt64 (e : Evt) : Prop := EvtFits e ∧ ∀ x ∈ e.order.load, in64 x
theorem nums64 {e : Evt} (h : EvtFits e) : ∀ x ∈ numsF e, in64 x := by
  obtain ⟨h0, h1, h2, h3, h4, _⟩ := h
  intro x hx
  unfold numsF at hx
  unfold in64
  rw [List.mem_cons] at hx
  rcases hx with rfl | hx
  · exact h0
  split at hx
  · simp at hx; rcases hx with rfl | rfl | rfl <;> assumption
  split at hx
  · simp at hx; rcases hx with rfl | rfl <;> assumption
  split at hx
  · simp at hx; subst hx; assumption
  · cases hx
theorem ord64 {o : Ord} (h : OrdFits o) (hl : ∀ x ∈ o.load, in64 x) (hn : o.load.length ≤ 1000000) : ∀ x ∈ ordN o, in64 x := by
  obtain ⟨_, ⟨p0, p1, p2, p3⟩, ⟨d0, d1, d2, d3⟩, h1, h2, h3, h4, h5⟩ := h
  intro x hx
  unfold ordN stpN at hx
  rw [List.mem_cons, List.mem_append, List.mem_append, List.mem_append] at hx
  unfold in64
  rcases hx with rfl | hx | hx | hx | hx
  · omega
  · exact hl x hx
  · simp at hx; rcases hx with rfl | rfl | rfl | rfl <;> assumption
  · simp at hx; rcases hx with rfl | rfl | rfl | rfl <;> assumption
  · simp at hx; rcases hx with rfl | rfl | rfl | rfl | rfl <;> assumption
end Go.Proofs.YtofabhenmplkoaaGreatDoor.evt
