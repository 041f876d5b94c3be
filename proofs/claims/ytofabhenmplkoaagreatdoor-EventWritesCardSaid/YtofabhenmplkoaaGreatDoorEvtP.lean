/- Events: what can be applied, and what an instance is after it. -/
import Derived.Test.YtofabhenmplkoaaGreatDoorEvtT
import Derived.Test.YtofabhenmplkoaaGreatDoorBase
import Derived.Test.YtofabhenmplkoaaGreatDoorZ4
namespace Go.Proofs.YtofabhenmplkoaaGreatDoor.evt
open Go.Proofs.YtofabhenmplkoaaGreatDoor.typ Go.Proofs.YtofabhenmplkoaaGreatDoor.ins
set_option linter.unusedVariables false
set_option linter.unusedSimpArgs false

/-! Delays. -/
/-- The delays of an arc with one more. -/
def lateF (l : List Pt) (t n : Int) : Except Int (List Pt) := match l.getLast? with
  | none => .ok [⟨t, n⟩]
  | some p => if t < p.t then .error 2 else if t = p.t then (if 4096 < p.a + n then .error 2 else .ok (l.dropLast ++ [⟨p.t, p.a + n⟩])) else if 16 ≤ l.length then .error 4 else .ok (l ++ [⟨t, n⟩])
def way (a : Arc) (f t : Int) : Bool := a.frm == f && a.to == t
/-- The first k arcs, with one more delay for those from f to t; has there been one? -/
def slwTo (l : List Arc) (f t at_ n : Int) : Nat → Except Int (List Arc × Bool)
  | 0 => .ok ([], false)
  | k + 1 => match slwTo l f t at_ n k with
    | .error e => .error e
    | .ok (r, b) => match l[k]? with
      | none => .ok (r, b)
      | some a => if way a f t then match lateF a.slow at_ n with
          | .error e => .error e
          | .ok s => .ok (r ++ [{ a with slow := s }], true)
        else .ok (r ++ [a], b)
def plB (N : Net) (i : Int) : Bool := decide (0 ≤ i) && decide (i < N.places.length)
def tkB (t : Int) : Bool := decide (0 ≤ t ∧ t ≤ 4096)
/-- Slower. -/
def slwF (N : Net) (f t at_ n : Int) : Except Int Net :=
  if ¬ (plB N f = true ∧ plB N t = true) then .error 11
  else if ¬ (tkB at_ = true ∧ tkB n = true) then .error 2
  else match slwTo N.arcs f t at_ n N.arcs.length with
    | .error e => .error e
    | .ok (r, b) => if b then .ok ⟨N.places, r⟩ else .error 12
theorem slwTo_succ {l : List Arc} {f t at_ n : Int} {k : Nat} {a : Arc} (h : l[k]? = some a) {r : List Arc} {b : Bool} (hk : slwTo l f t at_ n k = .ok (r, b)) :
    slwTo l f t at_ n (k + 1) = if way a f t then (match lateF a.slow at_ n with | .error e => .error e | .ok s => .ok (r ++ [{ a with slow := s }], true)) else .ok (r ++ [a], b) := by
  rw [slwTo, hk, h]
theorem slwTo_err {l : List Arc} {f t at_ n : Int} {k : Nat} {e : Int} (hk : slwTo l f t at_ n k = .error e) : ∀ j, slwTo l f t at_ n (k + j) = .error e
  | 0 => hk
  | j + 1 => by rw [← Nat.add_assoc, slwTo, slwTo_err hk j]
/-! Orders. -/
def stpZ (s : Stp) : Bool := s.place == 0 && (s.opn == 0 && (s.close == 0 && s.service == 0))
def blankB (o : Ord) : Bool := decide (o.name.toList = []) && (((o.load.length : Int) == 0) && (stpZ o.pick && (stpZ o.drop && ((o.skills == 0) && ((o.penalty == 0) && ((o.split == 0) && ((o.last == 0) && ((o.now == 0) && !o.off))))))))
def cleanB (e : Evt) : Bool :=
  if e.kind = 1 then e.a == 0 && (e.b == 0 && e.n == 0) else if e.kind = 3 then blankB e.order else if e.kind = 5 then e.b == 0 && blankB e.order else e.b == 0 && (e.n == 0 && blankB e.order)
/-- What an event's numbers allow. -/
def alwF (now : Int) (e : Evt) : Int :=
  if ¬ tkB e.at_ = true then 2 else if e.at_ < now then 32 else if ¬ (1 ≤ e.kind ∧ e.kind ≤ 5) then 8 else if ¬ cleanB e = true then 2 else 0
def shfB (s : Stp) (n : Int) : Bool := decide (s.place = -1 ∨ (-4096 ≤ n ∧ n ≤ 4096 ∧ 0 ≤ s.opn + n ∧ s.close + n ≤ 4096))
def shfS (s : Stp) (n : Int) : Stp := if s.place = -1 then s else { s with opn := s.opn + n, close := s.close + n }
def shfO (o : Ord) (n : Int) : Ord := { o with pick := shfS o.pick n, drop := shfS o.drop n }
/-- The error of an order that is not there. -/
def thrF (x : Ins) (k : Int) : Int := if k < 0 ∨ (x.orders.length : Int) ≤ k then 7 else match x.orders[k.toNat]? with
  | none => 7
  | some o => if o.off then 9 else 0
/-- What happens: the instance after an event, or an error. -/
def hapF (x : Ins) (e : Evt) : Except Int Ins :=
  if e.kind = 1 then (if e.order.off then .error 9 else if (addR x e.order).2 = 0 then .ok (addR x e.order).1 else .error (addR x e.order).2)
  else if e.kind = 3 then (if ¬ (1 ≤ e.n ∧ e.n ≤ 4096) then .error 2 else match slwF x.net e.a e.b e.at_ e.n with
    | .error k => .error k
    | .ok N => .ok { x with net := N })
  else if e.kind = 4 then (if e.a < 0 ∨ (x.types.length : Int) ≤ e.a then .error 7 else match x.types[e.a.toNat]? with
    | none => .error 7
    | some t => if t.count = 0 then .error 22 else .ok { x with types := x.types.set e.a.toNat { t with count := t.count - 1 } })
  else if ¬ thrF x e.a = 0 then .error (thrF x e.a) else match x.orders[e.a.toNat]? with
    | none => .error 7
    | some o => if e.kind = 2 then .ok { x with orders := x.orders.set e.a.toNat { o with off := true } }
      else if shfB o.pick e.n && shfB o.drop e.n then .ok { x with orders := x.orders.set e.a.toNat (shfO o e.n) } else .error 2
/-- Check: the error of an event. -/
def chkF (x : Ins) (now : Int) (e : Evt) : Int := if ¬ alwF now e = 0 then alwF now e else match hapF x e with
  | .error k => k
  | .ok _ => 0
end Go.Proofs.YtofabhenmplkoaaGreatDoor.evt
