import Derived.Test.YthcmopgdjibojaaGreatDoorBase
/- Arrivals of travel functions, in plain Lean. -/
namespace Go.Proofs.YthcmopgdjibojaaGreatDoor.aim
open Go Go.RowKit
open Go.Proofs.YthcmopgdjibojaaGreatDoor.typ
set_option linter.unusedVariables false
set_option linter.unusedSimpArgs false

/-- A right travel function. -/
structure GoodT (l : List Pt) : Prop where
  ne : l ≠ []
  len : l.length ≤ 16
  box : ∀ p ∈ l, 0 ≤ p.t ∧ p.t ≤ 4096 ∧ p.t ≤ p.a ∧ p.a ≤ p.t + 4096
  asc : ∀ (j : Nat) p q, l[j]? = some p → l[j + 1]? = some q → p.t < q.t ∧ p.a ≤ q.a
theorem GoodT.lt {l : List Pt} (h : GoodT l) : ∀ (d i : Nat) p q, l[i]? = some p → l[i + 1 + d]? = some q → p.t < q.t ∧ p.a ≤ q.a
  | 0, i, p, q, hp, hq => h.asc i p q hp hq
  | d + 1, i, p, q, hp, hq => by
    have hlen := (List.getElem?_eq_some_iff.1 hq).1
    obtain ⟨m, hm⟩ : ∃ m, l[i + 1 + d]? = some m := ⟨_, List.getElem?_eq_getElem (by omega)⟩
    have h1 := h.lt d i p m hp hm
    have h2 := h.asc (i + 1 + d) m q hm hq
    omega
theorem GoodT.lt' {l : List Pt} (h : GoodT l) {i j : Nat} {p q : Pt} (hij : i < j) (hp : l[i]? = some p) (hq : l[j]? = some q) : p.t < q.t ∧ p.a ≤ q.a :=
  h.lt (j - i - 1) i p q hp (by rw [show i + 1 + (j - i - 1) = j by omega]; exact hq)
/-- How many points come before a tick. -/
def cntF (l : List Pt) (t : Int) : Nat := (l.takeWhile fun p => decide (p.t < t)).length
theorem cnt_le (l : List Pt) (t : Int) : cntF l t ≤ l.length := (List.takeWhile_prefix _).length_le
theorem tw_mem {X : Type} {f : X → Bool} : ∀ {l : List X} {x : X}, x ∈ l.takeWhile f → f x = true
  | a :: l, x, h => by
    rw [List.takeWhile_cons] at h
    split at h
    · rename_i ha
      rcases List.mem_cons.1 h with rfl | h
      · exact ha
      · exact tw_mem h
    · cases h
theorem cnt_lt {l : List Pt} {t : Int} {q : Nat} {p : Pt} (hq : q < cntF l t) (hp : l[q]? = some p) : p.t < t := by
  have h1 : (l.takeWhile fun p => decide (p.t < t))[q]? = some p := by
    obtain ⟨r, hr⟩ := List.takeWhile_prefix (l := l) (fun p => decide (p.t < t))
    rw [← hr, List.getElem?_append_left hq] at hp
    exact hp
  have h2 := List.mem_of_getElem? h1
  exact of_decide_eq_true (tw_mem (f := fun p : Pt => decide (p.t < t)) h2)
theorem cnt_ge : ∀ {l : List Pt} {t : Int} {p : Pt}, l[cntF l t]? = some p → t ≤ p.t
  | [], t, p, h => by simp at h
  | a :: l, t, p, h => by
    by_cases ha : a.t < t
    · have e : cntF (a :: l) t = cntF l t + 1 := by unfold cntF; rw [List.takeWhile_cons, decide_eq_true ha]; rfl
      rw [e, List.getElem?_cons_succ] at h
      exact cnt_ge h
    · have e : cntF (a :: l) t = 0 := by unfold cntF; rw [List.takeWhile_cons, decide_eq_false ha]; rfl
      rw [e] at h
      simp at h
      subst h
      omega
def mixF (p q : Pt) (t : Int) : Int := p.a + Int.tdiv ((t - p.t) * (q.a - p.a) + (q.t - p.t) - 1) (q.t - p.t)
/-- The arrival for a departure. -/
def arrP (l : List Pt) (t : Int) : Int := match l[cntF l t]?, l[cntF l t - 1]? with
  | some q, p => if q.t = t then q.a else if cntF l t = 0 then t + q.a - q.t else match p with
    | some p => mixF p q t
    | none => 0
  | none, some p => t + p.a - p.t
  | none, none => 0
theorem arr_hit {l : List Pt} {t : Int} {q : Pt} (hq : l[cntF l t]? = some q) (h : q.t = t) : arrP l t = q.a := by
  unfold arrP; rw [hq]; simp [h]
theorem arr_first {l : List Pt} {t : Int} {q : Pt} (hq : l[cntF l t]? = some q) (h0 : cntF l t = 0) : arrP l t = t + q.a - q.t := by
  unfold arrP
  rw [hq]
  simp only [h0, if_pos]
  split
  · omega
  · rfl
theorem arr_mix {l : List Pt} {t : Int} {p q : Pt} (hq : l[cntF l t]? = some q) (h : q.t ≠ t) (h0 : cntF l t ≠ 0) (hp : l[cntF l t - 1]? = some p) : arrP l t = mixF p q t := by
  unfold arrP
  rw [hq, hp]
  simp [h, h0]
theorem arr_last {l : List Pt} {t : Int} {p : Pt} (hq : l.length ≤ cntF l t) (hp : l[cntF l t - 1]? = some p) : arrP l t = t + p.a - p.t := by
  unfold arrP
  rw [List.getElem?_eq_none hq, hp]
theorem mul_mono {a b c d : Int} (h0 : 0 ≤ a) (h1 : a ≤ b) (h2 : 0 ≤ c) (h3 : c ≤ d) : a * c ≤ b * d := Int.mul_le_mul h1 h3 h2 (by omega)
/-- Between two points. -/
theorem mix_ge {p q : Pt} {t : Int} (hp : p.t ≤ p.a) (hq : q.t ≤ q.a) (h1 : p.t ≤ t) (h2 : t < q.t) (ha : p.a ≤ q.a) : t ≤ mixF p q t ∧ mixF p q t ≤ q.a ∧ 0 ≤ (t - p.t) * (q.a - p.a) := by
  unfold mixF
  obtain ⟨u, hu⟩ : ∃ u, t - p.t = u := ⟨_, rfl⟩
  obtain ⟨W, hW⟩ : ∃ W, q.t - p.t = W := ⟨_, rfl⟩
  obtain ⟨D, hD⟩ : ∃ D, q.a - p.a = D := ⟨_, rfl⟩
  rw [hu, hW, hD]
  have hu0 : 0 ≤ u := by omega
  have hD0 : 0 ≤ D := by omega
  have hWu : u < W := by omega
  have hm : 0 ≤ u * D := Int.mul_nonneg hu0 hD0
  have hn : 0 ≤ u * D + W - 1 := by omega
  rw [Int.tdiv_eq_ediv_of_nonneg hn]
  have hW0 : (0 : Int) < W := by omega
  refine ⟨?_, ?_, hm⟩
  · have hk : t - p.a ≤ (u * D + W - 1) / W := by
      rw [Int.le_ediv_iff_mul_le hW0]
      have e1 : (u * D : Int) ≥ (t - p.a) * W := by
        by_cases hneg : t - p.a ≤ 0
        · have := Int.mul_nonneg (show (0 : Int) ≤ -(t - p.a) by omega) (show (0 : Int) ≤ W by omega)
          rw [Int.neg_mul] at this
          omega
        · have e2 : t - p.a = u - (p.a - p.t) := by omega
          have e3 : W - (p.a - p.t) ≤ D := by omega
          have hy : 0 ≤ p.a - p.t := by omega
          obtain ⟨y, hye⟩ : ∃ y, p.a - p.t = y := ⟨_, rfl⟩
          rw [hye] at e2 e3 hy
          rw [e2]
          have h4 : u * (W - y) ≤ u * D := Int.mul_le_mul_of_nonneg_left e3 hu0
          rw [Int.mul_sub] at h4
          rw [Int.sub_mul]
          have h5 : u * y ≤ y * W := by rw [Int.mul_comm]; exact Int.mul_le_mul_of_nonneg_left (by omega) hy
          omega
      omega
    omega
  · have hk : (u * D + W - 1) / W ≤ D := by
      have : (u * D + W - 1) / W < D + 1 := by
        rw [Int.ediv_lt_iff_lt_mul hW0, Int.add_mul, Int.one_mul]
        have : u * D ≤ W * D := Int.mul_le_mul_of_nonneg_right (by omega) hD0
        rw [Int.mul_comm D W]
        omega
      omega
    omega
end Go.Proofs.YthcmopgdjibojaaGreatDoor.aim

/- Schedules in plain Lean: the labels find one if there is one. -/
namespace Go.Proofs.YthcmopgdjibojaaGreatDoor.aim
open Go Go.RowKit
open Go.Proofs.YthcmopgdjibojaaGreatDoor.typ
set_option linter.unusedVariables false
set_option linter.unusedSimpArgs false

structure Tim where
  arr : Int
  beg : Int
  dep : Int
  rest : Bool
structure She where
  rest : Bool
  dep : Int
  times : List Tim
  fin : Int
  miles : Int
structure Lab where
  ready : Int
  since : Int
  sheet : She
def slowTo (l : List Pt) (t : Int) : Nat → Int
  | 0 => 0
  | k + 1 => slowTo l t k + (match l[k]? with | some p => if p.t ≤ t then p.a else 0 | none => 0)
def arcF (a : Arc) (t : Int) : Int := arrP a.travel t + slowTo a.slow t a.slow.length
def wayB (prof f to : Int) (a : Arc) : Bool := a.frm == f && (a.to == to && a.profile == prof)
def findA (n : Net) (prof f to : Int) : Option Arc := n.arcs.find? (wayB prof f to)
def plB (n : Net) (i : Int) : Bool := decide (0 ≤ i ∧ i < n.places.length)
/-- Arrival and miles. -/
def goF (n : Net) (prof f to t : Int) : Option (Int × Int) :=
  if plB n f = true ∧ plB n to = true then (if f = to then some (t, 0) else (findA n prof f to).map fun a => (arcF a t, a.miles)) else none
def placeF (ty : Ty) (stops : List Stp) : Nat → Int
  | 0 => ty.frm
  | d + 1 => match stops[d]? with | some s => s.place | none => 0
def toF (ty : Ty) (stops : List Stp) (d : Nat) : Int := match stops[d]? with | some s => s.place | none => ty.to
/-- The program's next label. -/
def restF (l : She) (d : Nat) (rest : Bool) (dep : Int) : She := match d with
  | 0 => { l with rest := rest, dep := dep }
  | d + 1 => { l with times := l.times.modify d fun m => { m with rest := rest, dep := dep } }
def nextF (x : Ins) (ty : Ty) (stops : List Stp) (l : Lab) (d : Nat) (rest : Bool) : Option Lab :=
  let dep := if rest = true then l.ready + ty.rest else l.ready
  let since := if rest = true then 0 else l.since
  let sh := restF l.sheet d rest dep
  match goF x.net ty.profile (placeF ty stops d) (toF ty stops d) dep with
  | none => none
  | some r => match stops[d]? with
    | some st => if st.close < max r.1 st.opn then none else if ty.drive < since + r.1 - dep then none else some ⟨max r.1 st.opn + st.service, since + r.1 - dep, { sh with miles := sh.miles + r.2, times := sh.times ++ [⟨r.1, max r.1 st.opn, 0, false⟩] }⟩
    | none => if ty.close < r.1 then none else if ty.drive < since + r.1 - dep then none else some ⟨r.1, since + r.1 - dep, { sh with miles := sh.miles + r.2, fin := r.1 }⟩
def beatB (l m : Lab) : Bool := (l.ready == m.ready) && decide (l.since ≤ m.since)
def addL (out : List Lab) (to : Lab) : List Lab := if out.any (fun m => beatB m to) = true then out else out ++ [to]
def choF (rests : List Bool) (d : Nat) : List Bool := match rests[d]? with | some b => [b] | none => [false, true]
def tryL (x : Ins) (ty : Ty) (stops : List Stp) (d : Nat) (l : Lab) (out : List Lab) (b : Bool) : List Lab := match nextF x ty stops l d b with
  | none => out
  | some to => addL out to
def Cov (out : List Lab) (t s : Int) : Prop := ∃ m ∈ out, m.ready = t ∧ m.since ≤ s
theorem Cov.add {out : List Lab} {t s : Int} (h : Cov out t s) (to : Lab) : Cov (addL out to) t s := by
  obtain ⟨m, hm, h1⟩ := h
  unfold addL
  split
  · exact ⟨m, hm, h1⟩
  · exact ⟨m, List.mem_append_left _ hm, h1⟩
theorem Cov.try {x : Ins} {ty : Ty} {stops : List Stp} {d : Nat} {l : Lab} {out : List Lab} {b : Bool} {t s : Int} (h : Cov out t s) : Cov (tryL x ty stops d l out b) t s := by
  unfold tryL
  split
  · exact h
  · exact h.add _
theorem Cov.tries {x : Ins} {ty : Ty} {stops : List Stp} {d : Nat} {l : Lab} : ∀ {cs : List Bool} {out : List Lab} {t s : Int}, Cov out t s → Cov (cs.foldl (tryL x ty stops d l) out) t s
  | [], _, _, _, h => h
  | c :: cs, out, t, s, h => by rw [List.foldl_cons]; exact Cov.tries h.try
theorem Cov.grows {x : Ins} {ty : Ty} {stops : List Stp} {rests : List Bool} {d : Nat} : ∀ {L out : List Lab} {t s : Int}, Cov out t s → Cov (L.foldl (fun out l => (choF rests d).foldl (tryL x ty stops d l) out) out) t s
  | [], _, _, _, h => h
  | l :: L, out, t, s, h => by rw [List.foldl_cons]; exact Cov.grows h.tries
end Go.Proofs.YthcmopgdjibojaaGreatDoor.aim

/- Bounds of the labels, and scores, in plain Lean. -/
namespace Go.Proofs.YthcmopgdjibojaaGreatDoor.aim
open Go Go.RowKit
open Go.Proofs.YthcmopgdjibojaaGreatDoor.typ
set_option linter.unusedVariables false
set_option linter.unusedSimpArgs false

end Go.Proofs.YthcmopgdjibojaaGreatDoor.aim

/- Sequences of visits and loads, in plain Lean. -/
namespace Go.Proofs.YthcmopgdjibojaaGreatDoor.aim
open Go Go.RowKit
open Go.Proofs.YthcmopgdjibojaaGreatDoor.typ
set_option linter.unusedVariables false
set_option linter.unusedSimpArgs false

end Go.Proofs.YthcmopgdjibojaaGreatDoor.aim

/- Scores and prices, in plain Lean. -/
namespace Go.Proofs.YthcmopgdjibojaaGreatDoor.aim
open Go Go.RowKit
open Go.Proofs.YthcmopgdjibojaaGreatDoor.typ
set_option linter.unusedVariables false
set_option linter.unusedSimpArgs false

structure Sco where
  cost : Int
  moved : Int
  other : Int
  work : Int
def addS (a b : Sco) : Sco := ⟨a.cost + b.cost, a.moved + b.moved, a.other + b.other, a.work + b.work⟩
/-- At most so much of each part. -/
structure InS (c m o w : Int) (s : Sco) : Prop where
  cost : 0 ≤ s.cost ∧ s.cost ≤ c
  moved : 0 ≤ s.moved ∧ s.moved ≤ m
  other : 0 ≤ s.other ∧ s.other ≤ o
  work : 0 ≤ s.work ∧ s.work ≤ w
theorem InS.add {c m o w c' m' o' w' : Int} {a b : Sco} (h : InS c m o w a) (h' : InS c' m' o' w' b) : InS (c + c') (m + m') (o + o') (w + w') (addS a b) := by
  obtain ⟨h1, h2, h3, h4⟩ := h
  obtain ⟨g1, g2, g3, g4⟩ := h'
  exact ⟨by unfold addS; dsimp only; omega, by unfold addS; dsimp only; omega, by unfold addS; dsimp only; omega, by unfold addS; dsimp only; omega⟩
theorem mul_bd {a b c d : Int} (h0 : 0 ≤ a) (h1 : a ≤ b) (h2 : 0 ≤ c) (h3 : c ≤ d) : 0 ≤ a * c ∧ a * c ≤ b * d := ⟨Int.mul_nonneg h0 h2, Int.mul_le_mul h1 h3 h2 (by omega)⟩
def ordF (a b : Int) : Int := if a < b then -1 else if b < a then 1 else 0
end Go.Proofs.YthcmopgdjibojaaGreatDoor.aim

/- Right routes and plans, in plain Lean. -/
namespace Go.Proofs.YthcmopgdjibojaaGreatDoor.aim
open Go Go.RowKit
open Go.Proofs.YthcmopgdjibojaaGreatDoor.typ
set_option linter.unusedVariables false
set_option linter.unusedSimpArgs false

end Go.Proofs.YthcmopgdjibojaaGreatDoor.aim
