/- Plain: the lines of the text of an instance; texts read, line by line. -/
import Derived.Test.YthefooacfcagbaaGreatDoorSpcL
import Derived.Test.YthefooacfcagbaaGreatDoorBase
namespace Go.Proofs.YthefooacfcagbaaGreatDoor.spc
open Go Go.RowKit
open Go.Proofs.YthefooacfcagbaaGreatDoor.txt Go.Proofs.YthefooacfcagbaaGreatDoor.typ
set_option linter.unusedVariables false
set_option linter.unusedSimpArgs false

def kwP : By := [112, 108, 97, 99, 101]
def kwA : By := [97, 114, 99]
def kwT : By := [116, 121, 112, 101]
def kwO : By := [111, 114, 100, 101, 114]
def kwX : By := [97, 112, 97, 114, 116]
def kwB : By := [98, 101, 102, 111, 114, 101]
def kwE : By := [101, 110, 100]
def onW : By := [111, 110]
def offW : By := [111, 102, 102]
/-- What a line is. -/
inductive Lin where
  | place (s : ByteArray)
  | arc (a : Arc)
  | type (t : Ty)
  | order (o : Ord)
  | apart (p : Int × Int)
  | before (p : Int × Int)
  | fin
def arcW (a : Arc) : List By := [Lib.itoa a.frm, Lib.itoa a.to, Lib.itoa a.profile, Lib.itoa a.miles, trvF a.travel, trvF a.slow]
def typeW (t : Ty) : List By := [t.name.data.toList, Lib.itoa t.count, Lib.itoa t.frm, Lib.itoa t.to, listF t.cap, Lib.itoa t.skills, Lib.itoa t.profile, Lib.itoa t.opn, Lib.itoa t.close, Lib.itoa t.drive, Lib.itoa t.rest, Lib.itoa t.fixed, Lib.itoa t.mile, Lib.itoa t.tick]
def stateW (b : Bool) : By := if b = true then offW else onW
def orderW (o : Ord) : List By := [o.name.data.toList, listF o.load, stopF o.pick, stopF o.drop, Lib.itoa o.skills, Lib.itoa o.penalty, Lib.itoa o.split, Lib.itoa o.last, Lib.itoa o.now, stateW o.off]
def pairW (p : Int × Int) : List By := [Lib.itoa p.1, Lib.itoa p.2]
/-- The words of a line. -/
def Lin.words : Lin → List By
  | .place s => [kwP, s.data.toList]
  | .arc a => kwA :: arcW a
  | .type t => kwT :: typeW t
  | .order o => kwO :: orderW o
  | .apart p => kwX :: pairW p
  | .before p => kwB :: pairW p
  | .fin => [kwE]
def Lin.rank : Lin → Nat
  | .place _ => 1
  | .arc _ => 2
  | .type _ => 3
  | .order _ => 4
  | .apart _ => 5
  | .before _ => 6
  | .fin => 7
def pairOk (p : Int × Int) : Prop := in64 p.1 ∧ in64 p.2
def arcOk (a : Arc) : Prop := ArcFits a ∧ (∀ p ∈ a.travel, PtFits p) ∧ ∀ p ∈ a.slow, PtFits p
def nameOk (s : ByteArray) : Prop := wordB s.data.toList = true ∧ s.size ≤ 140737488351232
def tyOk (t : Ty) : Prop := wordB t.name.data.toList = true ∧ TyFits t ∧ ∀ x ∈ t.cap, in64 x
def ordOk (o : Ord) : Prop := wordB o.name.data.toList = true ∧ OrdFits o ∧ ∀ x ∈ o.load, in64 x
/-- A line that can be written and read. -/
def Lin.ok : Lin → Prop
  | .place s => nameOk s
  | .arc a => arcOk a
  | .type t => tyOk t
  | .order o => ordOk o
  | .apart p => pairOk p
  | .before p => pairOk p
  | .fin => True
/-- An instance with what a line has. -/
def Lin.add (x : Ins) : Lin → Ins
  | .place s => { x with net := { x.net with places := x.net.places ++ [s] } }
  | .arc a => { x with net := { x.net with arcs := x.net.arcs ++ [a] } }
  | .type t => { x with types := x.types ++ [t] }
  | .order o => { x with orders := x.orders ++ [o] }
  | .apart p => { x with apart := x.apart ++ [p] }
  | .before p => { x with before := x.before ++ [p] }
  | .fin => x
theorem rank_le (r : Lin) : 1 ≤ r.rank ∧ r.rank ≤ 7 := by cases r <;> (simp only [Lin.rank]; omega)
theorem state_word (b : Bool) : wordB (stateW b) = true := by cases b <;> decide
theorem words_word {r : Lin} (h : r.ok) : ∀ x ∈ r.words, wordB x = true := by
  cases r with
  | place s =>
    intro x hx
    simp only [Lin.words, List.mem_cons, List.not_mem_nil, or_false] at hx
    rcases hx with rfl | rfl
    · decide
    · exact h.1
  | arc a =>
    intro x hx
    simp only [Lin.words, arcW, List.mem_cons, List.not_mem_nil, or_false] at hx
    rcases hx with rfl | rfl | rfl | rfl | rfl | rfl | rfl
    · decide
    all_goals first | exact itoa_word _ | exact trvF_word _
  | type t =>
    intro x hx
    simp only [Lin.words, typeW, List.mem_cons, List.not_mem_nil, or_false] at hx
    rcases hx with rfl | rfl | rfl | rfl | rfl | rfl | rfl | rfl | rfl | rfl | rfl | rfl | rfl | rfl | rfl
    · decide
    · exact h.1
    all_goals first | exact itoa_word _ | exact listF_word _
  | order o =>
    intro x hx
    simp only [Lin.words, orderW, List.mem_cons, List.not_mem_nil, or_false] at hx
    rcases hx with rfl | rfl | rfl | rfl | rfl | rfl | rfl | rfl | rfl | rfl | rfl
    · decide
    · exact h.1
    all_goals first | exact itoa_word _ | exact listF_word _ | exact stopF_word _ | exact state_word _
  | apart p =>
    intro x hx
    simp only [Lin.words, pairW, List.mem_cons, List.not_mem_nil, or_false] at hx
    rcases hx with rfl | rfl | rfl
    · decide
    all_goals exact itoa_word _
  | before p =>
    intro x hx
    simp only [Lin.words, pairW, List.mem_cons, List.not_mem_nil, or_false] at hx
    rcases hx with rfl | rfl | rfl
    · decide
    all_goals exact itoa_word _
  | fin =>
    intro x hx
    simp only [Lin.words, List.mem_cons, List.not_mem_nil, or_false] at hx
    subst hx
    decide
theorem words_ne (r : Lin) : r.words ≠ [] := by cases r <;> simp [Lin.words]
theorem itoa_inj {a b : Int} (ha : in64 a) (hb : in64 b) (h : Lib.itoa a = Lib.itoa b) : a = b := by
  have h1 := num_dec ha
  rw [h, num_dec hb] at h1
  exact (congrArg Prod.fst h1).symm
theorem listF_inj {a b : List Int} (ha : ∀ x ∈ a, in64 x) (hb : ∀ x ∈ b, in64 x) (h : listF a = listF b) : a = b := by
  have h1 := listR_listF ha
  rw [h, listR_listF hb] at h1
  exact (Option.some.inj h1).symm
theorem stopF_inj {a b : Stp} (ha : StpFits a) (hb : StpFits b) (h : stopF a = stopF b) : a = b := by
  have h1 := stopR_stopF ha
  rw [h, stopR_stopF hb] at h1
  exact (Option.some.inj h1).symm
theorem trvF_inj {a b : List Pt} (ha : ∀ x ∈ a, PtFits x) (hb : ∀ x ∈ b, PtFits x) (h : trvF a = trvF b) : a = b := by
  have h1 := trvR_trvF ha
  rw [h, trvR_trvF hb] at h1
  exact (Option.some.inj h1).symm
theorem bytes_inj {a b : ByteArray} (h : a.data.toList = b.data.toList) : a = b := by
  obtain ⟨⟨a⟩⟩ := a
  obtain ⟨⟨b⟩⟩ := b
  cases h
  rfl
theorem state_inj {a b : Bool} (h : stateW a = stateW b) : a = b := by
  cases a <;> cases b
  · rfl
  · exact absurd h (by decide)
  · exact absurd h (by decide)
  · rfl
theorem arcW_inj {a b : Arc} (ha : arcOk a) (hb : arcOk b) (h : arcW a = arcW b) : a = b := by
  obtain ⟨⟨a1, a2, a3, a4⟩, a5, a6⟩ := ha
  obtain ⟨⟨b1, b2, b3, b4⟩, b5, b6⟩ := hb
  simp only [arcW, List.cons.injEq, and_true] at h
  obtain ⟨h1, h2, h3, h4, h5, h6⟩ := h
  have e1 := itoa_inj a1 b1 h1
  have e2 := itoa_inj a2 b2 h2
  have e3 := itoa_inj a3 b3 h3
  have e4 := itoa_inj a4 b4 h4
  have e5 := trvF_inj a5 b5 h5
  have e6 := trvF_inj a6 b6 h6
  obtain ⟨_, _, _, _, _, _⟩ := a
  obtain ⟨_, _, _, _, _, _⟩ := b
  dsimp only at e1 e2 e3 e4 e5 e6
  subst e1 e2 e3 e4 e5 e6
  rfl
theorem typeW_inj {a b : Ty} (ha : tyOk a) (hb : tyOk b) (h : typeW a = typeW b) : a = b := by
  obtain ⟨_, ⟨_, a2, a3, a4, a6, a7, a8, a9, a10, a11, a12, a13, a14⟩, a5⟩ := ha
  obtain ⟨_, ⟨_, b2, b3, b4, b6, b7, b8, b9, b10, b11, b12, b13, b14⟩, b5⟩ := hb
  simp only [typeW, List.cons.injEq, and_true] at h
  obtain ⟨h1, h2, h3, h4, h5, h6, h7, h8, h9, h10, h11, h12, h13, h14⟩ := h
  have e1 := bytes_inj h1
  have e2 := itoa_inj a2 b2 h2
  have e3 := itoa_inj a3 b3 h3
  have e4 := itoa_inj a4 b4 h4
  have e5 := listF_inj a5 b5 h5
  have e6 := itoa_inj a6 b6 h6
  have e7 := itoa_inj a7 b7 h7
  have e8 := itoa_inj a8 b8 h8
  have e9 := itoa_inj a9 b9 h9
  have e10 := itoa_inj a10 b10 h10
  have e11 := itoa_inj a11 b11 h11
  have e12 := itoa_inj a12 b12 h12
  have e13 := itoa_inj a13 b13 h13
  have e14 := itoa_inj a14 b14 h14
  obtain ⟨_, _, _, _, _, _, _, _, _, _, _, _, _, _⟩ := a
  obtain ⟨_, _, _, _, _, _, _, _, _, _, _, _, _, _⟩ := b
  dsimp only at e1 e2 e3 e4 e5 e6 e7 e8 e9 e10 e11 e12 e13 e14
  subst e1 e2 e3 e4 e5 e6 e7 e8 e9 e10 e11 e12 e13 e14
  rfl
theorem orderW_inj {a b : Ord} (ha : ordOk a) (hb : ordOk b) (h : orderW a = orderW b) : a = b := by
  obtain ⟨_, ⟨_, a3, a4, a5, a6, a7, a8, a9⟩, a2⟩ := ha
  obtain ⟨_, ⟨_, b3, b4, b5, b6, b7, b8, b9⟩, b2⟩ := hb
  simp only [orderW, List.cons.injEq, and_true] at h
  obtain ⟨h1, h2, h3, h4, h5, h6, h7, h8, h9, h10⟩ := h
  have e1 := bytes_inj h1
  have e2 := listF_inj a2 b2 h2
  have e3 := stopF_inj a3 b3 h3
  have e4 := stopF_inj a4 b4 h4
  have e5 := itoa_inj a5 b5 h5
  have e6 := itoa_inj a6 b6 h6
  have e7 := itoa_inj a7 b7 h7
  have e8 := itoa_inj a8 b8 h8
  have e9 := itoa_inj a9 b9 h9
  have e10 := state_inj h10
  obtain ⟨_, _, _, _, _, _, _, _, _, _⟩ := a
  obtain ⟨_, _, _, _, _, _, _, _, _, _⟩ := b
  dsimp only at e1 e2 e3 e4 e5 e6 e7 e8 e9 e10
  subst e1 e2 e3 e4 e5 e6 e7 e8 e9 e10
  rfl
theorem pairW_inj {a b : Int × Int} (ha : pairOk a) (hb : pairOk b) (h : pairW a = pairW b) : a = b := by
  simp only [pairW, List.cons.injEq, and_true] at h
  have e1 := itoa_inj ha.1 hb.1 h.1
  have e2 := itoa_inj ha.2 hb.2 h.2
  obtain ⟨_, _⟩ := a
  obtain ⟨_, _⟩ := b
  dsimp only at e1 e2
  subst e1 e2
  rfl
/-- The words of a line tell it. -/
theorem words_inj {r r' : Lin} (h : r.ok) (h' : r'.ok) (e : r.words = r'.words) : r = r' := by
  cases r <;> cases r' <;> (simp only [Lin.words] at e)
  case place.place s s' =>
    injection e with _ e
    injection e with e _
    rw [bytes_inj e]
  case arc.arc a a' => injection e with _ e; rw [arcW_inj h h' e]
  case type.type a a' => injection e with _ e; rw [typeW_inj h h' e]
  case order.order a a' => injection e with _ e; rw [orderW_inj h h' e]
  case apart.apart a a' => injection e with _ e; rw [pairW_inj h h' e]
  case before.before a a' => injection e with _ e; rw [pairW_inj h h' e]
  case fin.fin => rfl
  all_goals (injection e with e _; exact absurd e (by decide))
/-- A text is a line. -/
def LineOf (s : By) (r : Lin) : Prop := s = joinS r.words ∧ r.ok
theorem LineOf.one {s : By} {r r' : Lin} (h : LineOf s r) (h' : LineOf s r') : r = r' :=
  words_inj h.2 h'.2 (joinS_inj (words_ne r) (words_ne r') (words_word h.2) (words_word h'.2) (h.1.symm.trans h'.1))
open Classical in
/-- The line that a text is. -/
noncomputable def rowO (s : By) : Option Lin := if h : ∃ r, LineOf s r then some h.choose else none
theorem rowO_of {s : By} {r : Lin} (h : LineOf s r) : rowO s = some r := by
  have he : ∃ r, LineOf s r := ⟨r, h⟩
  unfold rowO
  rw [dif_pos he, he.choose_spec.one h]
theorem of_rowO {s : By} {r : Lin} (h : rowO s = some r) : LineOf s r := by
  unfold rowO at h
  split at h
  · rename_i he
    obtain rfl := Option.some.inj h
    exact he.choose_spec
  · cases h
theorem rowO_none {s : By} (h : ∀ r, ¬ LineOf s r) : rowO s = none := by
  unfold rowO
  rw [dif_neg (fun ⟨r, hr⟩ => h r hr)]
/-- What a line answers: the line, or none. -/
def LineOk (s : By) (r : Option Lin) : Prop := (∀ x, r = some x → LineOf s x) ∧ (r = none → ∀ x, ¬ LineOf s x)
theorem LineOk.row {s : By} {r : Option Lin} (h : LineOk s r) : r = rowO s := by
  cases r with
  | none => exact (rowO_none (h.2 rfl)).symm
  | some x => exact (rowO_of (h.1 x rfl)).symm
theorem LineOk.words {s : By} {r : Option (List By)} (hr : WordsOk s r) {x : Lin} (h : LineOf s x) : r = some x.words := hr.words _ (words_ne x) (words_word h.2) h.1

/-- The instance that the lines of a text tell: none, and the number of a line; or some. -/
noncomputable def prsP : List By → Nat → Nat → Ins → Option Ins × Nat
  | [], n, _, _ => (none, n)
  | [_], n, _, _ => (none, n)
  | l :: m :: ls, n, last, x => match rowO l with
    | none => (none, n)
    | some r => if r.rank < last then (none, n) else if r.rank = 7 then (if m :: ls = [[]] then (some x, 0) else (none, n + 1)) else prsP (m :: ls) (n + 1) r.rank (r.add x)
/-- The rows of an instance, in the order of its text. -/
def rowsI (x : Ins) : List Lin := x.net.places.map .place ++ (x.net.arcs.map .arc ++ (x.types.map .type ++ (x.orders.map .order ++ (x.apart.map .apart ++ x.before.map .before))))
def lineB (r : Lin) : By := joinS r.words ++ [10]
def linesB (L : List Lin) : By := (L.map lineB).flatten
/-- The text of an instance. -/
def textI (x : Ins) : By := linesB (rowsI x ++ [.fin])
def nilX : Ins := ⟨⟨[], []⟩, [], [], [], []⟩
def insOk (x : Ins) : Prop := ∀ r ∈ rowsI x, r.ok
theorem linesB_cons (r : Lin) (L : List Lin) : linesB (r :: L) = joinS r.words ++ 10 :: linesB L := by
  unfold linesB lineB
  rw [List.map_cons, List.flatten_cons, List.append_assoc]
  rfl
theorem no10 {r : Lin} (h : r.ok) : (10 : UInt8) ∉ joinS r.words := fun hm => by
  rcases mem_join hm with h1 | ⟨x, hx, h1⟩
  · exact absurd h1 (by decide)
  · exact absurd (List.all_eq_true.1 (word_all (words_word h x hx)) _ h1) (by decide)
theorem splt_line {r : Lin} (h : r.ok) (L : List Lin) : splt 10 (linesB (r :: L)) = joinS r.words :: splt 10 (linesB L) := by
  rw [linesB_cons, splt_app _ (no10 h)]
/-- Ranks do not fall. -/
def Up : Nat → List Lin → Prop
  | _, [] => True
  | k, r :: L => k ≤ r.rank ∧ r.rank ≠ 7 ∧ Up r.rank L
/-- What is written is read. -/
theorem prsP_lines : ∀ (L : List Lin) (n k : Nat) (x : Ins), (∀ r ∈ L, r.ok) → Up k L → k ≤ 7 → prsP (splt 10 (linesB (L ++ [.fin]))) n k x = (some (L.foldl Lin.add x), 0)
  | [], n, k, x, _, _, hk => by
    have hf : Lin.ok .fin := trivial
    rw [List.nil_append, splt_line hf, show linesB [] = [] from rfl, splt, prsP, rowO_of ⟨rfl, hf⟩]
    dsimp only
    rw [if_neg (by show ¬ 7 < k; omega), if_pos (show Lin.fin.rank = 7 from rfl)]
    rfl
  | r :: L, n, k, x, hL, hu, hk => by
    have hr := hL r (List.mem_cons_self ..)
    obtain ⟨h1, h2, h3⟩ := hu
    have hne := splt_ne 10 (linesB (L ++ [.fin]))
    rw [List.cons_append, splt_line hr]
    cases hs : splt 10 (linesB (L ++ [.fin])) with
    | nil => exact absurd hs hne
    | cons m ls =>
      rw [prsP, rowO_of ⟨rfl, hr⟩]
      dsimp only
      rw [if_neg (by omega), if_neg h2, ← hs, prsP_lines L (n + 1) r.rank (r.add x) (fun y hy => hL y (List.mem_cons_of_mem _ hy)) h3 (rank_le r).2]
      rfl
/-- What is read was written. -/
theorem lines_prsP : ∀ (P : List By) (s : By) (n k : Nat) (x y : Ins) (j : Nat), splt 10 s = P → prsP P n k x = (some y, j) → ∃ L : List Lin, (∀ r ∈ L, r.ok) ∧ Up k L ∧ s = linesB (L ++ [.fin]) ∧ y = L.foldl Lin.add x ∧ j = 0
  | [], s, n, k, x, y, j, hs, h => by cases h
  | [_], s, n, k, x, y, j, hs, h => by cases h
  | l :: m :: ls, s, n, k, x, y, j, hs, h => by
    rw [prsP] at h
    have hj := (join_splt 10 s).1
    rw [hs, join2] at hj
    cases ho : rowO l with
    | none => rw [ho] at h; cases h
    | some r =>
      rw [ho] at h
      dsimp only at h
      have hl := of_rowO ho
      split at h
      · cases h
      · rename_i hk
        split at h
        · rename_i h7
          split at h
          · rename_i hm
            cases h
            refine ⟨[], (fun r hr => by cases hr), trivial, ?_, rfl, rfl⟩
            have hr : r = .fin := by cases r <;> first | rfl | (simp [Lin.rank] at h7)
            rw [← hj, hm, hl.1, hr, List.nil_append, linesB_cons, Lib.join_one]
            rfl
          · cases h
        · rename_i h7
          have hsp : splt 10 (Lib.join (m :: ls) [10]) = m :: ls := splt_join (by simp) fun z hz => (join_splt 10 s).2 z (by rw [hs]; exact List.mem_cons_of_mem _ hz)
          obtain ⟨L, h1, h2, h3, h4, h5⟩ := lines_prsP (m :: ls) _ (n + 1) r.rank (r.add x) y j hsp h
          refine ⟨r :: L, fun z hz => ?_, ⟨by omega, h7, h2⟩, ?_, h4, h5⟩
          · rcases List.mem_cons.1 hz with rfl | hz
            · exact hl.2
            · exact h1 z hz
          · rw [← hj, h3, hl.1, List.cons_append, linesB_cons]
/-- Nothing stands behind the rows of a kind. -/
def Upto (k : Nat) (x : Ins) : Prop := (k < 1 → x.net.places = []) ∧ (k < 2 → x.net.arcs = []) ∧ (k < 3 → x.types = []) ∧ (k < 4 → x.orders = []) ∧ (k < 5 → x.apart = []) ∧ (k < 6 → x.before = [])
theorem rowsI_add {r : Lin} {k : Nat} {x : Ins} (h : Upto k x) (hk : k ≤ r.rank) (h7 : r.rank ≠ 7) : rowsI (r.add x) = rowsI x ++ [r] ∧ Upto r.rank (r.add x) := by
  obtain ⟨h1, h2, h3, h4, h5, h6⟩ := h
  cases r with
  | place s =>
    have hk' : k ≤ 1 := hk
    rw [Lin.add]
    unfold rowsI Upto
    simp [h2 (by omega), h3 (by omega), h4 (by omega), h5 (by omega), h6 (by omega), Lin.rank]
  | arc a =>
    have hk' : k ≤ 2 := hk
    rw [Lin.add]
    unfold rowsI Upto
    simp [h3 (by omega), h4 (by omega), h5 (by omega), h6 (by omega), Lin.rank]
  | type t =>
    have hk' : k ≤ 3 := hk
    rw [Lin.add]
    unfold rowsI Upto
    simp [h4 (by omega), h5 (by omega), h6 (by omega), Lin.rank]
  | order o =>
    have hk' : k ≤ 4 := hk
    rw [Lin.add]
    unfold rowsI Upto
    simp [h5 (by omega), h6 (by omega), Lin.rank]
  | apart p =>
    have hk' : k ≤ 5 := hk
    rw [Lin.add]
    unfold rowsI Upto
    simp [h6 (by omega), Lin.rank]
  | before p =>
    rw [Lin.add]
    unfold rowsI Upto
    simp [Lin.rank]
  | fin => exact absurd rfl h7
theorem rowsI_fold : ∀ (L : List Lin) (k : Nat) (x : Ins), Upto k x → Up k L → rowsI (L.foldl Lin.add x) = rowsI x ++ L
  | [], k, x, _, _ => by simp
  | r :: L, k, x, h, hu => by
    obtain ⟨h1, h2, h3⟩ := hu
    obtain ⟨h4, h5⟩ := rowsI_add h h1 h2
    rw [List.foldl_cons, rowsI_fold L _ _ h5 h3, h4, List.append_assoc]
    rfl
theorem upto_nil : Upto 0 nilX := ⟨fun _ => rfl, fun _ => rfl, fun _ => rfl, fun _ => rfl, fun _ => rfl, fun _ => rfl⟩
/-- The rows tell the instance. -/
theorem fold_app {α : Type} (f : α → Lin) (g : Ins → List α → Ins) (hg : ∀ x l a, (f a).add (g x l) = g x (l ++ [a])) (h0 : ∀ x, g x [] = x) (x : Ins) (l : List α) : (l.map f).foldl Lin.add x = g x l := by
  have key : ∀ (l m : List α), (l.map f).foldl Lin.add (g x m) = g x (m ++ l) := by
    intro l
    induction l with
    | nil => intro m; simp
    | cons a l ih => intro m; rw [List.map_cons, List.foldl_cons, hg, ih]; simp
  have := key l []
  rw [h0, List.nil_append] at this
  exact this
theorem fold_rowsI (x : Ins) : (rowsI x).foldl Lin.add nilX = x := by
  obtain ⟨⟨P, A⟩, T, O, X, B⟩ := x
  unfold rowsI
  simp only [List.foldl_append]
  rw [fold_app .place (fun x l => { x with net := { x.net with places := x.net.places ++ l } }) (by intros; simp [Lin.add]) (by intros; simp)]
  rw [fold_app .arc (fun x l => { x with net := { x.net with arcs := x.net.arcs ++ l } }) (by intros; simp [Lin.add]) (by intros; simp)]
  rw [fold_app .type (fun x l => { x with types := x.types ++ l }) (by intros; simp [Lin.add]) (by intros; simp)]
  rw [fold_app .order (fun x l => { x with orders := x.orders ++ l }) (by intros; simp [Lin.add]) (by intros; simp)]
  rw [fold_app .apart (fun x l => { x with apart := x.apart ++ l }) (by intros; simp [Lin.add]) (by intros; simp)]
  rw [fold_app .before (fun x l => { x with before := x.before ++ l }) (by intros; simp [Lin.add]) (by intros; simp)]
  rfl
theorem up_map {α : Type} (f : α → Lin) (j : Nat) (hj : ∀ a, (f a).rank = j) (h7 : j ≠ 7) : ∀ (l : List α) (k : Nat) (M : List Lin), k ≤ j → (∀ i, i ≤ j → Up i M) → Up k (l.map f ++ M)
  | [], k, M, hk, hM => hM k hk
  | a :: l, k, M, hk, hM => ⟨by rw [hj]; exact hk, by rw [hj]; exact h7, by rw [hj]; exact up_map f j hj h7 l j M (Nat.le_refl _) hM⟩
theorem up_rowsI (x : Ins) : Up 0 (rowsI x) := by
  unfold rowsI
  refine up_map _ 1 (fun _ => rfl) (by decide) _ _ _ (by decide) fun i hi => ?_
  refine up_map _ 2 (fun _ => rfl) (by decide) _ _ _ (by omega) fun i hi => ?_
  refine up_map _ 3 (fun _ => rfl) (by decide) _ _ _ (by omega) fun i hi => ?_
  refine up_map _ 4 (fun _ => rfl) (by decide) _ _ _ (by omega) fun i hi => ?_
  refine up_map _ 5 (fun _ => rfl) (by decide) _ _ _ (by omega) fun i hi => ?_
  have := up_map .before 6 (fun _ => rfl) (by decide) x.before i [] (by omega) (fun _ _ => trivial)
  rwa [List.append_nil] at this
/-- The text of an instance is read, and gives the instance. -/
theorem prs_text {x : Ins} (h : insOk x) : prsP (splt 10 (textI x)) 1 0 nilX = (some x, 0) := by
  unfold textI
  rw [prsP_lines (rowsI x) 1 0 nilX h (up_rowsI x) (by decide), fold_rowsI]
/-- What is read is the text of what it tells. -/
theorem text_prs {s : By} {y : Ins} {j : Nat} (h : prsP (splt 10 s) 1 0 nilX = (some y, j)) : s = textI y ∧ insOk y := by
  obtain ⟨L, h1, h2, h3, h4, h5⟩ := lines_prsP _ s 1 0 nilX y j rfl h
  have e : rowsI y = L := by rw [h4, rowsI_fold L 0 nilX upto_nil h2]; rfl
  refine ⟨by unfold textI; rw [e, h3], ?_⟩
  unfold insOk
  rw [e]
  exact h1
theorem prs_pos : ∀ (P : List By) (n k : Nat) (x : Ins), 0 < n → (prsP P n k x).1 = none → 0 < (prsP P n k x).2
  | [], n, k, x, hn, _ => hn
  | [_], n, k, x, hn, _ => hn
  | l :: m :: ls, n, k, x, hn, h => by
    rw [prsP] at h ⊢
    split
    · exact hn
    · rename_i r hr
      rw [hr] at h
      dsimp only at h
      split
      · exact hn
      · rename_i hk
        rw [if_neg hk] at h
        split
        · rename_i h7
          rw [if_pos h7] at h
          split
          · rename_i hm
            rw [if_pos hm] at h
            cases h
          · exact Nat.succ_pos _
        · rename_i h7
          rw [if_neg h7] at h
          exact prs_pos _ _ _ _ (Nat.succ_pos _) h
end Go.Proofs.YthefooacfcagbaaGreatDoor.spc
