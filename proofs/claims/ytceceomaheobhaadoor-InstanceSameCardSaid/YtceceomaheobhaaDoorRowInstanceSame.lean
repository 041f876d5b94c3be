import Derived.Test.YtceceomaheobhaaDoorInsA
import Derived.Test.YtceceomaheobhaaDoorNetD
import Derived.Test.YtceceomaheobhaaDoorRulC
import Derived.Test.YtceceomaheobhaaDoorCat
import Derived.Test.YtceceomaheobhaaDoorUndA
import Derived.Test.YtceceomaheobhaaDoorOrdH
import Derived.Test.YtceceomaheobhaaDoorFltG
import Derived.Deep.RegionHeld3
import Derived.Deep.RegionWith
import Derived.Outline
import Derived.Test.YtceceomaheobhaaDoorRd
import Derived.Test.YtceceomaheobhaaDoorEqG
import Derived.Test.YtceceomaheobhaaDoorApp
import Derived.Test.YtceceomaheobhaaDoorOwnR
import Derived.Deep.DeepCutAuto
import Derived.Test.YtceceomaheobhaaDoorOrdG
import Derived.RangeFuncBox
import Derived.Test.YtceceomaheobhaaDoorInsE
import Derived.Test.YtceceomaheobhaaDoorInsF
import Derived.Test.YtceceomaheobhaaDoorLib
import Derived.Laws.Tables
import Derived.Great.BuildSlice
import Derived.Laws.Rows
import Derived.Laws.Cells
import Derived.Test.YtceceomaheobhaaDoorFltM
import Derived.BigRegion
import Derived.Test.YtceceomaheobhaaDoorCards
import Derived.Test.YtceceomaheobhaaDoorTie
import Derived.WalkKit
import Derived.ProofKit
import Derived.OpenShut
import Derived.Deep.DeepHandedRow
import Derived.Lib.LaidTab
import Derived.Shelf.Spec.TrailingZeros
import Derived.SizedLaws
import Derived.ShutString
import Derived.ChangeOld
import Derived.Below
import Derived.Lib.SmallJoins
import Derived.Deep.Slices
import Derived.Carry
/- instance.Check: the violations of an instance. -/
namespace Go.Proofs.YtceceomaheobhaaDoor.ins
open Go.RowKit
open Go.Proofs.YtceceomaheobhaaDoor.lib Go.Proofs.YtceceomaheobhaaDoor.rd Go.Proofs.YtceceomaheobhaaDoor.typ Go.Proofs.YtceceomaheobhaaDoor.app Go.Proofs.YtceceomaheobhaaDoor.flts Go.Proofs.YtceceomaheobhaaDoor.note Go.Proofs.YtceceomaheobhaaDoor.txt Go.Proofs.YtceceomaheobhaaDoor.und Go.Proofs.YtceceomaheobhaaDoor.cat Go.Proofs.YtceceomaheobhaaDoor.rul Go.Proofs.YtceceomaheobhaaDoor.net
set_option linter.unusedVariables false
set_option linter.unusedSimpArgs false

/-- Violations of a common size. -/
def OkE (E : List Int) : Prop := ∀ e ∈ E, -100 ≤ e ∧ e ≤ 100
def OkF (fs : List Flt) : Prop := ∀ f ∈ fs, (-100 ≤ f.err ∧ f.err ≤ 100) ∧ f.at_.size ≤ 1000
theorem OkE.nil : OkE [] := fun e h => by cases h
theorem OkE.push {xs : List Int} {r : Bool} {u : Int} (h : OkE xs) (hu : -100 ≤ u ∧ u ≤ 100) : OkE (pushIf xs r u) := fun e he => by
  rcases pushIf_mem he with h1 | rfl
  · exact h e h1
  · exact hu
theorem OkE.append {xs ys : List Int} (h : OkE xs) (h' : OkE ys) : OkE (xs ++ ys) := fun e he => by
  rcases List.mem_append.1 he with h1 | h1
  · exact h e h1
  · exact h' e h1
theorem OkF.nil : OkF [] := fun e h => by cases h
theorem OkF.append {xs ys : List Flt} (h : OkF xs) (h' : OkF ys) : OkF (xs ++ ys) := fun e he => by
  rcases List.mem_append.1 he with h1 | h1
  · exact h e h1
  · exact h' e h1
theorem OkF.one {e : Int} {s : ByteArray} (h : -100 ≤ e ∧ e ≤ 100) (hs : s.size ≤ 1000) : OkF [⟨e, s⟩] := fun f hf => by
  rw [List.mem_singleton] at hf
  subst hf
  exact ⟨h, hs⟩
theorem OkF.of {E : List Int} {s : ByteArray} (h : OkE E) (hs : s.size ≤ 1000) : OkF (E.map fun e => ⟨e, s⟩) := fun f hf => by
  obtain ⟨e, he, rfl⟩ := List.mem_map.1 hf
  exact ⟨h e he, hs⟩
theorem OkF.fits {fs : List Flt} (h : OkF fs) : ∀ f ∈ fs, FltFits f := fun f hf => by
  obtain ⟨⟨h1, h2⟩, h3⟩ := h f hf
  unfold FltFits
  omega
theorem dec_sz (n : Nat) : (decS n).size ≤ 1000 := Nat.le_trans (decS_size n) (by decide)
theorem OkF.mk {i : Nat} {E : List Int} (h : OkE E) : OkF (mkF i E) := OkF.of h (dec_sz i)
theorem tvTo_ok (l : List Pt) : ∀ j, OkF (trv.tvTo l j)
  | 0 => by
    unfold trv.tvTo
    split
    · exact OkF.one (by decide) (by decide)
    · exact OkF.nil
  | j + 1 => by
    rw [trv.tvTo]
    refine (tvTo_ok l j).append ?_
    unfold trv.tvAt
    split
    · unfold trv.tvP
      refine OkF.append ?_ ?_
      all_goals
        split
        · exact OkF.one (by decide) (dec_sz j)
        · exact OkF.nil
    · exact OkF.nil
theorem slTo_ok (l : List Pt) : ∀ j, OkE (slTo l j)
  | 0 => by
    unfold slTo
    split
    · intro e he; simp at he; omega
    · exact OkE.nil
  | j + 1 => by
    rw [slTo]
    refine (slTo_ok l j).append ?_
    unfold slAt
    split
    · unfold slP
      split
      · intro e he; simp at he; omega
      · exact OkE.nil
    · exact OkE.nil
theorem arcE_ok (P : Int) (ks : List (Int × Int × Int)) (x : Arc) : OkE (arcE P ks x) := by
  unfold arcE
  refine ((((OkE.nil.push ?_).push ?_).push ?_).append ?_).append (slTo_ok _ _)
  · decide
  · decide
  · decide
  · intro e he
    obtain ⟨f, hf, rfl⟩ := List.mem_map.1 he
    exact (tvTo_ok _ _ f hf).1
theorem plc_sz (i : Nat) : (plcS i).size ≤ 1000 := by
  have := decS_size i
  unfold plcS
  rw [ByteArray.size_append]
  exact Nat.le_trans (Nat.add_le_add_left this _) (by decide)
theorem arc_sz (i : Nat) : (arcS i).size ≤ 1000 := by
  have := decS_size i
  unfold arcS
  rw [ByteArray.size_append]
  exact Nat.le_trans (Nat.add_le_add_left this _) (by decide)
theorem plTo_ok (l : List ByteArray) : ∀ j, OkF (plTo l j)
  | 0 => by
    unfold plTo
    split
    · exact OkF.one (by decide) (by decide)
    · exact OkF.nil
  | j + 1 => by
    rw [plTo]
    refine (plTo_ok l j).append ?_
    unfold plAt
    split
    · unfold plP
      split
      · split
        · exact OkF.one (by decide) (plc_sz j)
        · exact OkF.nil
      · exact OkF.one (by decide) (plc_sz j)
    · exact OkF.nil
theorem netTo_ok (n : Net) : ∀ j, OkF (netTo n j)
  | 0 => by
    unfold netTo
    refine (plTo_ok _ _).append ?_
    split
    · exact OkF.one (by decide) (by decide)
    · exact OkF.nil
  | j + 1 => by
    rw [netTo]
    refine (netTo_ok n j).append ?_
    unfold arAt
    split
    · exact OkF.of (arcE_ok _ _ _) (arc_sz j)
    · exact OkF.nil
theorem fltsTo_ok (P : Int) (l : List Ty) : ∀ j, OkF (flt.fltsTo P l j)
  | 0 => by
    unfold flt.fltsTo
    split
    · exact OkF.nil
    · exact OkF.one (by decide) (by decide)
  | j + 1 => by
    rw [flt.fltsTo]
    refine (fltsTo_ok P l j).append ?_
    unfold flt.fltsAt
    split
    · refine OkF.mk (i := j) ?_
      unfold flt.errsL
      repeat (refine OkE.push ?_ (by decide))
      exact OkE.nil
    · exact OkF.nil
theorem ofltsTo_ok (P dims types : Int) (l : List Ord) : ∀ j, OkF (ord.ofltsTo P dims types l j)
  | 0 => by
    unfold ord.ofltsTo
    split
    · exact OkF.nil
    · exact OkF.one (by decide) (by decide)
  | j + 1 => by
    rw [ord.ofltsTo]
    refine (ofltsTo_ok P dims types l j).append ?_
    unfold ord.ofltsAt
    split
    · refine OkF.mk (i := j) ?_
      unfold ord.errsO
      repeat (refine OkE.push ?_ (by decide))
      exact OkE.nil
    · exact OkF.nil
theorem at_sz (word : ByteArray) (hw : word.size ≤ 900) (i : Nat) : (atS word i).size ≤ 1000 := by
  have := decS_size i
  unfold atS
  rw [ByteArray.size_append, ByteArray.size_append]
  have h1 : (⟨#[32]⟩ : ByteArray).size = 1 := rfl
  omega
theorem pairsTo_ok (orders : Int) (word : ByteArray) (hw : word.size ≤ 900) (same : Int × Int → Int × Int → Bool) (l : List (Int × Int)) : ∀ j, OkF (pairsTo orders word same l j)
  | 0 => by
    unfold pairsTo
    split
    · exact OkF.nil
    · exact OkF.one (by decide) (by omega)
  | j + 1 => by
    rw [pairsTo]
    refine (pairsTo_ok orders word hw same l j).append ?_
    unfold pairAt
    split
    · unfold pairP
      split
      · exact OkF.one (by decide) (at_sz word hw j)
      · split
        · exact OkF.one (by decide) (at_sz word hw j)
        · exact OkF.nil
    · exact OkF.nil
theorem rulesF_ok (orders : Int) (a b : List (Int × Int)) : OkF (rulesF orders a b) := (pairsTo_ok _ _ (by decide) _ _ _).append (pairsTo_ok _ _ (by decide) _ _ _)

def netS : ByteArray := ⟨#[110, 101, 116]⟩
def typesS : ByteArray := ⟨#[116, 121, 112, 101, 115]⟩
def ordersS : ByteArray := ⟨#[111, 114, 100, 101, 114, 115]⟩
def rulesS : ByteArray := ⟨#[114, 117, 108, 101, 115]⟩
/-- The violations of an instance. -/
def insN (x : Ins) : List Flt := netTo x.net x.net.arcs.length
def insT (x : Ins) : List Flt := flt.fltsTo ((x.net.places.length : Int) - 1) x.types x.types.length
def insO (x : Ins) : List Flt := ord.ofltsTo ((x.net.places.length : Int) - 1) (flt.dimsN x.types) x.types.length x.orders x.orders.length
def insR (x : Ins) : List Flt := rulesF x.orders.length x.apart x.before
def insF (x : Ins) : List Flt := catL [undL netS (insN x), undL typesS (insT x), undL ordersS (insO x), undL rulesS (insR x)] 4
end Go.Proofs.YtceceomaheobhaaDoor.ins

/- instance.Check, walked. -/
namespace Go.Proofs.YtceceomaheobhaaDoor.ins
open Go.RowKit
open Go.Proofs.YtceceomaheobhaaDoor.lib Go.Proofs.YtceceomaheobhaaDoor.rd Go.Proofs.YtceceomaheobhaaDoor.typ Go.Proofs.YtceceomaheobhaaDoor.app Go.Proofs.YtceceomaheobhaaDoor.flts Go.Proofs.YtceceomaheobhaaDoor.note Go.Proofs.YtceceomaheobhaaDoor.txt Go.Proofs.YtceceomaheobhaaDoor.und Go.Proofs.YtceceomaheobhaaDoor.cat Go.Proofs.YtceceomaheobhaaDoor.rul Go.Proofs.YtceceomaheobhaaDoor.net
set_option linter.unusedVariables false
set_option linter.unusedSimpArgs false

/-- What Check is proved for. -/
structure Lim (x : Ins) : Prop where
  places : x.net.places.length ≤ 100
  arcs : x.net.arcs.length ≤ 10000
  points : ∀ a ∈ x.net.arcs, a.travel.length ≤ 100 ∧ a.slow.length ≤ 1000
  few : ∀ (j : Nat) a, x.net.arcs[j]? = some a → arcE x.net.places.length ((x.net.arcs.take j).map wayK) a ≠ [] → j < 100
  net : (insN x).length ≤ 200000
  types : x.types.length ≤ 20
  orders : x.orders.length ≤ 20
  apart : x.apart.length ≤ 24
  before : x.before.length ≤ 24
theorem undL_len (word : ByteArray) (fs : List Flt) : (undL word fs).length = fs.length := by unfold undL; rw [List.length_map]
theorem under_of (word : ByteArray) (A : Option Addr) (c : Nat) (fs : List Flt) (w : World) (base : Nat) (h : Fown w base A c fs) (hok : OkF fs) (hl : fs.length ≤ 1000000) (hws : word.size ≤ 1000000) :
    Calls Tryd.prog 33 #[.string word, .slice A fs.length c] w (FltsOut w (undL word fs)) :=
  under_any word A c fs w (flts_row h hok.fits (by omega)) hl hws (fun f hf => Nat.le_trans (hok f hf).2 (by decide))
theorem reads_flts {w w' : World} {base c : Nat} {A : Option Addr} {fs : List Flt} (h : Fown w base A c fs) (hb : Below w.heap.size w w') : Reads w' w.heap.size 2 A fs.length (fcs fs) := (Reads.of_own h).below hb

/-- Four rows, in a block written out. -/
theorem four_rows (w : World) {a b c d : List Flt} {A B C D : Option Addr} (ha : Reads w w.heap.size 2 A a.length (fcs a)) (hb : Reads w w.heap.size 2 B b.length (fcs b)) (hc : Reads w w.heap.size 2 C c.length (fcs c)) (hd : Reads w w.heap.size 2 D d.length (fcs d)) (ca cb cc cd : Nat) (t : TypeId) :
    FRows (w.alloc (.cells #[.slice A a.length ca, .slice B b.length cb, .slice C c.length cc, .slice D d.length cd] t)) (w.heap.size + 1) (some ⟨w.heap.size, 0, none⟩) [a, b, c, d] := fun i fs hi => by
  have hn := fun j u hu => World.news_of_block (w := w.alloc (.cells #[.slice A a.length ca, .slice B b.length cb, .slice C c.length cc, .slice D d.length cd] t)) (B := w.heap.size) (heap_alloc_new w _) j u hu
  have hk : ∀ {X : Option Addr} {x : List Flt}, Reads w w.heap.size 2 X x.length (fcs x) → Reads (w.alloc (.cells #[.slice A a.length ca, .slice B b.length cb, .slice C c.length cc, .slice D d.length cd] t)) (w.heap.size + 1) 2 X x.length (fcs x) := fun h => (h.alloc (Nat.le_refl _) _).more (by omega)
  rcases i with _ | _ | _ | _ | i
  · simp at hi
    subst hi
    exact ⟨_, A, ca, rfl, Nat.lt_succ_self _, hn 0 _ rfl, hk ha⟩
  · simp at hi
    subst hi
    exact ⟨_, B, cb, rfl, Nat.lt_succ_self _, hn 1 _ rfl, hk hb⟩
  · simp at hi
    subst hi
    exact ⟨_, C, cc, rfl, Nat.lt_succ_self _, hn 2 _ rfl, hk hc⟩
  · simp at hi
    subst hi
    exact ⟨_, D, cd, rfl, Nat.lt_succ_self _, hn 3 _ rfl, hk hd⟩
  · simp at hi
theorem keepF {w w' : World} {base c : Nat} {A : Option Addr} {fs : List Flt} (h : Fown w base A c fs) (hb : Below w.heap.size w w') : Fown w' base A c fs := own_below h hb
theorem rowF {w : World} {base c : Nat} {A : Option Addr} {fs : List Flt} (h : Fown w base A c fs) : Reads w w.heap.size 2 A fs.length (fcs fs) := Reads.of_own h
set_option maxRecDepth 100000 in
set_option maxHeartbeats 8000000 in
theorem icheck_any (x : Ins) (Q : InP) (w : World) (h : InAt w w.heap.size x Q) (hl : Lim x) : Calls Tryd.prog 14 #[InV x Q] w (FltsOut w (insF x)) := by
  obtain ⟨A0, c0, A1, c1, A2, c2, A3, c3, A4, c4, A5, c5⟩ := Q
  obtain ⟨E, hE⟩ : ∃ E, insF x = E := ⟨_, rfl⟩
  obtain ⟨E1, hE1⟩ : ∃ E, insN x = E := ⟨_, rfl⟩
  obtain ⟨E2, hE2⟩ : ∃ E, insT x = E := ⟨_, rfl⟩
  obtain ⟨E3, hE3⟩ : ∃ E, insO x = E := ⟨_, rfl⟩
  obtain ⟨E4, hE4⟩ : ∃ E, insR x = E := ⟨_, rfl⟩
  have o1 : OkF E1 := by rw [← hE1]; exact netTo_ok _ _
  have o2 : OkF E2 := by rw [← hE2]; exact fltsTo_ok _ _ _
  have o3 : OkF E3 := by rw [← hE3]; exact ofltsTo_ok _ _ _ _ _
  have o4 : OkF E4 := by rw [← hE4]; exact rulesF_ok _ _ _
  have l1 : E1.length ≤ 200000 := by rw [← hE1]; exact hl.net
  have l2 : E2.length ≤ 1000 := by
    rw [← hE2]
    have := flt.fltsTo_len ((x.net.places.length : Int) - 1) x.types x.types.length
    have := hl.types
    unfold insT
    omega
  have l3 : E3.length ≤ 1000 := by
    rw [← hE3]
    have := ord.ofltsTo_len ((x.net.places.length : Int) - 1) (flt.dimsN x.types) x.types.length x.orders x.orders.length
    have := hl.orders
    unfold insO
    omega
  have l4 : E4.length ≤ 1000 := by
    rw [← hE4]
    have := pairsTo_len x.orders.length apartS looseB x.apart x.apart.length
    have := pairsTo_len x.orders.length beforeS eqg.twoEq x.before x.before.length
    have := hl.apart
    have := hl.before
    unfold insR rulesF
    rw [List.length_append]
    omega
  have HE : Hid (E = catL [undL netS E1, undL typesS E2, undL ordersS E3, undL rulesS E4] 4) := Lib.hid (by rw [← hE, ← hE1, ← hE2, ← hE3, ← hE4]; rfl)
  have HEL : Hid ((catL [undL netS E1, undL typesS E2, undL ordersS E3, undL rulesS E4] 4).length ≤ 1000000) := Lib.hid (by
    have e : catL [undL netS E1, undL typesS E2, undL ordersS E3, undL rulesS E4] 4 = undL netS E1 ++ (undL typesS E2 ++ (undL ordersS E3 ++ (undL rulesS E4 ++ []))) := rfl
    rw [e]
    simp only [List.length_append, undL_len, List.length_nil]
    omega)
  have k1 : ∀ w', InAt w' w'.heap.size x ⟨A0, c0, A1, c1, A2, c2, A3, c3, A4, c4, A5, c5⟩ → Calls Tryd.prog 34 #[.agg #[.slice A0 x.net.places.length c0, .slice A1 x.net.arcs.length c1]] w' (FltsOut w' E1) := fun w' hi => by
    rw [← hE1]
    exact ncheck_any x.net A0 c0 A1 c1 w' hi.places hi.arcs hl.places hl.arcs hl.points hl.few
  have k2 : ∀ w', InAt w' w'.heap.size x ⟨A0, c0, A1, c1, A2, c2, A3, c3, A4, c4, A5, c5⟩ → Calls Tryd.prog 35 #[.agg #[.slice A0 x.net.places.length c0, .slice A1 x.net.arcs.length c1], .slice A2 x.types.length c2] w' (flt.FltsOut w' E2) := fun w' hi => by
    rw [← hE2]
    exact flt.check_any x.net A0 c0 A1 c1 A2 c2 x.types w' hi.types hl.types hi.capT hi.places.len
  have k3 : ∀ w', InAt w' w'.heap.size x ⟨A0, c0, A1, c1, A2, c2, A3, c3, A4, c4, A5, c5⟩ → Calls Tryd.prog 36 #[.agg #[.slice A0 x.net.places.length c0, .slice A1 x.net.arcs.length c1], .int .i64 (flt.dimsN x.types), .int .i64 x.types.length, .slice A3 x.orders.length c3] w' (FltsOut w' E3) := fun w' hi => by
    rw [← hE3]
    exact ord.check_any x.net.places.length A0 c0 A1 x.net.arcs.length c1 (flt.dimsN x.types) x.types.length A3 c3 x.orders w' hi.orders hl.orders hi.capO hi.places.len
  have k4 : ∀ w', InAt w' w'.heap.size x ⟨A0, c0, A1, c1, A2, c2, A3, c3, A4, c4, A5, c5⟩ → Calls Tryd.prog 38 #[.int .i64 x.orders.length, .slice A4 x.apart.length c4, .slice A5 x.before.length c5] w' (FltsOut w' E4) := fun w' hi => by
    rw [← hE4]
    exact rcheck_any x.orders.length A4 c4 x.apart A5 c5 x.before w' hi.apart hi.before hl.apart hl.before hi.capA hi.capB
  have kd : ∀ w', InAt w' w'.heap.size x ⟨A0, c0, A1, c1, A2, c2, A3, c3, A4, c4, A5, c5⟩ → Calls Tryd.prog 37 #[.slice A2 x.types.length c2] w' fun e w'' => e = .returned (.int .i64 (flt.dimsN x.types)) ∧ w' = w'' := fun w' hi => flt.dims_any A2 c2 x.types w' _ hi.types
  obtain ⟨W0, hW0⟩ : ∃ W0, w.alloc (.cells #[.slice A0 x.net.places.length c0, .slice A1 x.net.arcs.length c1, .slice A2 x.types.length c2, .slice A3 x.orders.length c3, .slice A4 x.apart.length c4, .slice A5 x.before.length c5] 30) = W0 := ⟨_, rfl⟩
  have hB0 : Below w.heap.size w W0 := by rw [← hW0]; exact (Below.refl _ _).alloc (Nat.le_refl _) _
  have z0 := hB0.size
  have hs0 : w.heap.size < W0.heap.size := by rw [← hW0]; simp
  have HI : Hid (∀ w', Below W0.heap.size W0 w' → InAt w' w'.heap.size x ⟨A0, c0, A1, c1, A2, c2, A3, c3, A4, c4, A5, c5⟩) := Lib.hid fun w' hb => (h.go hB0).go hb
  have hS : ∀ w', Below W0.heap.size W0 w' → (Below W0.heap.size W0 w' ∧ w'.cell? ⟨w.heap.size, 0, none⟩ = some (.slice A0 x.net.places.length c0) ∧ w'.cell? ⟨w.heap.size, 1, none⟩ = some (.slice A1 x.net.arcs.length c1) ∧ w'.cell? ⟨w.heap.size, 2, none⟩ = some (.slice A2 x.types.length c2) ∧ w'.cell? ⟨w.heap.size, 3, none⟩ = some (.slice A3 x.orders.length c3) ∧ w'.cell? ⟨w.heap.size, 4, none⟩ = some (.slice A4 x.apart.length c4) ∧ w'.cell? ⟨w.heap.size, 5, none⟩ = some (.slice A5 x.before.length c5)) := fun w' hb => by
    have hk := fun (o : Nat) => hb.cell (p := ⟨w.heap.size, o, none⟩) hs0
    refine ⟨hb, (hk _).trans ?_, (hk _).trans ?_, (hk _).trans ?_, (hk _).trans ?_, (hk _).trans ?_, (hk _).trans ?_⟩
    all_goals (rw [← hW0]; simp)
  have B0 : Below W0.heap.size W0 W0 := Below.refl _ _
  have HW0 := Lib.hid hW0
  have HK := Lib.hid (And.intro k1 (And.intro k2 (And.intro k3 (And.intro k4 kd))))
  rw [hE]
  clear hE hE1 hE2 hE3 hE4 hW0 h hl k1 k2 k3 k4 kd
  simp only [InV]
  go_enter Tryd.func14, Tryd.ntmps14
  go_upto_region 1 with fail
  rw [HW0.out]
  (refine wp_region_held_drew (S := (fun w' => Below W0.heap.size W0 w' ∧ w'.cell? ⟨w.heap.size, 0, none⟩ = some (.slice A0 x.net.places.length c0) ∧ w'.cell? ⟨w.heap.size, 1, none⟩ = some (.slice A1 x.net.arcs.length c1) ∧ w'.cell? ⟨w.heap.size, 2, none⟩ = some (.slice A2 x.types.length c2) ∧ w'.cell? ⟨w.heap.size, 3, none⟩ = some (.slice A3 x.orders.length c3) ∧ w'.cell? ⟨w.heap.size, 4, none⟩ = some (.slice A4 x.apart.length c4) ∧ w'.cell? ⟨w.heap.size, 5, none⟩ = some (.slice A5 x.before.length c5))) (by kernel_rfl) ?_ (fun hHeld => ?_))
  · exact hS _ (B0.drew)
  (refine wpAnyH_take (i := 0) (v := ?_) rfl (by kernel_rfl) (by kernel_rfl) (by kernel_rfl) (fun _ _ _ h => h) (Or.inl ⟨by kernel_rfl, ?_⟩) (by assumption) ?_; rotate_left; (focus (intro w hSw; (try dsimp only at hSw); go_simp; all_goals with_reducible rfl)); (try simp only [Act.put, List.getElem_toArray, List.getElem_cons_succ, List.getElem_cons_zero, List.setIfInBounds_toArray, List.set_cons_zero, List.set_cons_succ]))
  (refine wpAnyH_take (i := 1) (v := ?_) rfl (by kernel_rfl) (by kernel_rfl) (by kernel_rfl) (fun _ _ _ h => h) (Or.inl ⟨by kernel_rfl, ?_⟩) (by assumption) ?_; rotate_left; (focus (intro w hSw; (try dsimp only at hSw); go_simp; all_goals with_reducible rfl)); (try simp only [Act.put, List.getElem_toArray, List.getElem_cons_succ, List.getElem_cons_zero, List.setIfInBounds_toArray, List.set_cons_zero, List.set_cons_succ]))
  (refine wpAnyH_take (i := 4) (v := ?_) rfl (by kernel_rfl) (by kernel_rfl) (by kernel_rfl) (fun _ _ _ h => h) (Or.inl ⟨by kernel_rfl, ?_⟩) (by assumption) ?_; rotate_left; (focus (intro w hSw; (try dsimp only at hSw); go_simp; all_goals with_reducible rfl)); (try simp only [Act.put, List.getElem_toArray, List.getElem_cons_succ, List.getElem_cons_zero, List.setIfInBounds_toArray, List.set_cons_zero, List.set_cons_succ]))
  (refine wpAnyH_take (i := 5) (v := ?_) rfl (by kernel_rfl) (by kernel_rfl) (by kernel_rfl) (fun _ _ _ h => h) (Or.inl ⟨by kernel_rfl, ?_⟩) (by assumption) ?_; rotate_left; (focus (intro w hSw; (try dsimp only at hSw); go_simp; all_goals with_reducible rfl)); (try simp only [Act.put, List.getElem_toArray, List.getElem_cons_succ, List.getElem_cons_zero, List.setIfInBounds_toArray, List.set_cons_zero, List.set_cons_succ]))
  (refine wpAnyH_take (i := 6) (v := ?_) rfl (by kernel_rfl) (by kernel_rfl) (by kernel_rfl) (fun _ _ _ h => h) (Or.inl ⟨by kernel_rfl, ?_⟩) (by assumption) ?_; rotate_left; (focus (intro w hSw; (try dsimp only at hSw); go_simp; all_goals with_reducible rfl)); (try simp only [Act.put, List.getElem_toArray, List.getElem_cons_succ, List.getElem_cons_zero, List.setIfInBounds_toArray, List.set_cons_zero, List.set_cons_succ]))
  (refine wpAnyH_take (i := 7) (v := ?_) rfl (by kernel_rfl) (by kernel_rfl) (by kernel_rfl) (fun _ _ _ h => h) (Or.inl ⟨by kernel_rfl, ?_⟩) (by assumption) ?_; rotate_left; (focus (intro w hSw; (try dsimp only at hSw); go_simp; all_goals with_reducible rfl)); (try simp only [Act.put, List.getElem_toArray, List.getElem_cons_succ, List.getElem_cons_zero, List.setIfInBounds_toArray, List.set_cons_zero, List.set_cons_succ]))
  (refine wpAnyH_take (i := 10) (v := ?_) rfl (by kernel_rfl) (by kernel_rfl) (by kernel_rfl) (fun _ _ _ h => h) (Or.inl ⟨by kernel_rfl, ?_⟩) (by assumption) ?_; rotate_left; (focus (intro w hSw; (try dsimp only at hSw); go_simp; all_goals with_reducible rfl)); (try simp only [Act.put, List.getElem_toArray, List.getElem_cons_succ, List.getElem_cons_zero, List.setIfInBounds_toArray, List.set_cons_zero, List.set_cons_succ]))
  (refine wpAnyH_take (i := 11) (v := ?_) rfl (by kernel_rfl) (by kernel_rfl) (by kernel_rfl) (fun _ _ _ h => h) (Or.inl ⟨by kernel_rfl, ?_⟩) (by assumption) ?_; rotate_left; (focus (intro w hSw; (try dsimp only at hSw); go_simp; all_goals with_reducible rfl)); (try simp only [Act.put, List.getElem_toArray, List.getElem_cons_succ, List.getElem_cons_zero, List.setIfInBounds_toArray, List.set_cons_zero, List.set_cons_succ]))
  (refine wpAnyH_take (i := 12) (v := ?_) rfl (by kernel_rfl) (by kernel_rfl) (by kernel_rfl) (fun _ _ _ h => h) (Or.inl ⟨by kernel_rfl, ?_⟩) (by assumption) ?_; rotate_left; (focus (intro w hSw; (try dsimp only at hSw); go_simp; all_goals with_reducible rfl)); (try simp only [Act.put, List.getElem_toArray, List.getElem_cons_succ, List.getElem_cons_zero, List.setIfInBounds_toArray, List.set_cons_zero, List.set_cons_succ]))
  (refine wpAnyH_take (i := 13) (v := ?_) rfl (by kernel_rfl) (by kernel_rfl) (by kernel_rfl) (fun _ _ _ h => h) (Or.inl ⟨by kernel_rfl, ?_⟩) (by assumption) ?_; rotate_left; (focus (intro w hSw; (try dsimp only at hSw); go_simp; all_goals with_reducible rfl)); (try simp only [Act.put, List.getElem_toArray, List.getElem_cons_succ, List.getElem_cons_zero, List.setIfInBounds_toArray, List.set_cons_zero, List.set_cons_succ]))
  (refine wpAnyH_take (i := 15) (v := ?_) rfl (by kernel_rfl) (by kernel_rfl) (by kernel_rfl) (fun _ _ _ h => h) (Or.inl ⟨by kernel_rfl, ?_⟩) (by assumption) ?_; rotate_left; (focus (intro w hSw; (try dsimp only at hSw); go_simp; all_goals with_reducible rfl)); (try simp only [Act.put, List.getElem_toArray, List.getElem_cons_succ, List.getElem_cons_zero, List.setIfInBounds_toArray, List.set_cons_zero, List.set_cons_succ]))
  (refine wpAnyH_take (i := 16) (v := ?_) rfl (by kernel_rfl) (by kernel_rfl) (by kernel_rfl) (fun _ _ _ h => h) (Or.inl ⟨by kernel_rfl, ?_⟩) (by assumption) ?_; rotate_left; (focus (intro w hSw; (try dsimp only at hSw); go_simp; all_goals with_reducible rfl)); (try simp only [Act.put, List.getElem_toArray, List.getElem_cons_succ, List.getElem_cons_zero, List.setIfInBounds_toArray, List.set_cons_zero, List.set_cons_succ]))
  (refine wpAnyH_take (i := 17) (v := ?_) rfl (by kernel_rfl) (by kernel_rfl) (by kernel_rfl) (fun _ _ _ h => h) (Or.inl ⟨by kernel_rfl, ?_⟩) (by assumption) ?_; rotate_left; (focus (intro w hSw; (try dsimp only at hSw); go_simp; all_goals with_reducible rfl)); (try simp only [Act.put, List.getElem_toArray, List.getElem_cons_succ, List.getElem_cons_zero, List.setIfInBounds_toArray, List.set_cons_zero, List.set_cons_succ]))
  (refine wpAnyH_take (i := 18) (v := ?_) rfl (by kernel_rfl) (by kernel_rfl) (by kernel_rfl) (fun _ _ _ h => h) (Or.inl ⟨by kernel_rfl, ?_⟩) (by assumption) ?_; rotate_left; (focus (intro w hSw; (try dsimp only at hSw); go_simp; all_goals with_reducible rfl)); (try simp only [Act.put, List.getElem_toArray, List.getElem_cons_succ, List.getElem_cons_zero, List.setIfInBounds_toArray, List.set_cons_zero, List.set_cons_succ]))
  (refine wpAnyH_take (i := 19) (v := ?_) rfl (by kernel_rfl) (by kernel_rfl) (by kernel_rfl) (fun _ _ _ h => h) (Or.inl ⟨by kernel_rfl, ?_⟩) (by assumption) ?_; rotate_left; (focus (intro w hSw; (try dsimp only at hSw); go_simp; all_goals with_reducible rfl)); (try simp only [Act.put, List.getElem_toArray, List.getElem_cons_succ, List.getElem_cons_zero, List.setIfInBounds_toArray, List.set_cons_zero, List.set_cons_succ]))
  (refine wpAnyH_take (i := 22) (v := ?_) rfl (by kernel_rfl) (by kernel_rfl) (by kernel_rfl) (fun _ _ _ h => h) (Or.inl ⟨by kernel_rfl, ?_⟩) (by assumption) ?_; rotate_left; (focus (intro w hSw; (try dsimp only at hSw); go_simp; all_goals with_reducible rfl)); (try simp only [Act.put, List.getElem_toArray, List.getElem_cons_succ, List.getElem_cons_zero, List.setIfInBounds_toArray, List.set_cons_zero, List.set_cons_succ]))
  (refine wpAnyH_take (i := 23) (v := ?_) rfl (by kernel_rfl) (by kernel_rfl) (by kernel_rfl) (fun _ _ _ h => h) (Or.inl ⟨by kernel_rfl, ?_⟩) (by assumption) ?_; rotate_left; (focus (intro w hSw; (try dsimp only at hSw); go_simp; all_goals with_reducible rfl)); (try simp only [Act.put, List.getElem_toArray, List.getElem_cons_succ, List.getElem_cons_zero, List.setIfInBounds_toArray, List.set_cons_zero, List.set_cons_succ]))
  (refine wpAnyH_take (i := 24) (v := ?_) rfl (by kernel_rfl) (by kernel_rfl) (by kernel_rfl) (fun _ _ _ h => h) (Or.inl ⟨by kernel_rfl, ?_⟩) (by assumption) ?_; rotate_left; (focus (intro w hSw; (try dsimp only at hSw); go_simp; all_goals with_reducible rfl)); (try simp only [Act.put, List.getElem_toArray, List.getElem_cons_succ, List.getElem_cons_zero, List.setIfInBounds_toArray, List.set_cons_zero, List.set_cons_succ]))
  (refine wpAnyH_take (i := 25) (v := ?_) rfl (by kernel_rfl) (by kernel_rfl) (by kernel_rfl) (fun _ _ _ h => h) (Or.inl ⟨by kernel_rfl, ?_⟩) (by assumption) ?_; rotate_left; (focus (intro w hSw; (try dsimp only at hSw); go_simp; all_goals with_reducible rfl)); (try simp only [Act.put, List.getElem_toArray, List.getElem_cons_succ, List.getElem_cons_zero, List.setIfInBounds_toArray, List.set_cons_zero, List.set_cons_succ]))
  (refine wpAnyH_take (i := 26) (v := ?_) rfl (by kernel_rfl) (by kernel_rfl) (by kernel_rfl) (fun _ _ _ h => h) (Or.inl ⟨by kernel_rfl, ?_⟩) (by assumption) ?_; rotate_left; (focus (intro w hSw; (try dsimp only at hSw); go_simp; all_goals with_reducible rfl)); (try simp only [Act.put, List.getElem_toArray, List.getElem_cons_succ, List.getElem_cons_zero, List.setIfInBounds_toArray, List.set_cons_zero, List.set_cons_succ]))
  (refine wpAnyH_take (i := 27) (v := ?_) rfl (by kernel_rfl) (by kernel_rfl) (by kernel_rfl) (fun _ _ _ h => h) (Or.inl ⟨by kernel_rfl, ?_⟩) (by assumption) ?_; rotate_left; (focus (intro w hSw; (try dsimp only at hSw); go_simp; all_goals with_reducible rfl)); (try simp only [Act.put, List.getElem_toArray, List.getElem_cons_succ, List.getElem_cons_zero, List.setIfInBounds_toArray, List.set_cons_zero, List.set_cons_succ]))
  (refine wpAnyH_take (i := 28) (v := ?_) rfl (by kernel_rfl) (by kernel_rfl) (by kernel_rfl) (fun _ _ _ h => h) (Or.inl ⟨by kernel_rfl, ?_⟩) (by assumption) ?_; rotate_left; (focus (intro w hSw; (try dsimp only at hSw); go_simp; all_goals with_reducible rfl)); (try simp only [Act.put, List.getElem_toArray, List.getElem_cons_succ, List.getElem_cons_zero, List.setIfInBounds_toArray, List.set_cons_zero, List.set_cons_succ]))
  (refine wpAnyH_ready (rs := [2]) (by kernel_rfl) (by simp) ?_; refine AllReadyH.cons rfl (fun K hK => ?_) AllReadyH.nil; go_simp)
  go_at_call 34; refine (HK.out.1 _ (HI.out _ B0.drew)).mono ?_
  rintro e w1 ⟨F1, cF1, rfl, ownw1, bw1⟩
  have Bw1 : Below W0.heap.size W0 w1 := Below.trans (B0.drew) (bw1.mono (by first | omega | (simp <;> omega)))
  have zw1 := Bw1.size
  (refine hK.out _ _ ?_ (fun hHeld => ?_))
  · exact hS _ Bw1
  clear hK K
  (try simp only [Act.put, List.getElem_toArray, List.getElem_cons_succ, List.getElem_cons_zero, List.setIfInBounds_toArray, List.set_cons_zero, List.set_cons_succ])
  (refine wpAnyH_ready (rs := [3]) (by kernel_rfl) (by simp) ?_; refine AllReadyH.cons rfl (fun K hK => ?_) AllReadyH.nil; go_simp)
  go_at_call 33; refine (under_of netS F1 cF1 E1 _ _ ownw1 o1 (by omega) (by decide)).mono ?_
  rintro e w2 ⟨U1, cU1, rfl, ownw2, bw2⟩
  have Bw2 : Below W0.heap.size W0 w2 := Below.trans (Bw1) (bw2.mono (by first | omega | (simp <;> omega)))
  have zw2 := Bw2.size
  (refine hK.out _ _ ?_ (fun hHeld => ?_))
  · exact hS _ Bw2
  clear hK K
  (try simp only [Act.put, List.getElem_toArray, List.getElem_cons_succ, List.getElem_cons_zero, List.setIfInBounds_toArray, List.set_cons_zero, List.set_cons_succ])
  as_aux_lemma =>
    (refine wpAnyH_ready (rs := [8]) (by kernel_rfl) (by simp) ?_; refine AllReadyH.cons rfl (fun K hK => ?_) AllReadyH.nil; go_simp)
    go_at_call 35; refine (HK.out.2.1 _ (HI.out _ Bw2)).mono ?_
    rintro e w3 ⟨F2, cF2, rfl, ownw3, bw3⟩
    have Bw3 : Below W0.heap.size W0 w3 := Below.trans (Bw2) (bw3.mono (by first | omega | (simp <;> omega)))
    have zw3 := Bw3.size
    (refine hK.out _ _ ?_ (fun hHeld => ?_))
    · exact hS _ Bw3
    clear hK K
    (try simp only [Act.put, List.getElem_toArray, List.getElem_cons_succ, List.getElem_cons_zero, List.setIfInBounds_toArray, List.set_cons_zero, List.set_cons_succ])
    (refine wpAnyH_ready (rs := [9]) (by kernel_rfl) (by simp) ?_; refine AllReadyH.cons rfl (fun K hK => ?_) AllReadyH.nil; go_simp)
    go_at_call 33; refine (under_of typesS F2 cF2 E2 _ _ ownw3 o2 (by omega) (by decide)).mono ?_
    rintro e w4 ⟨U2, cU2, rfl, ownw4, bw4⟩
    have Bw4 : Below W0.heap.size W0 w4 := Below.trans (Bw3) (bw4.mono (by first | omega | (simp <;> omega)))
    have zw4 := Bw4.size
    (refine hK.out _ _ ?_ (fun hHeld => ?_))
    · exact hS _ Bw4
    clear hK K
    (try simp only [Act.put, List.getElem_toArray, List.getElem_cons_succ, List.getElem_cons_zero, List.setIfInBounds_toArray, List.set_cons_zero, List.set_cons_succ])
    as_aux_lemma =>
      (refine wpAnyH_ready (rs := [14]) (by kernel_rfl) (by simp) ?_; refine AllReadyH.cons rfl (fun K hK => ?_) AllReadyH.nil; go_simp)
      go_at_call 37
      refine (HK.out.2.2.2.2 _ (HI.out _ Bw4)).mono ?_
      rintro e we ⟨rfl, rfl⟩
      (refine hK.out _ _ ?_ (fun hHeld => ?_))
      · exact hS _ Bw4
      clear hK K
      (try simp only [Act.put, List.getElem_toArray, List.getElem_cons_succ, List.getElem_cons_zero, List.setIfInBounds_toArray, List.set_cons_zero, List.set_cons_succ])
      (refine wpAnyH_ready (rs := [20]) (by kernel_rfl) (by simp) ?_; refine AllReadyH.cons rfl (fun K hK => ?_) AllReadyH.nil; go_simp)
      go_at_call 36; refine (HK.out.2.2.1 _ (HI.out _ Bw4)).mono ?_
      rintro e w5 ⟨F3, cF3, rfl, ownw5, bw5⟩
      have Bw5 : Below W0.heap.size W0 w5 := Below.trans (Bw4) (bw5.mono (by first | omega | (simp <;> omega)))
      have zw5 := Bw5.size
      (refine hK.out _ _ ?_ (fun hHeld => ?_))
      · exact hS _ Bw5
      clear hK K
      (try simp only [Act.put, List.getElem_toArray, List.getElem_cons_succ, List.getElem_cons_zero, List.setIfInBounds_toArray, List.set_cons_zero, List.set_cons_succ])
      (refine wpAnyH_ready (rs := [21]) (by kernel_rfl) (by simp) ?_; refine AllReadyH.cons rfl (fun K hK => ?_) AllReadyH.nil; go_simp)
      go_at_call 33; refine (under_of ordersS F3 cF3 E3 _ _ ownw5 o3 (by omega) (by decide)).mono ?_
      rintro e w6 ⟨U3, cU3, rfl, ownw6, bw6⟩
      have Bw6 : Below W0.heap.size W0 w6 := Below.trans (Bw5) (bw6.mono (by first | omega | (simp <;> omega)))
      have zw6 := Bw6.size
      (refine hK.out _ _ ?_ (fun hHeld => ?_))
      · exact hS _ Bw6
      clear hK K
      (try simp only [Act.put, List.getElem_toArray, List.getElem_cons_succ, List.getElem_cons_zero, List.setIfInBounds_toArray, List.set_cons_zero, List.set_cons_succ])
      as_aux_lemma =>
        (refine wpAnyH_ready (rs := [29]) (by kernel_rfl) (by simp) ?_; refine AllReadyH.cons rfl (fun K hK => ?_) AllReadyH.nil; go_simp)
        go_at_call 38; refine (HK.out.2.2.2.1 _ (HI.out _ Bw6)).mono ?_
        rintro e w7 ⟨F4, cF4, rfl, ownw7, bw7⟩
        have Bw7 : Below W0.heap.size W0 w7 := Below.trans (Bw6) (bw7.mono (by first | omega | (simp <;> omega)))
        have zw7 := Bw7.size
        (refine hK.out _ _ ?_ (fun hHeld => ?_))
        · exact hS _ Bw7
        clear hK K
        (try simp only [Act.put, List.getElem_toArray, List.getElem_cons_succ, List.getElem_cons_zero, List.setIfInBounds_toArray, List.set_cons_zero, List.set_cons_succ])
        (refine wpAnyH_ready (rs := [30]) (by kernel_rfl) (by simp) ?_; refine AllReadyH.cons rfl (fun K hK => ?_) AllReadyH.nil; go_simp)
        go_at_call 33; refine (under_of rulesS F4 cF4 E4 _ _ ownw7 o4 (by omega) (by decide)).mono ?_
        rintro e w8 ⟨U4, cU4, rfl, ownw8, bw8⟩
        have Bw8 : Below W0.heap.size W0 w8 := Below.trans (Bw7) (bw8.mono (by first | omega | (simp <;> omega)))
        have zw8 := Bw8.size
        (refine hK.out _ _ ?_ (fun hHeld => ?_))
        · exact hS _ Bw8
        clear hK K
        (try simp only [Act.put, List.getElem_toArray, List.getElem_cons_succ, List.getElem_cons_zero, List.setIfInBounds_toArray, List.set_cons_zero, List.set_cons_succ])
        (refine wpAnyH_ready (rs := [31]) (by kernel_rfl) (by simp) ?_; refine AllReadyH.cons rfl (fun K hK => ?_) AllReadyH.nil)
        go_simp
        have B9 : Below W0.heap.size W0 (w8.alloc (.cells #[.slice U1 (undL netS E1).length cU1, .slice U2 (undL typesS E2).length cU2, .slice U3 (undL ordersS E3).length cU3, .slice U4 (undL rulesS E4).length cU4] 35)) := Bw8.alloc zw8 _
        (refine hK.out _ _ ?_ (fun hHeld => ?_))
        · exact hS _ B9
        clear hK K
        (try simp only [Act.put, List.getElem_toArray, List.getElem_cons_succ, List.getElem_cons_zero, List.setIfInBounds_toArray, List.set_cons_zero, List.set_cons_succ])
        have u2 := rowF (keepF (keepF (keepF (keepF (keepF (keepF ownw2 bw3) bw4) bw5) bw6) bw7) bw8)
        have u4 := rowF (keepF (keepF (keepF (keepF ownw4 bw5) bw6) bw7) bw8)
        have u6 := rowF (keepF (keepF ownw6 bw7) bw8)
        have HFR := Lib.hid (four_rows w8 u2 u4 u6 (rowF ownw8) cU1 cU2 cU3 cU4 35)
        clear u2 u4 u6
        (refine wpAnyH_ready (rs := [32]) (by kernel_rfl) (by simp) ?_; refine AllReadyH.cons rfl (fun K hK => ?_) AllReadyH.nil; go_simp)
        go_at_call 32
        refine (concat_any (some ⟨w8.heap.size, 0, none⟩) 4 [undL netS E1, undL typesS E2, undL ordersS E3, undL rulesS E4] _ (by have h := HFR.out; rw [World.size_alloc]; exact h) (Nat.le_trans (Nat.le_refl 4) (by omega)) HEL.out).mono ?_
        rintro e w9 ⟨G, cG, rfl, hownG, hbG⟩
        have BG : Below W0.heap.size W0 w9 := B9.trans (hbG.mono B9.size)
        (refine hK.out _ _ ?_ (fun hHeld => ?_))
        · exact hS _ BG
        clear hK K
        (try simp only [Act.put, List.getElem_toArray, List.getElem_cons_succ, List.getElem_cons_zero, List.setIfInBounds_toArray, List.set_cons_zero, List.set_cons_succ])
        (refine wpAnyH_take (i := 33) (v := ?_) rfl (by kernel_rfl) (by kernel_rfl) (by kernel_rfl) (fun _ _ _ h => h) (Or.inl ⟨by kernel_rfl, ?_⟩) (by assumption) ?_; rotate_left; (focus (intro w hSw; (try dsimp only at hSw); go_simp; all_goals with_reducible rfl)); (try simp only [Act.put, List.getElem_toArray, List.getElem_cons_succ, List.getElem_cons_zero, List.setIfInBounds_toArray, List.set_cons_zero, List.set_cons_succ]))
        (refine wpAnyH_done (by kernel_rfl) ?_ _)
        go_wp2_with fail
        go_ret
        have e : catL [undL netS E1, undL typesS E2, undL ordersS E3, undL rulesS E4] [undL netS E1, undL typesS E2, undL ordersS E3, undL rulesS E4].length = E := HE.out.symm
        rw [e] at hownG
        exact ⟨G, cG, by rw [HE.out]; rfl, own_less hownG (by have := B9.size; omega), hB0.trans (BG.mono z0)⟩
end Go.Proofs.YtceceomaheobhaaDoor.ins

/- slices.Index of numbers. Portable. -/
namespace Go.Proofs.YtceceomaheobhaaDoor.idx
open Go.RowKit
open Go.Proofs.YtceceomaheobhaaDoor.lib Go.Proofs.YtceceomaheobhaaDoor.rd
set_option linter.unusedVariables false
set_option linter.unusedSimpArgs false

/-- The place of a number in a list, from k on. -/
def idxGo (n : Int) : List Int → Int → Int
  | [], _ => -1
  | x :: xs, k => if n = x then k else idxGo n xs (k + 1)
def idxI (l : List Int) (n : Int) : Int := idxGo n l 0
theorem idx_yes {l : List Int} {n : Int} {k : Nat} {x : Int} (h : l[k]? = some x) (hx : n = x) : idxGo n (l.drop k) k = k := by rw [drop_at h, idxGo, if_pos hx]
theorem idx_no {l : List Int} {n : Int} {k : Nat} {x : Int} (h : l[k]? = some x) (hx : ¬ n = x) : idxGo n (l.drop k) k = idxGo n (l.drop (k + 1)) ((k + 1 : Nat) : Int) := by rw [drop_at h, idxGo, if_neg hx]; rfl
theorem idx_end {l : List Int} {n : Int} {k : Nat} (h : l.length ≤ k) (z : Int) : idxGo n (l.drop k) z = -1 := by rw [List.drop_of_length_le h]; rfl
set_option maxHeartbeats 1000000 in
theorem index_any (A : Option Addr) (c : Nat) (l : List Int) (n : Int) (w : World) (B : Nat) (hl : Ints w B A l) :
    Calls Tryd.prog 55 #[.slice A l.length c, .int .i64 n] w fun e w' => e = .returned (.int .i64 (idxI l n)) ∧ w = w' := by
  have hlen := hl.len
  have HR : Hid (idxI l n = idxGo n (l.drop 0) ((0 : Nat) : Int)) := Lib.hid rfl
  obtain ⟨R, hR⟩ : ∃ R, idxI l n = R := ⟨_, rfl⟩
  rw [hR] at HR ⊢
  clear hR
  go_enter Tryd.func55, Tryd.ntmps55
  go_wp2
  go_loop [5, 8] (fun _ i => ∃ k : Nat, k ≤ l.length ∧ i = .int .i64 k ∧ Hid (R = idxGo n (l.drop k) (k : Int))) (fun _ i => l.length - (intOf i).toNat)
  case atStart => exact ⟨0, by omega, rfl, HR⟩
  case round =>
    obtain ⟨k, hk, rfl, hr⟩ := hrel
    by_cases hlt : k < l.length
    · obtain ⟨ad, x, rfl, hadb, hx, hcx⟩ := hl.at_ hlt
      have hk0 : (0 : Int) ≤ (k : Int) := by omega
      have hkn : (k : Int) < (l.length : Int) := by omega
      have HY : Hid (n = x → R = k) := Lib.hid fun h => by rw [hr.out]; exact idx_yes hx h
      have HN : Hid (¬ n = x → R = idxGo n (l.drop (k + 1)) ((k + 1 : Nat) : Int)) := Lib.hid fun h => by rw [hr.out]; exact idx_no hx h
      clear hx
      cases hq : (n == x)
      · have HZ := Lib.hid (HN.out (by intro e; subst e; simp at hq))
        go_wp2
        go_round
        case rel => exact ⟨k + 1, by omega, by go_num, HZ⟩
        case measure => simp [intOf]; omega
      · have HZ := Lib.hid (HY.out (by simpa using hq))
        go_wp2
        go_ret
        exact ⟨ret_int HZ.out.symm, rfl⟩
    · have HZ : Hid (R = -1) := Lib.hid (by rw [hr.out, idx_end (by omega)])
      go_wp2
      go_ret
      exact ⟨ret_int HZ.out.symm, rfl⟩
end Go.Proofs.YtceceomaheobhaaDoor.idx

/- Pairs renumbered: renumber. -/
namespace Go.Proofs.YtceceomaheobhaaDoor.ren
open Go.RowKit
open Go.Proofs.YtceceomaheobhaaDoor.lib Go.Proofs.YtceceomaheobhaaDoor.rd Go.Proofs.YtceceomaheobhaaDoor.eqg Go.Proofs.YtceceomaheobhaaDoor.idx Go.Proofs.YtceceomaheobhaaDoor.app
set_option linter.unusedVariables false
set_option linter.unusedSimpArgs false

theorem two_elem : ElemOf 28 65 (.agg #[.int .i64 0, .int .i64 0]) 2 16 := ⟨Tryd.underlying28, by kernel_rfl, rfl, by decide, by decide⟩
def tcs (ps : List (Int × Int)) : List Value := ps.flatMap fun p => [.int .i64 p.1, .int .i64 p.2]
theorem tcs_snoc (ps : List (Int × Int)) (p : Int × Int) : tcs (ps ++ [p]) = tcs ps ++ [.int .i64 p.1, .int .i64 p.2] := by simp [tcs]
def TwosOut (w : World) (ps : List (Int × Int)) (e : Ending) (w' : World) : Prop := ∃ A c, e = .returned (.slice A ps.length c) ∧ w'.ownsRow w.heap.size 65 2 (.slice A ps.length c) ps.length (tcs ps) ∧ Below w.heap.size w w'
def renP (old : List Int) (p : Int × Int) : List (Int × Int) := if 0 ≤ idxI old p.1 ∧ 0 ≤ idxI old p.2 then [(idxI old p.1, idxI old p.2)] else []
def renL (old : List Int) (l : List (Int × Int)) : List (Int × Int) := l.flatMap (renP old)
theorem renL_take {old : List Int} {l : List (Int × Int)} {k : Nat} {x : Int × Int} (h : l[k]? = some x) : renL old (l.take (k + 1)) = renL old (l.take k) ++ renP old x := by
  obtain ⟨h1, h2⟩ := List.getElem?_eq_some_iff.1 h
  unfold renL
  rw [List.take_succ_eq_append_getElem h1, h2, List.flatMap_append]
  simp
theorem renL_len (old : List Int) : ∀ l : List (Int × Int), (renL old l).length ≤ l.length
  | [] => by simp [renL]
  | x :: l => by
    have ih := renL_len old l
    unfold renL at ih ⊢
    rw [List.flatMap_cons, List.length_append, List.length_cons]
    have : (renP old x).length ≤ 1 := by unfold renP; split <;> simp
    omega

set_option maxRecDepth 20000 in
set_option maxHeartbeats 4000000 in
theorem renumber_any (A : Option Addr) (c : Nat) (l : List (Int × Int)) (A' : Option Addr) (c' : Nat) (old : List Int) (w : World) (hL : RowAt (rPair rInt rInt) w w.heap.size A l) (hO : Ints w w.heap.size A' old) (hl : l.length ≤ 1000000) :
    Calls Tryd.prog 39 #[.slice A l.length c, .slice A' old.length c'] w (TwosOut w (renL old l)) := by
  obtain ⟨n, hn⟩ : ∃ n, l.length = n := ⟨_, rfl⟩
  have HN := Lib.hid hn
  have HLEN : Hid (∀ k, k ≤ n → (renL old (l.take k)).length ≤ k) := Lib.hid fun k hk => by have := renL_len old (l.take k); rw [List.length_take] at this; omega
  rw [hn] at hl ⊢
  clear hn
  go_enter Tryd.func39, Tryd.ntmps39
  go_wp2
  go_loopw [5, 7, 8, 9, 12] (fun v _ _ _ i wr => ∃ (k : Nat) (A2 : Option Addr) (c2 : Nat), k ≤ n ∧ i = .int .i64 k ∧ v = .slice A2 (renL old (l.take k)).length c2 ∧ wr.ownsRow w.heap.size 65 2 (.slice A2 (renL old (l.take k)).length c2) (renL old (l.take k)).length (tcs (renL old (l.take k))) ∧ Below w.heap.size w wr) (fun _ _ _ _ i _ => n - (intOf i).toNat)
  case atStart => exact ⟨0, none, 0, by omega, rfl, rfl, World.ownsRow_nil _ _ _ _, Below.refl _ _⟩
  case round =>
    obtain ⟨k, A2, c2, hk, rfl, rfl, hown, hb⟩ := hrel
    have hz := hb.size
    by_cases hlt : k < n
    · obtain ⟨x, hx⟩ : ∃ x, l[k]? = some x := ⟨_, List.getElem?_eq_getElem (by rw [HN.out]; exact hlt)⟩
      obtain ⟨ad, rfl, hadb, ⟨m0, m1⟩, _⟩ := row_Two (hL.below hb) hx
      have hk0 : (0 : Int) ≤ (k : Int) := by omega
      have hkn : (k : Int) < (n : Int) := by omega
      have HT := Lib.hid (renL_take (old := old) hx)
      have hlk := HLEN.out k hk
      have HO : Hid (∀ w', Below wr.heap.size wr w' → Ints w' w.heap.size A' old) := Lib.hid fun w' h => hO.below (hb.trans (h.mono hz))
      obtain ⟨ps, hps⟩ : ∃ ps, renL old (l.take k) = ps := ⟨_, rfl⟩
      rw [hps] at hown HT hlk
      simp only [hps]
      clear hx hps
      go_upto_region 5 with fail
      have k0 : (wr.alloc (.cells #[.int .i64 x.1, .int .i64 x.2] 65)).cell? ⟨wr.heap.size, 0, none⟩ = some (.int .i64 x.1) := two_new wr _ _ _ 0 _ rfl
      have k1 : (wr.alloc (.cells #[.int .i64 x.1, .int .i64 x.2] 65)).cell? ⟨wr.heap.size, 1, none⟩ = some (.int .i64 x.2) := two_new wr _ _ _ 1 _ rfl
      obtain ⟨W1, hW1⟩ : ∃ W1, wr.alloc (.cells #[.int .i64 x.1, .int .i64 x.2] 65) = W1 := ⟨_, rfl⟩
      have B1 : Below wr.heap.size wr W1 := by rw [← hW1]; exact (Below.refl _ _).alloc (Nat.le_refl _) _
      have hown1 : W1.ownsRow w.heap.size 65 2 (.slice A2 ps.length c2) ps.length (tcs ps) := by rw [← hW1]; exact hown.alloc _
      rw [hW1] at k0 k1 ⊢
      have hS : ∀ w', Below W1.heap.size W1 w' → (Below W1.heap.size W1 w' ∧ w'.cell? ⟨wr.heap.size, 0, none⟩ = some (.int .i64 x.1) ∧ w'.cell? ⟨wr.heap.size, 1, none⟩ = some (.int .i64 x.2)) := fun w' h => ⟨h, (h.cell (p := ⟨wr.heap.size, 0, none⟩) (block_lt_of_cell k0)).trans k0, (h.cell (p := ⟨wr.heap.size, 1, none⟩) (block_lt_of_cell k1)).trans k1⟩
      clear hW1 m0 m1
      (refine wp_region_held_drew (S := (fun w' => Below W1.heap.size W1 w' ∧ w'.cell? ⟨wr.heap.size, 0, none⟩ = some (.int .i64 x.1) ∧ w'.cell? ⟨wr.heap.size, 1, none⟩ = some (.int .i64 x.2))) (by kernel_rfl) ?_ (fun hHeld => ?_))
      · exact hS _ ((Below.refl _ _).drew)
      (refine wpAnyH_take (i := 0) (v := ?_) rfl (by kernel_rfl) (by kernel_rfl) (by kernel_rfl) (fun _ _ _ h => h) (Or.inl ⟨by kernel_rfl, ?_⟩) (by assumption) ?_; rotate_left; (focus (intro w hSw; (try dsimp only at hSw); go_simp; all_goals with_reducible rfl)); (try simp only [Act.put, List.getElem_toArray, List.getElem_cons_succ, List.getElem_cons_zero, List.setIfInBounds_toArray, List.set_cons_zero, List.set_cons_succ]))
      (refine wpAnyH_take (i := 1) (v := ?_) rfl (by kernel_rfl) (by kernel_rfl) (by kernel_rfl) (fun _ _ _ h => h) (Or.inl ⟨by kernel_rfl, ?_⟩) (by assumption) ?_; rotate_left; (focus (intro w hSw; (try dsimp only at hSw); go_simp; all_goals with_reducible rfl)); (try simp only [Act.put, List.getElem_toArray, List.getElem_cons_succ, List.getElem_cons_zero, List.setIfInBounds_toArray, List.set_cons_zero, List.set_cons_succ]))
      (refine wpAnyH_take (i := 2) (v := ?_) rfl (by kernel_rfl) (by kernel_rfl) (by kernel_rfl) (fun _ _ _ h => h) (Or.inl ⟨by kernel_rfl, ?_⟩) (by assumption) ?_; rotate_left; (focus (intro w hSw; (try dsimp only at hSw); go_simp; all_goals with_reducible rfl)); (try simp only [Act.put, List.getElem_toArray, List.getElem_cons_succ, List.getElem_cons_zero, List.setIfInBounds_toArray, List.set_cons_zero, List.set_cons_succ]))
      (refine wpAnyH_take (i := 4) (v := ?_) rfl (by kernel_rfl) (by kernel_rfl) (by kernel_rfl) (fun _ _ _ h => h) (Or.inl ⟨by kernel_rfl, ?_⟩) (by assumption) ?_; rotate_left; (focus (intro w hSw; (try dsimp only at hSw); go_simp; all_goals with_reducible rfl)); (try simp only [Act.put, List.getElem_toArray, List.getElem_cons_succ, List.getElem_cons_zero, List.setIfInBounds_toArray, List.set_cons_zero, List.set_cons_succ]))
      (refine wpAnyH_take (i := 5) (v := ?_) rfl (by kernel_rfl) (by kernel_rfl) (by kernel_rfl) (fun _ _ _ h => h) (Or.inl ⟨by kernel_rfl, ?_⟩) (by assumption) ?_; rotate_left; (focus (intro w hSw; (try dsimp only at hSw); go_simp; all_goals with_reducible rfl)); (try simp only [Act.put, List.getElem_toArray, List.getElem_cons_succ, List.getElem_cons_zero, List.setIfInBounds_toArray, List.set_cons_zero, List.set_cons_succ]))
      (refine wpAnyH_take (i := 6) (v := ?_) rfl (by kernel_rfl) (by kernel_rfl) (by kernel_rfl) (fun _ _ _ h => h) (Or.inl ⟨by kernel_rfl, ?_⟩) (by assumption) ?_; rotate_left; (focus (intro w hSw; (try dsimp only at hSw); go_simp; all_goals with_reducible rfl)); (try simp only [Act.put, List.getElem_toArray, List.getElem_cons_succ, List.getElem_cons_zero, List.setIfInBounds_toArray, List.set_cons_zero, List.set_cons_succ]))
      (refine wpAnyH_ready (rs := [3]) (by kernel_rfl) (by simp) ?_; refine AllReadyH.cons rfl (fun K hK => ?_) AllReadyH.nil; go_simp)
      go_at_call 55
      refine (index_any A' c' old x.1 _ _ (HO.out _ (B1.trans (((Below.refl _ _).drew).mono B1.size)))).mono ?_
      rintro e w2 ⟨rfl, rfl⟩
      (refine hK.out _ _ ?_ (fun hHeld => ?_))
      · exact hS _ ((Below.refl _ _).drew)
      clear hK K
      (try simp only [Act.put, List.getElem_toArray, List.getElem_cons_succ, List.getElem_cons_zero, List.setIfInBounds_toArray, List.set_cons_zero, List.set_cons_succ])
      (refine wpAnyH_ready (rs := [7]) (by kernel_rfl) (by simp) ?_; refine AllReadyH.cons rfl (fun K hK => ?_) AllReadyH.nil; go_simp)
      go_at_call 55
      refine (index_any A' c' old x.2 _ _ (HO.out _ (B1.trans (((Below.refl _ _).drew).mono B1.size)))).mono ?_
      rintro e w2 ⟨rfl, rfl⟩
      (refine hK.out _ _ ?_ (fun hHeld => ?_))
      · exact hS _ ((Below.refl _ _).drew)
      clear hK K
      (try simp only [Act.put, List.getElem_toArray, List.getElem_cons_succ, List.getElem_cons_zero, List.setIfInBounds_toArray, List.set_cons_zero, List.set_cons_succ])
      (refine wpAnyH_take (i := 8) (v := ?_) rfl (by kernel_rfl) (by kernel_rfl) (by kernel_rfl) (fun _ _ _ h => h) (Or.inl ⟨by kernel_rfl, ?_⟩) (by assumption) ?_; rotate_left; (focus (intro w hSw; (try dsimp only at hSw); go_simp; all_goals with_reducible rfl)); (try simp only [Act.put, List.getElem_toArray, List.getElem_cons_succ, List.getElem_cons_zero, List.setIfInBounds_toArray, List.set_cons_zero, List.set_cons_succ]))
      (refine wpAnyH_take (i := 9) (v := ?_) rfl (by kernel_rfl) (by kernel_rfl) (by kernel_rfl) (fun _ _ _ h => h) (Or.inl ⟨by kernel_rfl, ?_⟩) (by assumption) ?_; rotate_left; (focus (intro w hSw; (try dsimp only at hSw); go_simp; all_goals with_reducible rfl)); (try simp only [Act.put, List.getElem_toArray, List.getElem_cons_succ, List.getElem_cons_zero, List.setIfInBounds_toArray, List.set_cons_zero, List.set_cons_succ]))
      (refine wpAnyH_done (by kernel_rfl) ?_ _)
      have Bd : Below wr.heap.size wr (W1.drew) := B1.trans (((Below.refl W1.heap.size W1).drew).mono B1.size)
      have hown2 : (W1.drew).ownsRow w.heap.size 65 2 (.slice A2 ps.length c2) ps.length (tcs ps) := own_below hown1 ((Below.refl _ _).drew)
      obtain ⟨W2, hW2⟩ : ∃ W2, W1.drew = W2 := ⟨_, rfl⟩
      rw [hW2] at hown2 Bd ⊢
      clear hW2 hown1 hown k0 k1
      have HP : Hid (renP old x = if 0 ≤ idxI old x.1 ∧ 0 ≤ idxI old x.2 then [(idxI old x.1, idxI old x.2)] else []) := Lib.hid rfl
      obtain ⟨i1, hi1⟩ : ∃ i, idxI old x.1 = i := ⟨_, rfl⟩
      obtain ⟨i2, hi2⟩ : ∃ i, idxI old x.2 = i := ⟨_, rfl⟩
      rw [hi1, hi2] at HP
      simp only [hi1, hi2]
      clear hi1 hi2
      have z2 := Bd.size
      have BW2 : Below w.heap.size w W2 := hb.trans (Bd.mono hz)
      by_cases h1 : 0 ≤ i1
      · by_cases h2 : 0 ≤ i2
        · have HE : Hid (renL old (l.take (k + 1)) = ps ++ [(i1, i2)]) := Lib.hid (by rw [HT.out, HP.out, if_pos ⟨h1, h2⟩])
          go_wp2_with (at_builtin; refine wpList_app two_elem _ _ rfl w.heap.size A2 ps.length c2 (tcs ps) rfl (hown2.alloc _) ⟨W2.heap.size, 0, none⟩ 1 [.int .i64 i1, .int .i64 i2] rfl rfl (two_new _ _ _ _) (by simp [Value.oneCell']) (by omega) (by simp; omega) rfl ?_; intro g3 c3 w3 hown3 hg3 hd3)
          go_roundw
          case rel => exact ⟨k + 1, some ⟨g3, 0, none⟩, c3, by omega, by go_num, by rw [HE.out, List.length_append]; rfl, by rw [HE.out, List.length_append, tcs_snoc]; exact hown3, (BW2.alloc (by omega) _).grown hg3 (by simp; omega) (fun q e => (World.ownsRow.lt hown2 q e).1)⟩
          case measure => simp [intOf]; omega
        · have HE : Hid (renL old (l.take (k + 1)) = ps) := Lib.hid (by rw [HT.out, HP.out, if_neg (by omega), List.append_nil])
          go_wp2
          go_roundw
          case rel => exact ⟨k + 1, A2, c2, by omega, by go_num, by rw [HE.out], by rw [HE.out]; exact hown2, BW2⟩
          case measure => simp [intOf]; omega
      · have HE : Hid (renL old (l.take (k + 1)) = ps) := Lib.hid (by rw [HT.out, HP.out, if_neg (by omega), List.append_nil])
        go_wp2
        go_roundw
        case rel => exact ⟨k + 1, A2, c2, by omega, by go_num, by rw [HE.out], by rw [HE.out]; exact hown2, BW2⟩
        case measure => simp [intOf]; omega
    · have hkn : k = n := by omega
      subst hkn
      have HE : Hid (renL old (l.take k) = renL old l) := Lib.hid (by rw [List.take_of_length_le (by rw [HN.out]; exact Nat.le_refl _)])
      go_wp2
      go_ret
      rw [HE.out] at hown ⊢
      exact ⟨A2, c2, rfl, hown, hb⟩
end Go.Proofs.YtceceomaheobhaaDoor.ren

/- A row of the call's own whose elements lead to rows of numbers that lie elsewhere. Portable. -/
namespace Go.Proofs.YtceceomaheobhaaDoor.els
open Go.RowKit
open Go.Proofs.YtceceomaheobhaaDoor.lib Go.Proofs.YtceceomaheobhaaDoor.rd Go.Proofs.YtceceomaheobhaaDoor.app
set_option linter.unusedVariables false

/-- An element's cells but for its slice of numbers, and the numbers. -/
structure El where
  pre : List Value
  nums : List Int
  post : List Value
def El.cells (e : El) (A : Option Addr) (c : Nat) : List Value := e.pre ++ (.slice A e.nums.length c :: e.post)
/-- Numbers in memory, in a block of which P holds. -/
def IntsOff (w : World) (P : Nat → Prop) (A : Option Addr) (l : List Int) : Prop := Ints w w.heap.size A l ∧ (0 < l.length → ∃ ad, A = some ad ∧ P ad.block)
theorem IntsOff.low {w : World} {B : Nat} {P : Nat → Prop} {A : Option Addr} {l : List Int} (h : Ints w B A l) (hB : B ≤ w.heap.size) (hP : ∀ b, b < B → P b) : IntsOff w P A l := by
  refine ⟨h.more hB, fun hl => ?_⟩
  obtain ⟨ad, _, hA, hb, _⟩ := h.at_ hl
  exact ⟨ad, hA, hP _ hb⟩
/-- What the call itself has laid. -/
theorem IntsOff.own {w : World} {base c : Nat} {P : Nat → Prop} {A : Option Addr} {l : List Int} {e : TypeId} (h : w.ownsRow base e 1 (.slice A l.length c) l.length (l.map (.int .i64))) (hl : l.length ≤ 17592186043904) (hP : ∀ b, base ≤ b → P b) : IntsOff w P A l := by
  refine ⟨Ints.of_own h hl, fun h0 => ?_⟩
  rcases h.2 with ⟨h5, h6⟩ | ⟨g, cap, cur, h5, h6, h7⟩
  · omega
  · injection h5 with h5 _ _
    exact ⟨_, h5, hP g h6⟩
theorem IntsOff.weak {w : World} {P P' : Nat → Prop} {A : Option Addr} {l : List Int} (h : IntsOff w P A l) (hP : ∀ b, b < w.heap.size → P b → P' b) : IntsOff w P' A l := by
  refine ⟨h.1, fun h0 => ?_⟩
  obtain ⟨ad, hA, hp⟩ := h.2 h0
  obtain ⟨ad', _, hA', hb, _⟩ := h.1.at_ h0
  obtain rfl : ad = ad' := Option.some.inj (hA.symm.trans hA')
  exact ⟨ad, hA, hP _ hb hp⟩
/-- What stays, where a row's block alone is written, and blocks are added. -/
def Stays (w w' : World) (row : Option Nat) : Prop := w.heap.size ≤ w'.heap.size ∧ ∀ p : Addr, p.block < w.heap.size → some p.block ≠ row → w'.cell? p = w.cell? p
theorem Stays.grown {w w' : World} {row : Option Nat} (h : w.grownBy w' row) : Stays w w' row := ⟨h.size, fun p hp hr => by
  cases hc : w.cell? p with
  | some v => exact h.cell hc (by first | exact hr | exact fun e => hr e.symm)
  | none =>
    have h2 := h.block p.block hp (by first | exact hr | exact fun e => hr e.symm)
    unfold World.cell? at hc ⊢
    rw [h2]
    exact hc⟩
theorem Stays.below {w w' : World} {row : Option Nat} (h : Below w.heap.size w w') : Stays w w' row := ⟨h.size, fun p hp _ => h.cell hp⟩
theorem IntsOff.stay {w w' : World} {row : Option Nat} {P P' : Nat → Prop} {A : Option Addr} {l : List Int} (h : IntsOff w P A l) (hs : Stays w w' row) (hne : ∀ b, b < w.heap.size → P b → some b ≠ row) (hP : ∀ b, b < w.heap.size → P b → P' b) : IntsOff w' P' A l := by
  obtain ⟨h1, h2⟩ := h
  rcases Nat.eq_zero_or_pos l.length with h0 | h0
  · have : l = [] := List.eq_nil_of_length_eq_zero h0
    subst this
    exact ⟨⟨⟨rfl, fun h => absurd h (by decide)⟩, by simp⟩, fun h => absurd h (by decide)⟩
  · obtain ⟨ad, hA, hp⟩ := h2 h0
    obtain ⟨⟨hlen, hrd⟩, hl⟩ := h1
    obtain ⟨ad', hA', hb, hc⟩ := hrd h0
    obtain rfl : ad = ad' := Option.some.inj (hA.symm.trans hA')
    refine ⟨⟨⟨hlen, fun _ => ⟨ad, hA, Nat.lt_of_lt_of_le hb hs.1, fun j u hu => ?_⟩⟩, hl⟩, fun _ => ⟨ad, hA, hP _ hb hp⟩⟩
    exact (hs.2 _ (by rw [block_of_add]; exact hb) (by rw [block_of_add]; exact hne _ hb hp)).trans (hc j u hu)

/-- The cells cs are those of the elements xs. -/
inductive ElsIn {X : Type} (f : X → El) (w : World) (P : Nat → Prop) : List Value → List X → Prop
  | nil : ElsIn f w P [] []
  | snoc {cs : List Value} {xs : List X} {x : X} {A : Option Addr} (c : Nat) : ElsIn f w P cs xs → IntsOff w P A (f x).nums → ElsIn f w P (cs ++ (f x).cells A c) (xs ++ [x])
section
variable {X : Type} {f : X → El}
theorem ElsIn.stay {w w' : World} {row : Option Nat} {P P' : Nat → Prop} {cs : List Value} {xs : List X} (h : ElsIn f w P cs xs) (hs : Stays w w' row) (hne : ∀ b, b < w.heap.size → P b → some b ≠ row) (hP : ∀ b, b < w.heap.size → P b → P' b) : ElsIn f w' P' cs xs := by
  induction h with
  | nil => exact .nil
  | snoc c _ hi ih => exact .snoc c ih (hi.stay hs hne hP)
theorem ElsIn.at_ {s : Nat} (hs : ∀ x A c, ((f x).cells A c).length = s) {w : World} {P : Nat → Prop} {cs : List Value} {xs : List X} (h : ElsIn f w P cs xs) :
    cs.length = xs.length * s ∧ ∀ (i : Nat) x, xs[i]? = some x → ∃ A c, IntsOff w P A (f x).nums ∧ ∀ (j : Nat) u, ((f x).cells A c)[j]? = some u → cs[i * s + j]? = some u := by
  induction h with
  | nil => exact ⟨by simp, fun i x hi => by simp at hi⟩
  | @snoc cs xs x A c _ hi ih =>
    obtain ⟨h1, h2⟩ := ih
    refine ⟨by rw [List.length_append, hs, h1, List.length_append, Nat.add_mul]; simp, fun i y hy => ?_⟩
    rcases Nat.lt_or_ge i xs.length with hlt | hge
    · rw [List.getElem?_append_left hlt] at hy
      obtain ⟨A', c', h3, h4⟩ := h2 i y hy
      refine ⟨A', c', h3, fun j u hu => ?_⟩
      have hj : j < s := by rw [← hs y A' c']; exact (List.getElem?_eq_some_iff.1 hu).1
      rw [List.getElem?_append_left, h4 j u hu]
      rw [h1]
      have : (i + 1) * s ≤ xs.length * s := Nat.mul_le_mul_right _ hlt
      rw [Nat.succ_mul] at this
      omega
    · rw [List.getElem?_append_right hge] at hy
      rcases Nat.eq_or_lt_of_le hge with rfl | hlt
      · rw [Nat.sub_self] at hy
        simp at hy
        subst hy
        refine ⟨A, c, hi, fun j u hu => ?_⟩
        rw [List.getElem?_append_right (by rw [h1]; omega), h1, Nat.add_sub_cancel_left]
        exact hu
      · rw [List.getElem?_eq_none (by simp; omega)] at hy; cases hy
/-- The elements, read. -/
theorem ElsIn.row {r : Rd X} {w : World} {base c : Nat} {e : TypeId} {A : Option Addr} {P : Nat → Prop} {cs : List Value} {xs : List X} (h : ElsIn f w P cs xs) (hs : ∀ x A c, ((f x).cells A c).length = r.size)
    (hown : w.ownsRow base e r.size (.slice A xs.length c) xs.length cs) (hr : ∀ x ∈ xs, ∀ A c, Ints w w.heap.size A (f x).nums → r.at_ w w.heap.size ((f x).cells A c) x) (hl : xs.length ≤ 17592186043904) : RowAt r w w.heap.size A xs := by
  obtain ⟨_, h2⟩ := h.at_ hs
  refine ⟨hl, fun i x hi => ?_⟩
  obtain ⟨A', c', h3, h4⟩ := h2 i x hi
  rcases hown.2 with ⟨h5, h6⟩ | ⟨g, cap, cur, h5, h6, h7, h8⟩
  · have := (List.getElem?_eq_some_iff.1 hi).1
    omega
  · injection h5 with h5 _ _
    subst h5
    exact ⟨⟨g, 0, none⟩, _, rfl, (Array.getElem?_eq_some_iff.1 h7).1, hr x (List.mem_of_getElem? hi) A' c' h3.1, fun j u hu => hown.cells (g := g) rfl _ _ (h4 j u hu)⟩
end
/-- Rows of numbers. -/
def elL (l : List Int) : El := ⟨[], l, []⟩
theorem ElsIn.rows2 {w : World} {base c : Nat} {e : TypeId} {A : Option Addr} {P : Nat → Prop} {cs : List Value} {ls : List (List Int)} (h : ElsIn elL w P cs ls) (hown : w.ownsRow base e 1 (.slice A ls.length c) ls.length cs) (hl : ls.length ≤ 17592186043904) : Rows2 w w.heap.size A ls := by
  obtain ⟨_, h2⟩ := h.at_ (s := 1) (fun x A c => rfl)
  refine ⟨hl, cs, Reads.of_own hown, fun i l hi => ?_⟩
  obtain ⟨A', c', h3, h4⟩ := h2 i l hi
  refine ⟨A', c', ?_, h3.1⟩
  have := h4 0 _ rfl
  rw [Nat.mul_one, Nat.add_zero] at this
  exact this
end Go.Proofs.YtceceomaheobhaaDoor.els

/- Parts of instances: plain words, orders in a row of the call's own. -/
namespace Go.Proofs.YtceceomaheobhaaDoor.ins
open Go.RowKit
open Go.Proofs.YtceceomaheobhaaDoor.lib Go.Proofs.YtceceomaheobhaaDoor.rd Go.Proofs.YtceceomaheobhaaDoor.typ Go.Proofs.YtceceomaheobhaaDoor.app Go.Proofs.YtceceomaheobhaaDoor.els Go.Proofs.YtceceomaheobhaaDoor.ren Go.Proofs.YtceceomaheobhaaDoor.ord Go.Proofs.YtceceomaheobhaaDoor.sets
set_option linter.unusedVariables false
set_option linter.unusedSimpArgs false

theorem ord_elem : ElemOf 27 51 (.agg #[.string ⟨#[]⟩, .slice none 0 0, .int .i64 0, .int .i64 0, .int .i64 0, .int .i64 0, .int .i64 0, .int .i64 0, .int .i64 0, .int .i64 0, .int .i64 0, .int .i64 0, .int .i64 0, .int .i64 0, .int .i64 0, .bool false]) 16 152 := ⟨Tryd.underlying27, by kernel_rfl, rfl, by decide, by decide⟩
/-- The orders of a set below k. -/
def selO (s : Int) (l : List Ord) : Nat → List Ord
  | 0 => []
  | k + 1 => selO s l k ++ (match l[k]? with
    | some o => if hasN s k = true then [o] else []
    | none => [])
theorem selO_yes {s : Int} {l : List Ord} {k : Nat} {o : Ord} (h : l[k]? = some o) (hb : hasN s k = true) : selO s l (k + 1) = selO s l k ++ [o] := by
  rw [selO, h]
  simp [hb]
theorem selO_no {s : Int} {l : List Ord} {k : Nat} {o : Ord} (h : l[k]? = some o) (hb : hasN s k = false) : selO s l (k + 1) = selO s l k := by
  rw [selO, h]
  simp [hb]
theorem selO_len (s : Int) (l : List Ord) : ∀ k, (selO s l k).length ≤ k
  | 0 => Nat.le_refl _
  | k + 1 => by
    have ih := selO_len s l k
    rw [selO, List.length_append]
    split
    · split <;> simp <;> omega
    · simp; omega
theorem selO_mem {s : Int} {l : List Ord} : ∀ {k : Nat} {o : Ord}, o ∈ selO s l k → o ∈ l
  | 0, o, h => by cases h
  | k + 1, o, h => by
    rw [selO] at h
    rcases List.mem_append.1 h with h | h
    · exact selO_mem h
    · split at h
      · rename_i o' ho
        split at h
        · rw [List.mem_singleton] at h
          subst h
          exact List.mem_of_getElem? ho
        · cases h
      · cases h
/-- The part of an instance. -/
def onlyI (x : Ins) (s : Int) : Ins := ⟨x.net, x.types, selO s x.orders x.orders.length, renL (memTo s x.orders.length) x.apart, renL (memTo s x.orders.length) x.before⟩
def setBad (s : Int) (n : Nat) : Bool := decide (s < 0) || decide (s / 2 ^ n ≠ 0)
def nilI : Ins := ⟨⟨[], []⟩, [], [], [], []⟩
def nilP : InP := ⟨none, 0, none, 0, none, 0, none, 0, none, 0, none, 0⟩
/-- An order's cells but for its load. -/
def ordEl (o : Ord) : El := ⟨[.string o.name], o.load, [.int .i64 o.pick.place, .int .i64 o.pick.opn, .int .i64 o.pick.close, .int .i64 o.pick.service, .int .i64 o.drop.place, .int .i64 o.drop.opn, .int .i64 o.drop.close, .int .i64 o.drop.service, .int .i64 o.skills, .int .i64 o.penalty, .int .i64 o.split, .int .i64 o.last, .int .i64 o.now, .bool o.off]⟩
theorem ordEl_cells (o : Ord) (A : Option Addr) (c : Nat) : (ordEl o).cells A c = OrdCells o A c := rfl
/-- Rows of elements of two types lie in two blocks. -/
theorem own_ne_type {w : World} {base base' : Nat} {e e' : TypeId} {size size' n n' : Nat} {v v' : Value} {xs xs' : List Value} (h : w.ownsRow base e size v n xs) (h' : w.ownsRow base' e' size' v' n' xs') (hne : e ≠ e') : v.ownBlock = none ∨ v.ownBlock ≠ v'.ownBlock := by
  rcases h.2 with ⟨rfl, _⟩ | ⟨g, cap, cur, rfl, _, hg, _⟩
  · exact .inl rfl
  · right
    intro hb
    rcases h'.2 with ⟨rfl, _⟩ | ⟨g', cap', cur', rfl, _, hg', _⟩
    · cases hb
    · simp [Value.ownBlock] at hb
      subst hb
      rw [hg] at hg'
      injection hg' with hg'
      injection hg' with _ ht
      exact hne ht
theorem own_len_cap {w : World} {base : Nat} {e : TypeId} {size n c : Nat} {A : Option Addr} {xs : List Value} (h : w.ownsRow base e size (.slice A n c) n xs) : n ≤ c := by
  rcases h.2 with ⟨h1, h2⟩ | ⟨g, cap, cur, h1, _, _, h3, _⟩
  · omega
  · injection h1 with _ _ h1
    omega
/-- A block of six cells. -/
def SixAt (w : World) (k : Nat) (cs : List Value) : Prop := w.heap[k]? = some (.cells cs.toArray 30 (0, 0))
def insCs (x : Ins) (P : InP) : List Value := [.slice P.a0 x.net.places.length P.c0, .slice P.a1 x.net.arcs.length P.c1, .slice P.a2 x.types.length P.c2, .slice P.a3 x.orders.length P.c3, .slice P.a4 x.apart.length P.c4, .slice P.a5 x.before.length P.c5]
def nilCs : List Value := [.slice none 0 0, .slice none 0 0, .slice none 0 0, .slice none 0 0, .slice none 0 0, .slice none 0 0]
theorem SixAt.cell {w : World} {k : Nat} {cs : List Value} (h : SixAt w k cs) {j : Nat} {u : Value} (hu : cs[j]? = some u) : w.cell? ((⟨k, 0, none⟩ : Addr).add j) = some u := World.news_of_block (w := w) (B := k) h j u (by simpa using hu)
theorem SixAt.keep {w w' : World} {k : Nat} {cs : List Value} (h : SixAt w k cs) (e : w'.heap[k]? = w.heap[k]?) : SixAt w' k cs := e.trans h
theorem SixAt.below {w w' : World} {k : Nat} {cs : List Value} (h : SixAt w k cs) (hb : Below w.heap.size w w') : SixAt w' k cs := (hb.block k (Array.getElem?_eq_some_iff.1 h).1).trans h
theorem int_elem : ElemOf 37 3 (.int .i64 0) 1 8 := ⟨Tryd.underlying37, by kernel_rfl, rfl, by decide, by decide⟩
theorem ord_int : (51 : TypeId) ≠ 3 := by decide
theorem ordCells_one (o : Ord) (C : Option Addr) (c : Nat) : ∀ u ∈ OrdCells o C c, u.oneCell' = true := fun u hu => by
  simp only [OrdCells, List.mem_cons, List.not_mem_nil, or_false] at hu
  rcases hu with rfl | rfl | rfl | rfl | rfl | rfl | rfl | rfl | rfl | rfl | rfl | rfl | rfl | rfl | rfl | rfl <;> rfl
theorem ord_new (w : World) (o : Ord) (C : Option Addr) (c : Nat) (j : Nat) (u : Value) (h : (OrdCells o C c)[j]? = some u) : (w.alloc (.cells (OrdCells o C c).toArray 51)).cell? ((⟨w.heap.size, 0, none⟩ : Addr).add j) = some u :=
  World.news_of_block (w := w.alloc (.cells (OrdCells o C c).toArray 51)) (B := w.heap.size) (heap_alloc_new w _) j u (by simpa using h)
theorem own_ne_block {w : World} {base : Nat} {e : TypeId} {size n : Nat} {v : Value} {xs : List Value} {P : Nat} {o : Ord} {C : Option Addr} {c : Nat} (h : w.ownsRow base e size v n xs) (hb : OrBlk w P o C c) (hne : e ≠ 51) : v.ownBlock = none ∨ v.ownBlock ≠ some P := by
  rcases h.2 with ⟨rfl, _⟩ | ⟨g, cap, cur, rfl, _, hg, _⟩
  · exact .inl rfl
  · right
    intro hv
    simp [Value.ownBlock] at hv
    subst hv
    unfold OrBlk at hb
    rw [hg] at hb
    injection hb with hb
    injection hb with _ ht
    exact hne ht
/-- Where Only stands: the numbers ns and the orders os, in rows of its own. -/
structure OnlSt (H : Nat) (w : World) (bx : List Value) (ns : List Int) (os : List Ord) (wr : World) (B1 : Option Addr) (d1 : Nat) (B2 : Option Addr) (d2 : Nat) (cs : List Value) : Prop where
  own1 : wr.ownsRow (H + 1 + 1) 3 1 (.slice B1 ns.length d1) ns.length (ns.map (.int .i64))
  own2 : wr.ownsRow (H + 1 + 1) 51 16 (.slice B2 os.length d2) os.length cs
  els : ElsIn ordEl wr (· < H) cs os
  box : SixAt wr H bx
  res : SixAt wr (H + 1) nilCs
  bel : Below H w wr
  sz : H + 1 + 1 ≤ wr.heap.size
section
variable {H : Nat} {w : World} {bx : List Value} {ns : List Int} {os : List Ord} {wr wx : World} {B1 : Option Addr} {d1 : Nat} {B2 : Option Addr} {d2 : Nat} {cs : List Value}
theorem OnlSt.below (h : OnlSt H w bx ns os wr B1 d1 B2 d2 cs) (hb : Below wr.heap.size wr wx) : OnlSt H w bx ns os wx B1 d1 B2 d2 cs := by
  have := h.sz
  exact ⟨own_below h.own1 hb, own_below h.own2 hb, h.els.stay (row := none) (Stays.below hb) (fun b _ _ e => by cases e) (fun b _ hp => hp), h.box.below hb, h.res.below hb, h.bel.trans (hb.mono (by omega)), Nat.le_trans h.sz hb.size⟩
theorem OnlSt.push1 (h : OnlSt H w bx ns os wr B1 d1 B2 d2 cs) {k : Int} {A : Option Addr} {c : Nat}
    (hown : wx.ownsRow (H + 1 + 1) 3 1 (.slice A (ns.length + 1) c) (ns.length + 1) (ns.map (.int .i64) ++ [.int .i64 k])) (hg : wr.grownBy wx (Value.slice B1 ns.length d1).ownBlock) : OnlSt H w bx (ns ++ [k]) os wx A c B2 d2 cs := by
  have hb := fun q e => (World.ownsRow.lt h.own1 q e).1
  have hs := h.sz
  refine ⟨by rw [List.length_append, List.map_append]; exact hown, own_grown h.own2 hg (own_ne_type h.own2 h.own1 ord_int), h.els.stay (Stays.grown hg) (fun b _ hp e => ?_) (fun b _ hp => hp), h.box.keep (hg.block H (by omega) (fun e => ?_)), h.res.keep (hg.block (H + 1) (by omega) (fun e => ?_)), h.bel.grown hg (by omega) (fun q e => ?_), Nat.le_trans hs hg.size⟩
  · have h1 := hb b e.symm
    have h2 : b < H := hp
    omega
  · have := hb _ e.symm; omega
  · have := hb _ e.symm; omega
  · have := hb _ e; omega
theorem OnlSt.push2 (h : OnlSt H w bx ns os wr B1 d1 B2 d2 cs) {o : Ord} {C : Option Addr} {c0 : Nat} {A : Option Addr} {c : Nat} (hI : IntsOff wr (· < H) C o.load)
    (hown : wx.ownsRow (H + 1 + 1) 51 16 (.slice A (os.length + 1) c) (os.length + 1) (cs ++ OrdCells o C c0)) (hg : wr.grownBy wx (Value.slice B2 os.length d2).ownBlock) : OnlSt H w bx ns (os ++ [o]) wx B1 d1 A c (cs ++ OrdCells o C c0) := by
  have hb := fun q e => (World.ownsRow.lt h.own2 q e).1
  have hs := h.sz
  have hne : (Value.slice B1 ns.length d1).ownBlock = none ∨ (Value.slice B1 ns.length d1).ownBlock ≠ (Value.slice B2 os.length d2).ownBlock := own_ne_type h.own1 h.own2 (Ne.symm ord_int)
  have hst : ∀ b, b < wr.heap.size → b < H → some b ≠ (Value.slice B2 os.length d2).ownBlock := fun b _ hp e => by have := hb b e.symm; omega
  refine ⟨own_grown h.own1 hg hne, by rw [List.length_append]; exact hown, ElsIn.snoc c0 (h.els.stay (Stays.grown hg) hst (fun b _ hp => hp)) (hI.stay (Stays.grown hg) hst (fun b _ hp => hp)), h.box.keep (hg.block H (by omega) (fun e => ?_)), h.res.keep (hg.block (H + 1) (by omega) (fun e => ?_)), h.bel.grown hg (by omega) (fun q e => ?_), Nat.le_trans hs hg.size⟩
  · have := hb _ e.symm; omega
  · have := hb _ e.symm; omega
  · have := hb _ e; omega
end
theorem grownBy_set (W : World) (b i : Nat) (v : Value) : W.grownBy (W.setCell ⟨b, i, none⟩ v) (some b) :=
  ⟨rfl, rfl, rfl, (KeepsWalks.setCell W _ v).size, fun k _ hk => Below.heap_setCell _ _ _ k (fun e => hk (by rw [e]))⟩
theorem SixAt.set {w : World} {k : Nat} {cs : List Value} (h : SixAt w k cs) (i : Nat) (u : Value) : SixAt (w.setCell ⟨k, i, none⟩ u) k (cs.set i u) := by
  have h1 := heap_setCell_same w k i cs.toArray 30 u h
  simpa [SixAt] using h1
theorem SixAt.frozen {w : World} {k : Nat} {cs : List Value} (h : SixAt w k cs) (i : Nat) : w.frozen? ⟨k, i, none⟩ = false := by simp [World.frozen?, show w.heap[k]? = _ from h]
section
variable {H : Nat} {w : World} {bx : List Value} {ns : List Int} {os : List Ord} {wr wx : World} {B1 : Option Addr} {d1 : Nat} {B2 : Option Addr} {d2 : Nat} {cs : List Value}
theorem OnlSt.store (h : OnlSt H w bx ns os wr B1 d1 B2 d2 cs) (i : Nat) (u : Value) : OnlSt H w (bx.set i u) ns os (wr.setCell ⟨H, i, none⟩ u) B1 d1 B2 d2 cs := by
  have hs := h.sz
  have hg := grownBy_set wr H i u
  refine ⟨ownsRow_setCell_below h.own1 (by show H < _; omega) u, ownsRow_setCell_below h.own2 (by show H < _; omega) u, h.els.stay (Stays.grown hg) (fun b _ hp e => ?_) (fun b _ hp => hp), h.box.set i u, h.res.keep (Below.heap_setCell _ _ _ _ (by show H + 1 ≠ H; omega)), h.bel.setCell (p := ⟨H, i, none⟩) (Nat.le_refl _) u, Nat.le_trans hs hg.size⟩
  have h2 : b < H := hp
  injection e with e
  omega
theorem OnlSt.ints (h : OnlSt H w bx ns os wr B1 d1 B2 d2 cs) (hl : ns.length ≤ 1000) : Ints wr wr.heap.size B1 ns := Ints.of_own h.own1 (by omega)
theorem OnlSt.orders (h : OnlSt H w bx ns os wr B1 d1 B2 d2 cs) (hl : os.length ≤ 1000) (hf : ∀ o ∈ os, OrdFits o) : RowAt rOrd wr wr.heap.size B2 os :=
  h.els.row (r := rOrd) (fun o A c => rfl) h.own2 (fun o ho A c hi => rOrd_mk hi (hf o ho)) (by omega)
end
theorem two_fits {ps : List (Int × Int)} {w : World} {base c : Nat} {A : Option Addr} (h : w.ownsRow base 65 2 (.slice A ps.length c) ps.length (tcs ps)) (hf : ∀ p ∈ ps, (-100 ≤ p.1 ∧ p.1 ≤ 100000000) ∧ (-100 ≤ p.2 ∧ p.2 ≤ 100000000)) (hl : ps.length ≤ 17592186043904) : RowAt (rPair rInt rInt) w w.heap.size A ps :=
  rowAt_own (r := rPair rInt rInt) (cells := fun p => [.int .i64 p.1, .int .i64 p.2]) (fun _ => rfl) h (fun p hp => ⟨_, _, rfl, ⟨rfl, by have := hf p hp; omega⟩, ⟨rfl, by have := hf p hp; omega⟩⟩) hl (by decide)
/-- What the end keeps. -/
structure OnlT (H : Nat) (w : World) (ns : List Int) (os : List Ord) (ps qs : List (Int × Int)) (wr : World) (B1 : Option Addr) (d1 : Nat) (B2 : Option Addr) (d2 : Nat) (cs : List Value) (E1 : Option Addr) (f1 : Nat) (E2 : Option Addr) (f2 : Nat) : Prop where
  own1 : wr.ownsRow (H + 1 + 1) 3 1 (.slice B1 ns.length d1) ns.length (ns.map (.int .i64))
  own2 : wr.ownsRow (H + 1 + 1) 51 16 (.slice B2 os.length d2) os.length cs
  els : ElsIn ordEl wr (· < H) cs os
  own3 : wr.ownsRow (H + 1 + 1) 65 2 (.slice E1 ps.length f1) ps.length (tcs ps)
  own4 : wr.ownsRow (H + 1 + 1) 65 2 (.slice E2 qs.length f2) qs.length (tcs qs)
  bel : Below H w wr
  sz : H + 1 + 1 ≤ wr.heap.size
section
variable {H : Nat} {w : World} {bx : List Value} {ns : List Int} {os : List Ord} {ps qs : List (Int × Int)} {wr wx : World} {B1 : Option Addr} {d1 : Nat} {B2 : Option Addr} {d2 : Nat} {cs : List Value} {E1 : Option Addr} {f1 : Nat} {E2 : Option Addr} {f2 : Nat}
theorem OnlT.set (h : OnlT H w ns os ps qs wr B1 d1 B2 d2 cs E1 f1 E2 f2) {b : Nat} (hb1 : H ≤ b) (hb2 : b < H + 1 + 1) (i : Nat) (u : Value) : OnlT H w ns os ps qs (wr.setCell ⟨b, i, none⟩ u) B1 d1 B2 d2 cs E1 f1 E2 f2 := by
  have hs := h.sz
  have hg := grownBy_set wr b i u
  refine ⟨ownsRow_setCell_below h.own1 hb2 u, ownsRow_setCell_below h.own2 hb2 u, h.els.stay (Stays.grown hg) (fun b' _ hp e => ?_) (fun b _ hp => hp), ownsRow_setCell_below h.own3 hb2 u, ownsRow_setCell_below h.own4 hb2 u, h.bel.setCell (p := ⟨b, i, none⟩) hb1 u, Nat.le_trans hs hg.size⟩
  have h2 : b' < H := hp
  injection e with e
  omega
theorem OnlT.orders (h : OnlT H w ns os ps qs wr B1 d1 B2 d2 cs E1 f1 E2 f2) (hl : os.length ≤ 1000) (hf : ∀ o ∈ os, OrdFits o) : RowAt rOrd wr wr.heap.size B2 os :=
  h.els.row (r := rOrd) (fun o A c => rfl) h.own2 (fun o ho A c hi => rOrd_mk hi (hf o ho)) (by omega)
end
theorem idxGo_bd (n : Int) : ∀ (l : List Int) (k : Int), 0 ≤ k → -1 ≤ idx.idxGo n l k ∧ idx.idxGo n l k ≤ k + l.length
  | [], k, h => by unfold idx.idxGo; simp; omega
  | x :: l, k, h => by
    unfold idx.idxGo
    split
    · simp; omega
    · have := idxGo_bd n l (k + 1) (by omega)
      simp
      omega
theorem renL_bd {old : List Int} {l : List (Int × Int)} (h : old.length ≤ 1000) : ∀ p ∈ renL old l, (-100 ≤ p.1 ∧ p.1 ≤ 100000000) ∧ (-100 ≤ p.2 ∧ p.2 ≤ 100000000) := fun p hp => by
  unfold renL at hp
  rw [List.mem_flatMap] at hp
  obtain ⟨q, _, hq⟩ := hp
  unfold renP at hq
  split at hq
  · rw [List.mem_singleton] at hq
    subst hq
    have h1 := idxGo_bd q.1 old 0 (by omega)
    have h2 := idxGo_bd q.2 old 0 (by omega)
    unfold idx.idxI
    omega
  · cases hq
end Go.Proofs.YtceceomaheobhaaDoor.ins

/- instance.Only, walked. -/
namespace Go.Proofs.YtceceomaheobhaaDoor.ins
open Go.RowKit
open Go.Proofs.YtceceomaheobhaaDoor.lib Go.Proofs.YtceceomaheobhaaDoor.rd Go.Proofs.YtceceomaheobhaaDoor.typ Go.Proofs.YtceceomaheobhaaDoor.app Go.Proofs.YtceceomaheobhaaDoor.els Go.Proofs.YtceceomaheobhaaDoor.ren Go.Proofs.YtceceomaheobhaaDoor.ord Go.Proofs.YtceceomaheobhaaDoor.sets
set_option linter.unusedVariables false
set_option linter.unusedSimpArgs false

def OnlyBad (w : World) (e : Ending) (w' : World) : Prop := e = .returned (.tuple #[InV nilI nilP, .slice none 0 0, .int .i64 2]) ∧ Below w.heap.size w w'
set_option maxHeartbeats 1000000 in
theorem onlyBad_any (x : Ins) (P : InP) (s : Int) (w : World) (h : x.orders.length ≤ 61) (hs : setBad s x.orders.length = true) : Calls Tryd.prog 15 #[InV x P, .int .i64 s] w (OnlyBad w) := by
  obtain ⟨n, hn⟩ : ∃ n, x.orders.length = n := ⟨_, rfl⟩
  simp only [InV]
  rw [hn] at hs h ⊢
  clear hn
  by_cases h0 : s < 0
  · clear hs
    go_enter Tryd.func15, Tryd.ntmps15
    go_wp2
    refine bodyPost_ret (v := .tuple #[InV nilI nilP, .slice none 0 0, .int .i64 2]) (by simp [results, Tryd.results15, go_sem, InV, nilI, nilP]) rfl ⟨rfl, by repeat (first | assumption | exact Below.refl _ _ | refine Below.drew ?_ | refine Below.alloc ?_ (by first | omega | (simp <;> omega)) _ | refine Below.setCell ?_ (by first | omega | (simp <;> omega)) _)⟩
  · have hq : (s / 2 ^ n != 0) = true := by unfold setBad at hs; simp [h0] at hs; simpa using hs
    have hq2 : (s / 2 ^ n == 0) = false := by simpa using hq
    clear hs
    go_enter Tryd.func15, Tryd.ntmps15
    go_wp2
    refine bodyPost_ret (v := .tuple #[InV nilI nilP, .slice none 0 0, .int .i64 2]) (by simp [results, Tryd.results15, go_sem, InV, nilI, nilP]) rfl ⟨rfl, by repeat (first | assumption | exact Below.refl _ _ | refine Below.drew ?_ | refine Below.alloc ?_ (by first | omega | (simp <;> omega)) _ | refine Below.setCell ?_ (by first | omega | (simp <;> omega)) _)⟩
def OnlyGood (y : Ins) (old : List Int) (w : World) (e : Ending) (w' : World) : Prop := ∃ P A c, e = .returned (.tuple #[InV y P, .slice A old.length c, .int .i64 0]) ∧ InAt w' w'.heap.size y P ∧ w'.ownsRow w.heap.size 3 1 (.slice A old.length c) old.length (old.map (.int .i64)) ∧ Below w.heap.size w w'
theorem and_bit (s : Int) (k : Nat) : (bits .and .i64 (s / 2 ^ k) 1 == 1) = hasN s k := by
  rw [i64_and1]
  unfold hasN pow2
  rw [Bool.eq_iff_iff]
  simp
def insCs' (x : Ins) (n : Nat) (A0 : Option Addr) (c0 : Nat) (A1 : Option Addr) (c1 : Nat) (A2 : Option Addr) (c2 : Nat) (A3 : Option Addr) (c3 : Nat) (A4 : Option Addr) (c4 : Nat) (A5 : Option Addr) (c5 : Nat) : List Value := [.slice A0 x.net.places.length c0, .slice A1 x.net.arcs.length c1, .slice A2 x.types.length c2, .slice A3 n c3, .slice A4 x.apart.length c4, .slice A5 x.before.length c5]
set_option maxRecDepth 20000 in
set_option maxHeartbeats 4000000 in
theorem onlyGood_any (x : Ins) (Q : InP) (s : Int) (w : World) (h : InAt w w.heap.size x Q) (hl : x.orders.length ≤ 61) (ha : x.apart.length ≤ 1000000) (hb : x.before.length ≤ 1000000) (hs : setBad s x.orders.length = false) (hmax : s ≤ 9223372036854775807) :
    Calls Tryd.prog 15 #[InV x Q, .int .i64 s] w (OnlyGood (onlyI x s) (memTo s x.orders.length) w) := by
  obtain ⟨A0, c0, A1, c1, A2, c2, A3, c3, A4, c4, A5, c5⟩ := Q
  obtain ⟨n, hn⟩ : ∃ n, x.orders.length = n := ⟨_, rfl⟩
  obtain ⟨l, hxl⟩ : ∃ l, x.orders = l := ⟨_, rfl⟩
  obtain ⟨h0, hq, hq2⟩ : ¬ s < 0 ∧ (s / 2 ^ n != 0) = false ∧ (s / 2 ^ n == 0) = true := by
    unfold setBad at hs
    rw [hn] at hs
    simp only [Bool.or_eq_false_iff, decide_eq_false_iff_not] at hs
    obtain ⟨h1, h2⟩ := hs
    have h3 : s / 2 ^ n = 0 := by
      by_cases e : s / 2 ^ n = 0
      · exact e
      · exact absurd e h2
    exact ⟨h1, by simp [h3], by simp [h3]⟩
  have HI := Lib.hid h
  have hL := h.orders
  have HY : Hid (onlyI x s = ⟨x.net, x.types, selO s l n, renL (memTo s n) x.apart, renL (memTo s n) x.before⟩) := Lib.hid (by unfold onlyI; rw [hn, hxl])
  have HN : Hid (l.length = n) := Lib.hid (by rw [← hxl]; exact hn)
  rw [hxl] at hL
  rw [hn] at hl
  simp only [InV]
  rw [hn]
  have HAB := Lib.hid (And.intro ha hb)
  have HS2 := Lib.hid (And.intro hq hq2)
  clear hs hn hxl h ha hb hq hq2
  go_enter Tryd.func15, Tryd.ntmps15
  obtain ⟨hq, hq2⟩ := HS2.out
  go_upto_region 5 with fail
  have x1 : SixAt ((w.alloc (.cells (insCs' x n A0 c0 A1 c1 A2 c2 A3 c3 A4 c4 A5 c5).toArray 30)).alloc (.cells nilCs.toArray 30)) w.heap.size (insCs' x n A0 c0 A1 c1 A2 c2 A3 c3 A4 c4 A5 c5) := by
    unfold SixAt
    rw [Below.heap_alloc _ _ _ (by simp)]
    exact World.alloc_heap_new w _
  have x2 : SixAt ((w.alloc (.cells (insCs' x n A0 c0 A1 c1 A2 c2 A3 c3 A4 c4 A5 c5).toArray 30)).alloc (.cells nilCs.toArray 30)) (w.heap.size + 1) nilCs := by
    have h := World.alloc_heap_new (w.alloc (.cells (insCs' x n A0 c0 A1 c1 A2 c2 A3 c3 A4 c4 A5 c5).toArray 30)) (.cells nilCs.toArray 30)
    simpa [SixAt] using h
  obtain ⟨W0, hW0⟩ : ∃ W0, (w.alloc (.cells (insCs' x n A0 c0 A1 c1 A2 c2 A3 c3 A4 c4 A5 c5).toArray 30)).alloc (.cells nilCs.toArray 30) = W0 := ⟨_, rfl⟩
  have hW0' : (w.alloc (.cells #[.slice A0 x.net.places.length c0, .slice A1 x.net.arcs.length c1, .slice A2 x.types.length c2, .slice A3 n c3, .slice A4 x.apart.length c4, .slice A5 x.before.length c5] 30)).alloc (.cells #[.slice none 0 0, .slice none 0 0, .slice none 0 0, .slice none 0 0, .slice none 0 0, .slice none 0 0] 30) = W0 := hW0
  have hB0 : Below w.heap.size w W0 := by rw [← hW0]; exact ((Below.refl _ _).alloc (Nat.le_refl _) _).alloc (by simp) _
  have hs0 : w.heap.size + 1 + 1 = W0.heap.size := by rw [← hW0]; simp
  rw [hW0] at x1 x2
  rw [hW0']
  clear hW0 hW0'
  have hSt : OnlSt w.heap.size w (insCs' x n A0 c0 A1 c1 A2 c2 A3 c3 A4 c4 A5 c5) [] [] W0 none 0 none 0 [] := ⟨World.ownsRow_nil _ _ _ _, World.ownsRow_nil _ _ _ _, .nil, x1, x2, hB0, by omega⟩
  have m3 : W0.cell? ⟨w.heap.size, 3, none⟩ = some (.slice A3 n c3) := x1.cell (j := 3) rfl
  have HS := Lib.hid hSt
  clear x1 x2 hSt hs0 HS2 hq hq2
  go_upto_region 6 with fail
  clear m3
  obtain ⟨bx, hbx⟩ : ∃ bx, insCs' x n A0 c0 A1 c1 A2 c2 A3 c3 A4 c4 A5 c5 = bx := ⟨_, rfl⟩
  have HBX := Lib.hid hbx
  rw [hbx] at HS
  clear hbx
  go_loopw [7, 8, 25] (fun v u i wr => ∃ (k : Nat) (B1 : Option Addr) (d1 : Nat) (B2 : Option Addr) (d2 : Nat) (cs : List Value), k ≤ n ∧ i = .int .i64 k ∧ v = .slice B1 (memTo s k).length d1 ∧ u = .slice B2 (selO s l k).length d2 ∧ Hid (OnlSt w.heap.size w bx (memTo s k) (selO s l k) wr B1 d1 B2 d2 cs)) (fun _ _ i _ => n - (intOf i).toNat)
  case atStart => exact ⟨0, none, 0, none, 0, [], by omega, rfl, rfl, rfl, HS⟩
  case round =>
    clear HS
    obtain ⟨k, B1, d1, B2, d2, cs, hk, rfl, rfl, rfl, HS⟩ := hrel
    have zr := HS.out.sz
    by_cases hlt : k < n
    · obtain ⟨o, ho⟩ : ∃ o, l[k]? = some o := ⟨_, List.getElem?_eq_getElem (by rw [HN.out]; exact hlt)⟩
      obtain ⟨ad, C0, d0, hAd, hadb, hx0, hp1, hofit⟩ := row_Ord (hL.below HS.out.bel) ho
      have hAd' : A3 = some ad := hAd
      subst hAd'
      have hk0 : (0 : Int) ≤ (k : Int) := by omega
      have hkn : (k : Int) < (n : Int) := by omega
      have HXA := Lib.hid hx0
      have HP1 := Lib.hid hp1
      have hlen1 := memTo_len s k
      have hlen2 := selO_len s l k
      have HY1 : Hid (hasN s k = true → memTo s (k + 1) = memTo s k ++ [(k : Int)]) := Lib.hid memTo_yes
      have HN1 : Hid (hasN s k = false → memTo s (k + 1) = memTo s k) := Lib.hid fun h => memTo_no (by rw [h]; decide)
      have HY2 : Hid (hasN s k = true → selO s l (k + 1) = selO s l k ++ [o]) := Lib.hid (selO_yes ho)
      have HN2 : Hid (hasN s k = false → selO s l (k + 1) = selO s l k) := Lib.hid (selO_no ho)
      have HAB2 := Lib.hid (and_bit s k)
      obtain ⟨ns, hns⟩ : ∃ ns, memTo s k = ns := ⟨_, rfl⟩
      obtain ⟨os, hos⟩ : ∃ os, selO s l k = os := ⟨_, rfl⟩
      rw [hns] at HS HY1 HN1 hlen1
      rw [hos] at HS HY2 HN2 hlen2
      simp only [hns, hos]
      clear hx0 hp1 ho hns hos
      have hadb2 : ad.block < wr.heap.size := by omega
      go_upto_region 7 with fail
      go_cut [9, 10] (fun i p wx => i = .int .i64 k ∧ p = .pointer (some ⟨wr.heap.size, 0, none⟩) ∧ OrBlk wx wr.heap.size o C0 d0 ∧ Below wr.heap.size wr wx ∧ wx.heap.size = wr.heap.size + 1)
      case first => as_aux_lemma =>
        obtain ⟨m0, m1, m2, m3, m4, m5, m6, m7, m8, m9, m10, m11, m12, m13, m14, m15⟩ := HXA.out
        go_wp2
        go_meet
        refine ⟨rfl, rfl, ?_, (Below.refl _ _).alloc (Nat.le_refl _) _, by simp⟩
        exact World.alloc_heap_new wr _
      obtain ⟨h9, h10, hblk, hb1, hs1⟩ := hcut
      subst h9
      subst h10
      have HBLK := Lib.hid hblk
      have HS1 := Lib.hid hs1
      have HSC := Lib.hid (HS.out.below hb1)
      have HPC : Hid (IntsOff wc (· < w.heap.size) C0 o.load) := Lib.hid (IntsOff.low (HP1.out.below (hb1.mono (by omega))) (by omega) (fun b hb => hb))
      obtain ⟨P, hP⟩ : ∃ P, wr.heap.size = P := ⟨_, rfl⟩
      rw [hP] at HBLK HS1 ⊢
      have hPc : P < wc.heap.size := by have := HS1.out; omega
      clear hblk hs1 HS HP1 HXA hb1 hP
      go_upto_region 8 with fail
      go_cut [34] (fun v wx => v = .bool (hasN s k) ∧ wc = wx)
      case first => as_aux_lemma =>
        go_wp2
        go_meet
        exact ⟨by rw [HAB2.out], rfl⟩
      obtain ⟨h34, hw34⟩ := hcut
      subst h34
      subst hw34
      clear hAd
      go_upto_if 34 with fail
      have zc := HSC.out.sz
      cases hbit : hasN s k
      case false =>
        have HE1 : Hid (memTo s (k + 1) = ns) := Lib.hid (HN1.out hbit)
        have HE2 : Hid (selO s l (k + 1) = os) := Lib.hid (HN2.out hbit)
        go_wp2
        go_roundw
        case rel => exact ⟨k + 1, B1, d1, B2, d2, cs, by omega, by go_num, by rw [HE1.out], by rw [HE2.out], by rw [HE1.out, HE2.out]; exact HSC⟩
        case measure => simp [intOf]; omega
      case true =>
        have HE1 : Hid (memTo s (k + 1) = ns ++ [(k : Int)]) := Lib.hid (HY1.out hbit)
        have HE2 : Hid (selO s l (k + 1) = os ++ [o]) := Lib.hid (HY2.out hbit)
        go_upto_region 9 with fail
        go_cut [7] (fun v wx => ∃ D1 e1, v = .slice D1 (ns.length + 1) e1 ∧ OnlSt w.heap.size w bx (ns ++ [(k : Int)]) os wx D1 e1 B2 d2 cs ∧ OrBlk wx P o C0 d0 ∧ IntsOff wx (· < w.heap.size) C0 o.load)
        case first => as_aux_lemma =>
          have hst0 := HSC.out
          go_wp2_with (at_builtin; refine wpList_app int_elem _ _ rfl (w.heap.size + 1 + 1) B1 ns.length d1 (ns.map (.int .i64)) rfl (hst0.own1.alloc _) ⟨wc.heap.size, 0, none⟩ 1 [.int .i64 k] rfl rfl (one_new _ _ _) (by simp [Value.oneCell']) (by omega) (by simp; omega) rfl ?_; intro g1 e1 w2 hown1 hg1 hd1)
          go_meet
          have hB1 : Below wc.heap.size wc (wc.alloc (.cells #[.int .i64 k] 3)) := (Below.refl _ _).alloc (Nat.le_refl _) _
          have hst1 := hst0.below hB1
          refine ⟨_, _, rfl, hst1.push1 hown1 hg1, ?_, ?_⟩
          · have hbk : OrBlk (wc.alloc (.cells #[.int .i64 k] 3)) P o C0 d0 := (hB1.block P hPc).trans HBLK.out
            refine (hg1.block P (by simp; omega) (fun e => ?_)).trans hbk
            rcases own_ne_block HSC.out.own1 HBLK.out (Ne.symm ord_int) with h | h
            · rw [h] at e; cases e
            · exact h e.symm
          · refine (HPC.out.stay (row := none) (P' := (· < w.heap.size)) (Stays.below hB1) (fun b _ _ e => by cases e) (fun b _ hp => hp)).stay (Stays.grown hg1) (fun b _ hp e => ?_) (fun b _ hp => hp)
            have := (World.ownsRow.lt hst0.own1 b e.symm).1
            omega
        obtain ⟨D1, e1, hv7, hst, hblk, hpc⟩ := hcut
        subst hv7
        have HSD := Lib.hid hst
        have HPD := Lib.hid hpc
        have zd := hst.sz
        obtain ⟨m0, m1, m2, m3, m4, m5, m6, m7, m8, m9, m10, m11, m12, m13, m14, m15⟩ := hblk.cells
        clear hst hpc hblk HSC HPC HBLK
        go_wp2_with (at_builtin; refine wpList_app ord_elem _ _ rfl (w.heap.size + 1 + 1) B2 os.length d2 cs rfl (HSD.out.own2.alloc _) ⟨_, 0, none⟩ 1 (OrdCells o C0 d0) rfl rfl (ord_new _ o C0 d0) (ordCells_one o C0 d0) (by omega) (by simp; omega) rfl ?_; intro g2 e2 w3 hown2 hg2 hd2)
        go_roundw
        case rel =>
          have hB2 := (Below.refl wc.heap.size wc).alloc (Nat.le_refl _) (.cells (OrdCells o C0 d0).toArray 51)
          exact ⟨k + 1, D1, e1, some ⟨g2, 0, none⟩, e2, _, by omega, by go_num, by rw [HE1.out, List.length_append]; rfl, by rw [HE2.out, List.length_append]; rfl, Lib.hid (by rw [HE1.out, HE2.out]; exact (HSD.out.below hB2).push2 (HPD.out.stay (row := none) (P' := (· < w.heap.size)) (Stays.below hB2) (fun b _ _ e => by cases e) (fun b _ hp => hp)) hown2 hg2)⟩
        case measure => simp [intOf]; omega
    · have hkn : n = k := by omega
      subst hkn
      obtain ⟨ns, hns⟩ : ∃ ns, memTo s n = ns := ⟨_, rfl⟩
      obtain ⟨os, hos⟩ : ∃ os, selO s l n = os := ⟨_, rfl⟩
      have l1 : ns.length ≤ 61 := by rw [← hns]; exact Nat.le_trans (memTo_len s n) hl
      have l2 : os.length ≤ 61 := by rw [← hos]; exact Nat.le_trans (selO_len s l n) hl
      have HFO : Hid (∀ o ∈ os, OrdFits o) := Lib.hid fun o ho => by
        rw [← hos] at ho
        obtain ⟨j, hj⟩ := List.mem_iff_getElem?.1 (selO_mem ho)
        obtain ⟨_, _, _, _, _, _, _, hfit⟩ := row_Ord hL hj
        exact hfit
      have HNS := Lib.hid hns
      rw [hns, hos] at HS HY
      simp only [hns, hos]
      clear hns hos hlt hk hL
      have c3' : wr.cell? ⟨w.heap.size, 3, none⟩ = some (.slice A3 n c3) := HS.out.box.cell (j := 3) (by rw [← HBX.out]; rfl)
      have f3 := HS.out.box.frozen 3
      go_upto_region 12 with fail
      go_cut [] (fun wx => OnlSt w.heap.size w (bx.set 3 (.slice B2 os.length d2)) ns os wx B1 d1 B2 d2 cs)
      case first => as_aux_lemma =>
        go_wp2
        go_meet
        exact HS.out.store 3 _
      clear c3' f3 HS
      have HS := Lib.hid hcut
      clear hcut
      obtain ⟨bx2, hbx2⟩ : ∃ b, bx.set 3 (.slice B2 os.length d2) = b := ⟨_, rfl⟩
      rw [hbx2] at HS
      have HBX2 : Hid (bx2 = [.slice A0 x.net.places.length c0, .slice A1 x.net.arcs.length c1, .slice A2 x.types.length c2, .slice B2 os.length d2, .slice A4 x.apart.length c4, .slice A5 x.before.length c5]) := Lib.hid (by rw [← hbx2, ← HBX.out]; rfl)
      clear hbx2
      go_upto_region 13 with fail
      have HRN : Hid (∀ w', OnlSt w.heap.size w bx2 ns os w' B1 d1 B2 d2 cs → Calls Tryd.prog 39 #[.slice A4 x.apart.length c4, .slice B1 ns.length d1] w' (TwosOut w' (renL ns x.apart)) ∧ Calls Tryd.prog 39 #[.slice A5 x.before.length c5, .slice B1 ns.length d1] w' (TwosOut w' (renL ns x.before))) := Lib.hid fun w' h => by
        have hs := h.sz
        exact ⟨renumber_any A4 c4 x.apart B1 d1 ns w' ((HI.out.apart.below h.bel).more (by omega)) (h.ints (by omega)) HAB.out.1, renumber_any A5 c5 x.before B1 d1 ns w' ((HI.out.before.below h.bel).more (by omega)) (h.ints (by omega)) HAB.out.2⟩
      obtain ⟨rA, hrA⟩ : ∃ r, renL ns x.apart = r := ⟨_, rfl⟩
      obtain ⟨rB, hrB⟩ : ∃ r, renL ns x.before = r := ⟨_, rfl⟩
      rw [hrA, hrB] at HRN HY
      have HrA := Lib.hid hrA
      have HrB := Lib.hid hrB
      clear hrA hrB
      go_cut [] (fun wx => ∃ E1 f1 E2 f2, OnlSt w.heap.size w ((bx2.set 4 (.slice E1 rA.length f1)).set 5 (.slice E2 rB.length f2)) ns os wx B1 d1 B2 d2 cs ∧ wx.ownsRow (w.heap.size + 1 + 1) 65 2 (.slice E1 rA.length f1) rA.length (tcs rA) ∧ wx.ownsRow (w.heap.size + 1 + 1) 65 2 (.slice E2 rB.length f2) rB.length (tcs rB))
      case first =>
        have HB : Hid (∀ w', OnlSt w.heap.size w bx2 ns os w' B1 d1 B2 d2 cs → w'.cell? ⟨w.heap.size, 4, none⟩ = some (.slice A4 x.apart.length c4) ∧ w'.cell? ⟨w.heap.size, 5, none⟩ = some (.slice A5 x.before.length c5) ∧ w'.frozen? ⟨w.heap.size, 4, none⟩ = false ∧ w'.frozen? ⟨w.heap.size, 5, none⟩ = false) := Lib.hid fun w' h => ⟨h.box.cell (j := 4) (by rw [HBX2.out]; rfl), h.box.cell (j := 5) (by rw [HBX2.out]; rfl), h.box.frozen 4, h.box.frozen 5⟩
        have Sd : OnlSt w.heap.size w bx2 ns os wc.drew B1 d1 B2 d2 cs := HS.out.below ((Below.refl _ _).drew)
        (refine wp_region_held_drew (S := (fun _ => True)) (by kernel_rfl) ?_ (fun hHeld => ?_))
        · trivial
        (refine wpAnyH_take (i := 0) (v := ?_) rfl (by kernel_rfl) (by kernel_rfl) (by kernel_rfl) (fun _ _ _ h => h) (Or.inl ⟨by kernel_rfl, ?_⟩) (by assumption) ?_; rotate_left; (focus (intro w hSw; (try dsimp only at hSw); go_simp; all_goals with_reducible rfl)); (try simp only [Act.put, List.getElem_toArray, List.getElem_cons_succ, List.getElem_cons_zero, List.setIfInBounds_toArray, List.set_cons_zero, List.set_cons_succ]))
        (refine wpAnyH_take (i := 2) (v := ?_) rfl (by kernel_rfl) (by kernel_rfl) (by kernel_rfl) (fun _ _ _ h => h) (Or.inl ⟨by kernel_rfl, ?_⟩) (by assumption) ?_; rotate_left; (focus (intro w hSw; (try dsimp only at hSw); go_simp; all_goals with_reducible rfl)); (try simp only [Act.put, List.getElem_toArray, List.getElem_cons_succ, List.getElem_cons_zero, List.setIfInBounds_toArray, List.set_cons_zero, List.set_cons_succ]))
        (refine wpAnyH_take (i := 4) (v := ?_) rfl (by kernel_rfl) (by kernel_rfl) (by kernel_rfl) (fun _ _ _ h => h) (Or.inl ⟨by kernel_rfl, ?_⟩) (by assumption) ?_; rotate_left; (focus (intro w hSw; (try dsimp only at hSw); go_simp; all_goals with_reducible rfl)); (try simp only [Act.put, List.getElem_toArray, List.getElem_cons_succ, List.getElem_cons_zero, List.setIfInBounds_toArray, List.set_cons_zero, List.set_cons_succ]))
        (refine wpAnyH_take (i := 6) (v := ?_) rfl (by kernel_rfl) (by kernel_rfl) (by kernel_rfl) (fun _ _ _ h => h) (Or.inl ⟨by kernel_rfl, ?_⟩) (by assumption) ?_; rotate_left; (focus (intro w hSw; (try dsimp only at hSw); go_simp; all_goals with_reducible rfl)); (try simp only [Act.put, List.getElem_toArray, List.getElem_cons_succ, List.getElem_cons_zero, List.setIfInBounds_toArray, List.set_cons_zero, List.set_cons_succ]))
        obtain ⟨k4, k5, z4, z5⟩ := HB.out _ Sd
        refine wpAnyH_ready (rs := [1, 5]) (by kernel_rfl) (by simp) ?_
        refine AllReadyH.cons rfl (fun K hK => ?_) (AllReadyH.cons rfl (fun K hK => ?_) AllReadyH.nil)
        · go_simp
          refine hK.out _ _ trivial (fun hHeld => ?_)
          clear hK K
          (try simp only [Act.put, List.getElem_toArray, List.getElem_cons_succ, List.getElem_cons_zero, List.setIfInBounds_toArray, List.set_cons_zero, List.set_cons_succ])
          refine wpAnyH_ready (rs := [3, 5]) (by kernel_rfl) (by simp) ?_
          refine AllReadyH.cons rfl (fun K hK => ?_) (AllReadyH.cons rfl (fun K hK => ?_) AllReadyH.nil)
          · skip
            go_simp
            go_at_call 39
            refine (HRN.out _ Sd).1.mono ?_
            rintro e w3 ⟨E1, f1, rfl, own3, b3⟩
            have S3 := (Sd).below b3
            refine hK.out _ _ trivial (fun hHeld => ?_)
            clear hK K
            (try simp only [Act.put, List.getElem_toArray, List.getElem_cons_succ, List.getElem_cons_zero, List.setIfInBounds_toArray, List.set_cons_zero, List.set_cons_succ])
            obtain ⟨k4, k5, z4, z5⟩ := HB.out _ S3
            (refine wpAnyH_ready (rs := [5]) (by kernel_rfl) (by simp) ?_; refine AllReadyH.cons rfl (fun K hK => ?_) AllReadyH.nil)
            go_simp
            refine hK.out _ _ trivial (fun hHeld => ?_)
            clear hK K
            (try simp only [Act.put, List.getElem_toArray, List.getElem_cons_succ, List.getElem_cons_zero, List.setIfInBounds_toArray, List.set_cons_zero, List.set_cons_succ])
            (refine wpAnyH_take (i := 8) (v := ?_) rfl (by kernel_rfl) (by kernel_rfl) (by kernel_rfl) (fun _ _ _ h => h) (Or.inl ⟨by kernel_rfl, ?_⟩) (by assumption) ?_; rotate_left; (focus (intro w hSw; (try dsimp only at hSw); go_simp; all_goals with_reducible rfl)); (try simp only [Act.put, List.getElem_toArray, List.getElem_cons_succ, List.getElem_cons_zero, List.setIfInBounds_toArray, List.set_cons_zero, List.set_cons_succ]))
            (refine wpAnyH_ready (rs := [7]) (by kernel_rfl) (by simp) ?_; refine AllReadyH.cons rfl (fun K hK => ?_) AllReadyH.nil)
            go_simp
            go_at_call 39
            refine (HRN.out _ S3).2.mono ?_
            rintro e w7 ⟨E2, f2, rfl, own7, b7⟩
            have S7 := S3.below b7
            refine hK.out _ _ trivial (fun hHeld => ?_)
            clear hK K
            (try simp only [Act.put, List.getElem_toArray, List.getElem_cons_succ, List.getElem_cons_zero, List.setIfInBounds_toArray, List.set_cons_zero, List.set_cons_succ])
            obtain ⟨k4, k5, z4, z5⟩ := HB.out _ S7
            (refine wpAnyH_ready (rs := [9]) (by kernel_rfl) (by simp) ?_; refine AllReadyH.cons rfl (fun K hK => ?_) AllReadyH.nil)
            go_simp
            refine hK.out _ _ trivial (fun hHeld => ?_)
            clear hK K
            (try simp only [Act.put, List.getElem_toArray, List.getElem_cons_succ, List.getElem_cons_zero, List.setIfInBounds_toArray, List.set_cons_zero, List.set_cons_succ])
            (refine wpAnyH_take (i := 10) (v := ?_) rfl (by kernel_rfl) (by kernel_rfl) (by kernel_rfl) (fun _ _ _ h => h) (Or.inl ⟨by kernel_rfl, ?_⟩) (by assumption) ?_; rotate_left; (focus (intro w hSw; (try dsimp only at hSw); go_simp; all_goals with_reducible rfl)); (try simp only [Act.put, List.getElem_toArray, List.getElem_cons_succ, List.getElem_cons_zero, List.setIfInBounds_toArray, List.set_cons_zero, List.set_cons_succ]))
            (refine wpAnyH_ready (rs := [11]) (by kernel_rfl) (by simp) ?_; refine AllReadyH.cons rfl (fun K hK => ?_) AllReadyH.nil)
            go_simp
            refine hK.out _ _ trivial (fun hHeld => ?_)
            clear hK K
            (try simp only [Act.put, List.getElem_toArray, List.getElem_cons_succ, List.getElem_cons_zero, List.setIfInBounds_toArray, List.set_cons_zero, List.set_cons_succ])
            (refine wpAnyH_done (by kernel_rfl) ?_ _)
            go_wp2
            go_meet
            have own3' := own_below own3 b7
            have sd := Sd.sz
            have s3 := S3.sz
            exact ⟨E1, f1, E2, f2, (S7.store 4 _).store 5 _, ownsRow_setCell_below (ownsRow_setCell_below (own_less own3' sd) (by show w.heap.size < _; omega) _) (by show w.heap.size < _; omega) _, ownsRow_setCell_below (ownsRow_setCell_below (own_less own7 s3) (by show w.heap.size < _; omega) _) (by show w.heap.size < _; omega) _⟩
          · go_simp
            refine hK.out _ _ trivial (fun hHeld => ?_)
            clear hK K
            (try simp only [Act.put, List.getElem_toArray, List.getElem_cons_succ, List.getElem_cons_zero, List.setIfInBounds_toArray, List.set_cons_zero, List.set_cons_succ])
            (refine wpAnyH_ready (rs := [3]) (by kernel_rfl) (by simp) ?_; refine AllReadyH.cons rfl (fun K hK => ?_) AllReadyH.nil)
            go_simp
            go_at_call 39
            refine (HRN.out _ Sd).1.mono ?_
            rintro e w3 ⟨E1, f1, rfl, own3, b3⟩
            have S3 := (Sd).below b3
            refine hK.out _ _ trivial (fun hHeld => ?_)
            clear hK K
            (try simp only [Act.put, List.getElem_toArray, List.getElem_cons_succ, List.getElem_cons_zero, List.setIfInBounds_toArray, List.set_cons_zero, List.set_cons_succ])
            (refine wpAnyH_take (i := 8) (v := ?_) rfl (by kernel_rfl) (by kernel_rfl) (by kernel_rfl) (fun _ _ _ h => h) (Or.inl ⟨by kernel_rfl, ?_⟩) (by assumption) ?_; rotate_left; (focus (intro w hSw; (try dsimp only at hSw); go_simp; all_goals with_reducible rfl)); (try simp only [Act.put, List.getElem_toArray, List.getElem_cons_succ, List.getElem_cons_zero, List.setIfInBounds_toArray, List.set_cons_zero, List.set_cons_succ]))
            (refine wpAnyH_ready (rs := [7]) (by kernel_rfl) (by simp) ?_; refine AllReadyH.cons rfl (fun K hK => ?_) AllReadyH.nil)
            go_simp
            go_at_call 39
            refine (HRN.out _ S3).2.mono ?_
            rintro e w7 ⟨E2, f2, rfl, own7, b7⟩
            have S7 := S3.below b7
            refine hK.out _ _ trivial (fun hHeld => ?_)
            clear hK K
            (try simp only [Act.put, List.getElem_toArray, List.getElem_cons_succ, List.getElem_cons_zero, List.setIfInBounds_toArray, List.set_cons_zero, List.set_cons_succ])
            obtain ⟨k4, k5, z4, z5⟩ := HB.out _ S7
            (refine wpAnyH_ready (rs := [9]) (by kernel_rfl) (by simp) ?_; refine AllReadyH.cons rfl (fun K hK => ?_) AllReadyH.nil)
            go_simp
            refine hK.out _ _ trivial (fun hHeld => ?_)
            clear hK K
            (try simp only [Act.put, List.getElem_toArray, List.getElem_cons_succ, List.getElem_cons_zero, List.setIfInBounds_toArray, List.set_cons_zero, List.set_cons_succ])
            (refine wpAnyH_take (i := 10) (v := ?_) rfl (by kernel_rfl) (by kernel_rfl) (by kernel_rfl) (fun _ _ _ h => h) (Or.inl ⟨by kernel_rfl, ?_⟩) (by assumption) ?_; rotate_left; (focus (intro w hSw; (try dsimp only at hSw); go_simp; all_goals with_reducible rfl)); (try simp only [Act.put, List.getElem_toArray, List.getElem_cons_succ, List.getElem_cons_zero, List.setIfInBounds_toArray, List.set_cons_zero, List.set_cons_succ]))
            (refine wpAnyH_ready (rs := [11]) (by kernel_rfl) (by simp) ?_; refine AllReadyH.cons rfl (fun K hK => ?_) AllReadyH.nil)
            go_simp
            refine hK.out _ _ trivial (fun hHeld => ?_)
            clear hK K
            (try simp only [Act.put, List.getElem_toArray, List.getElem_cons_succ, List.getElem_cons_zero, List.setIfInBounds_toArray, List.set_cons_zero, List.set_cons_succ])
            (refine wpAnyH_done (by kernel_rfl) ?_ _)
            go_wp2
            go_meet
            have own3' := own_below own3 b7
            have sd := Sd.sz
            have s3 := S3.sz
            exact ⟨E1, f1, E2, f2, (S7.store 4 _).store 5 _, ownsRow_setCell_below (ownsRow_setCell_below (own_less own3' sd) (by show w.heap.size < _; omega) _) (by show w.heap.size < _; omega) _, ownsRow_setCell_below (ownsRow_setCell_below (own_less own7 s3) (by show w.heap.size < _; omega) _) (by show w.heap.size < _; omega) _⟩
        · go_simp
          refine hK.out _ _ trivial (fun hHeld => ?_)
          clear hK K
          (try simp only [Act.put, List.getElem_toArray, List.getElem_cons_succ, List.getElem_cons_zero, List.setIfInBounds_toArray, List.set_cons_zero, List.set_cons_succ])
          (refine wpAnyH_ready (rs := [1]) (by kernel_rfl) (by simp) ?_; refine AllReadyH.cons rfl (fun K hK => ?_) AllReadyH.nil)
          go_simp
          refine hK.out _ _ trivial (fun hHeld => ?_)
          clear hK K
          (try simp only [Act.put, List.getElem_toArray, List.getElem_cons_succ, List.getElem_cons_zero, List.setIfInBounds_toArray, List.set_cons_zero, List.set_cons_succ])
          (refine wpAnyH_ready (rs := [3]) (by kernel_rfl) (by simp) ?_; refine AllReadyH.cons rfl (fun K hK => ?_) AllReadyH.nil)
          go_simp
          go_at_call 39
          refine (HRN.out _ Sd).1.mono ?_
          rintro e w3 ⟨E1, f1, rfl, own3, b3⟩
          have S3 := (Sd).below b3
          refine hK.out _ _ trivial (fun hHeld => ?_)
          clear hK K
          (try simp only [Act.put, List.getElem_toArray, List.getElem_cons_succ, List.getElem_cons_zero, List.setIfInBounds_toArray, List.set_cons_zero, List.set_cons_succ])
          (refine wpAnyH_take (i := 8) (v := ?_) rfl (by kernel_rfl) (by kernel_rfl) (by kernel_rfl) (fun _ _ _ h => h) (Or.inl ⟨by kernel_rfl, ?_⟩) (by assumption) ?_; rotate_left; (focus (intro w hSw; (try dsimp only at hSw); go_simp; all_goals with_reducible rfl)); (try simp only [Act.put, List.getElem_toArray, List.getElem_cons_succ, List.getElem_cons_zero, List.setIfInBounds_toArray, List.set_cons_zero, List.set_cons_succ]))
          (refine wpAnyH_ready (rs := [7]) (by kernel_rfl) (by simp) ?_; refine AllReadyH.cons rfl (fun K hK => ?_) AllReadyH.nil)
          go_simp
          go_at_call 39
          refine (HRN.out _ S3).2.mono ?_
          rintro e w7 ⟨E2, f2, rfl, own7, b7⟩
          have S7 := S3.below b7
          refine hK.out _ _ trivial (fun hHeld => ?_)
          clear hK K
          (try simp only [Act.put, List.getElem_toArray, List.getElem_cons_succ, List.getElem_cons_zero, List.setIfInBounds_toArray, List.set_cons_zero, List.set_cons_succ])
          obtain ⟨k4, k5, z4, z5⟩ := HB.out _ S7
          (refine wpAnyH_ready (rs := [9]) (by kernel_rfl) (by simp) ?_; refine AllReadyH.cons rfl (fun K hK => ?_) AllReadyH.nil)
          go_simp
          refine hK.out _ _ trivial (fun hHeld => ?_)
          clear hK K
          (try simp only [Act.put, List.getElem_toArray, List.getElem_cons_succ, List.getElem_cons_zero, List.setIfInBounds_toArray, List.set_cons_zero, List.set_cons_succ])
          (refine wpAnyH_take (i := 10) (v := ?_) rfl (by kernel_rfl) (by kernel_rfl) (by kernel_rfl) (fun _ _ _ h => h) (Or.inl ⟨by kernel_rfl, ?_⟩) (by assumption) ?_; rotate_left; (focus (intro w hSw; (try dsimp only at hSw); go_simp; all_goals with_reducible rfl)); (try simp only [Act.put, List.getElem_toArray, List.getElem_cons_succ, List.getElem_cons_zero, List.setIfInBounds_toArray, List.set_cons_zero, List.set_cons_succ]))
          (refine wpAnyH_ready (rs := [11]) (by kernel_rfl) (by simp) ?_; refine AllReadyH.cons rfl (fun K hK => ?_) AllReadyH.nil)
          go_simp
          refine hK.out _ _ trivial (fun hHeld => ?_)
          clear hK K
          (try simp only [Act.put, List.getElem_toArray, List.getElem_cons_succ, List.getElem_cons_zero, List.setIfInBounds_toArray, List.set_cons_zero, List.set_cons_succ])
          (refine wpAnyH_done (by kernel_rfl) ?_ _)
          go_wp2
          go_meet
          have own3' := own_below own3 b7
          have sd := Sd.sz
          have s3 := S3.sz
          exact ⟨E1, f1, E2, f2, (S7.store 4 _).store 5 _, ownsRow_setCell_below (ownsRow_setCell_below (own_less own3' sd) (by show w.heap.size < _; omega) _) (by show w.heap.size < _; omega) _, ownsRow_setCell_below (ownsRow_setCell_below (own_less own7 s3) (by show w.heap.size < _; omega) _) (by show w.heap.size < _; omega) _⟩
      have HRA : Hid (∀ p ∈ rA, (-100 ≤ p.1 ∧ p.1 ≤ 100000000) ∧ (-100 ≤ p.2 ∧ p.2 ≤ 100000000)) := Lib.hid (by rw [← HrA.out]; exact renL_bd (by omega))
      have HRB : Hid (∀ p ∈ rB, (-100 ≤ p.1 ∧ p.1 ≤ 100000000) ∧ (-100 ≤ p.2 ∧ p.2 ≤ 100000000)) := Lib.hid (by rw [← HrB.out]; exact renL_bd (by omega))
      have lA : rA.length ≤ 1000000 := by rw [← HrA.out]; exact Nat.le_trans (renL_len _ _) HAB.out.1
      have lB : rB.length ≤ 1000000 := by rw [← HrB.out]; exact Nat.le_trans (renL_len _ _) HAB.out.2
      obtain ⟨E1, f1, E2, f2, hst, o3, o4⟩ := hcut
      have HT : Hid (OnlT w.heap.size w ns os rA rB wc B1 d1 B2 d2 cs E1 f1 E2 f2) := Lib.hid ⟨hst.own1, hst.own2, hst.els, o3, o4, hst.bel, hst.sz⟩
      have hbx := hst.box
      have hrs := hst.res
      rw [HBX2.out] at hbx
      have q0 : wc.cell? ⟨w.heap.size, 0, none⟩ = some (.slice A0 x.net.places.length c0) := hbx.cell (j := 0) rfl
      have q1 : wc.cell? ⟨w.heap.size, 1, none⟩ = some (.slice A1 x.net.arcs.length c1) := hbx.cell (j := 1) rfl
      have q2 : wc.cell? ⟨w.heap.size, 2, none⟩ = some (.slice A2 x.types.length c2) := hbx.cell (j := 2) rfl
      have q3 : wc.cell? ⟨w.heap.size, 3, none⟩ = some (.slice B2 os.length d2) := hbx.cell (j := 3) rfl
      have q4 : wc.cell? ⟨w.heap.size, 4, none⟩ = some (.slice E1 rA.length f1) := hbx.cell (j := 4) rfl
      have q5 : wc.cell? ⟨w.heap.size, 5, none⟩ = some (.slice E2 rB.length f2) := hbx.cell (j := 5) rfl
      have r0 : wc.cell? ⟨w.heap.size + 1, 0, none⟩ = some (.slice none 0 0) := hrs.cell (j := 0) rfl
      have r1 : wc.cell? ⟨w.heap.size + 1, 1, none⟩ = some (.slice none 0 0) := hrs.cell (j := 1) rfl
      have r2 : wc.cell? ⟨w.heap.size + 1, 2, none⟩ = some (.slice none 0 0) := hrs.cell (j := 2) rfl
      have r3 : wc.cell? ⟨w.heap.size + 1, 3, none⟩ = some (.slice none 0 0) := hrs.cell (j := 3) rfl
      have r4 : wc.cell? ⟨w.heap.size + 1, 4, none⟩ = some (.slice none 0 0) := hrs.cell (j := 4) rfl
      have r5 : wc.cell? ⟨w.heap.size + 1, 5, none⟩ = some (.slice none 0 0) := hrs.cell (j := 5) rfl
      have g0 := hrs.frozen 0
      have g1 := hrs.frozen 1
      have g2 := hrs.frozen 2
      have g3 := hrs.frozen 3
      have g4 := hrs.frozen 4
      have g5 := hrs.frozen 5
      clear hst o3 o4 hbx hrs
      go_wp2
      refine bodyPost_ret (v := .tuple #[InV ⟨x.net, x.types, os, rA, rB⟩ ⟨A0, c0, A1, c1, A2, c2, B2, d2, E1, f1, E2, f2⟩, .slice B1 ns.length d1, .int .i64 0]) (by simp [results, Tryd.results15, go_sem, InV, r0, r1, r2, r3, r4, r5]) rfl ?_
      have ht := (((((HT.out.set (b := w.heap.size + 1) (by omega) (by omega) 0 (.slice A0 x.net.places.length c0)).set (b := w.heap.size + 1) (by omega) (by omega) 1 (.slice A1 x.net.arcs.length c1)).set (b := w.heap.size + 1) (by omega) (by omega) 2 (.slice A2 x.types.length c2)).set (b := w.heap.size + 1) (by omega) (by omega) 3 (.slice B2 os.length d2)).set (b := w.heap.size + 1) (by omega) (by omega) 4 (.slice E1 rA.length f1)).set (b := w.heap.size + 1) (by omega) (by omega) 5 (.slice E2 rB.length f2)
      rw [HY.out, HNS.out]
      have hi := HI.out
      have hs := ht.sz
      refine ⟨⟨A0, c0, A1, c1, A2, c2, B2, d2, E1, f1, E2, f2⟩, B1, d1, rfl, ⟨(hi.places.below ht.bel).more (by omega), (hi.arcs.below ht.bel).more (by omega), (hi.types.below ht.bel).more (by omega), ht.orders (by omega) HFO.out, two_fits ht.own3 HRA.out (Nat.le_trans lA (by decide)), two_fits ht.own4 HRB.out (Nat.le_trans lB (by decide)), hi.capT, own_len_cap ht.own2, own_len_cap ht.own3, own_len_cap ht.own4⟩, own_less ht.own1 (show w.heap.size ≤ w.heap.size + 1 + 1 by omega), ht.bel⟩
end Go.Proofs.YtceceomaheobhaaDoor.ins

/- The same networks: the reference's word. -/
namespace Go.Proofs.YtceceomaheobhaaDoor.ins
open Go.RowKit
open Go.Proofs.YtceceomaheobhaaDoor.lib Go.Proofs.YtceceomaheobhaaDoor.rd Go.Proofs.YtceceomaheobhaaDoor.typ Go.Proofs.YtceceomaheobhaaDoor.eqg Go.Proofs.YtceceomaheobhaaDoor.note
set_option linter.unusedVariables false
set_option linter.unusedSimpArgs false

def netB (a b : Net) : Bool := eqL sameS a.places b.places && eqL sameA a.arcs b.arcs
theorem arc_cases (x y : Arc) : (sameA x y = false ∧ (x.frm == y.frm) = false ∧ (x.frm != y.frm) = true) ∨ (sameA x y = false ∧ x.frm = y.frm ∧ (x.to == y.to) = false ∧ (x.to != y.to) = true) ∨ (sameA x y = false ∧ x.frm = y.frm ∧ x.to = y.to ∧ (x.profile == y.profile) = false ∧ (x.profile != y.profile) = true) ∨ (sameA x y = false ∧ x.frm = y.frm ∧ x.to = y.to ∧ x.profile = y.profile ∧ (x.miles == y.miles) = false ∧ (x.miles != y.miles) = true) ∨ (sameA x y = (eqL ptEq x.travel y.travel && eqL ptEq x.slow y.slow) ∧ x.frm = y.frm ∧ x.to = y.to ∧ x.profile = y.profile ∧ x.miles = y.miles) := by
  by_cases h1 : x.frm = y.frm
  · by_cases h2 : x.to = y.to
    · by_cases h3 : x.profile = y.profile
      · by_cases h4 : x.miles = y.miles
        · exact .inr (.inr (.inr (.inr ⟨by unfold sameA; simp [h1, h2, h3, h4], h1, h2, h3, h4⟩)))
        · exact .inr (.inr (.inr (.inl ⟨by unfold sameA; simp [h4], h1, h2, h3, by simp [h4], by simp [h4]⟩)))
      · exact .inr (.inr (.inl ⟨by unfold sameA; simp [h3], h1, h2, by simp [h3], by simp [h3]⟩))
    · exact .inr (.inl ⟨by unfold sameA; simp [h2], h1, by simp [h2], by simp [h2]⟩)
  · exact .inl ⟨by unfold sameA; simp [h1], by simp [h1], by simp [h1]⟩
set_option maxRecDepth 20000 in
set_option maxHeartbeats 4000000 in
theorem rnets_any (a b : Net) (A0 : Option Addr) (c0 : Nat) (A1 : Option Addr) (c1 : Nat) (D0 : Option Addr) (d0 : Nat) (D1 : Option Addr) (d1 : Nat) (w : World) (h1 : RowAt rStr w w.heap.size A0 a.places) (h2 : RowAt rArc w w.heap.size A1 a.arcs) (h3 : RowAt rStr w w.heap.size D0 b.places) (h4 : RowAt rArc w w.heap.size D1 b.arcs) :
    Calls Tryd.prog 28 #[.agg #[.slice A0 a.places.length c0, .slice A1 a.arcs.length c1], .agg #[.slice D0 b.places.length d0, .slice D1 b.arcs.length d1]] w fun e w' => e = .returned (.bool (netB a b)) ∧ Below w.heap.size w w' := by
  obtain ⟨R, hR⟩ : ∃ R, netB a b = R := ⟨_, rfl⟩
  have HR : Hid (R = (eqL sameS a.places b.places && eqL sameA a.arcs b.arcs)) := Lib.hid (by rw [← hR]; rfl)
  rw [hR]
  clear hR
  have l1 := h1.len
  have l2 := h2.len
  obtain ⟨n, hn⟩ : ∃ n, a.places.length = n := ⟨_, rfl⟩
  obtain ⟨m, hm⟩ : ∃ m, a.arcs.length = m := ⟨_, rfl⟩
  obtain ⟨n', hn'⟩ : ∃ n, b.places.length = n := ⟨_, rfl⟩
  obtain ⟨m', hm'⟩ : ∃ m, b.arcs.length = m := ⟨_, rfl⟩
  rw [hn] at l1
  rw [hm] at l2
  rw [hn, hm, hn', hm']
  have b2 : ∀ o o', Below w.heap.size w ((w.alloc o).alloc o') := fun o o' => ((Below.refl _ _).alloc (Nat.le_refl _) _).alloc (by simp) _
  by_cases hnn : n = n'
  case neg =>
    have e1 : ((n : Int) == (n' : Int)) = false := by simp; omega
    have e2 : ((n : Int) != (n' : Int)) = true := by simp; omega
    have HT : Hid (R = false) := Lib.hid (by rw [HR.out, eqL_no (by omega)]; rfl)
    clear hnn hn hm hn' hm' h1 h2 h3 h4
    go_enter Tryd.func28, Tryd.ntmps28
    go_wp2
    go_ret
    exact ⟨ret_bool HT.out.symm, b2 _ _⟩
  subst hnn
  by_cases hmm : m = m'
  case neg =>
    have e1 : ((m : Int) == (m' : Int)) = false := by simp; omega
    have e2 : ((m : Int) != (m' : Int)) = true := by simp; omega
    have HT : Hid (R = false) := Lib.hid (by rw [HR.out, eqL_no (p := sameA) (by omega), Bool.and_false])
    clear hmm hn hm hn' hm' h1 h2 h3 h4
    go_enter Tryd.func28, Tryd.ntmps28
    go_wp2
    go_ret
    exact ⟨ret_bool HT.out.symm, b2 _ _⟩
  subst hmm
  have HN := Lib.hid (And.intro (And.intro hn hn') (And.intro hm hm'))
  have HG1 := Lib.hid (eqL_go (p := sameS) (hn.trans hn'.symm))
  have HG2 := Lib.hid (eqL_go (p := sameA) (hm.trans hm'.symm))
  clear hn hm hn' hm'
  obtain ⟨W0, hW0⟩ : ∃ W0, (w.alloc (.cells #[.slice A0 n c0, .slice A1 m c1] 25)).alloc (.cells #[.slice D0 n d0, .slice D1 m d1] 25) = W0 := ⟨_, rfl⟩
  have hB0 : Below w.heap.size w W0 := by rw [← hW0]; exact b2 _ _
  have z0 := hB0.size
  have hs0 : w.heap.size + 1 < W0.heap.size := by rw [← hW0]; simp
  have HS : Hid (∀ w', Below W0.heap.size W0 w' → w'.cell? ⟨w.heap.size, 0, none⟩ = some (.slice A0 n c0) ∧ w'.cell? ⟨w.heap.size, 1, none⟩ = some (.slice A1 m c1) ∧ w'.cell? ⟨w.heap.size + 1, 0, none⟩ = some (.slice D0 n d0) ∧ w'.cell? ⟨w.heap.size + 1, 1, none⟩ = some (.slice D1 m d1)) := Lib.hid fun w' h => by
    have hk := fun (o : Nat) => h.cell (p := ⟨w.heap.size, o, none⟩) (show w.heap.size < W0.heap.size by omega)
    have hk1 := fun (o : Nat) => h.cell (p := ⟨w.heap.size + 1, o, none⟩) hs0
    refine ⟨(hk _).trans ?_, (hk _).trans ?_, (hk1 _).trans ?_, (hk1 _).trans ?_⟩
    all_goals (rw [← hW0]; simp)
  have H1 : Hid (∀ w', Below W0.heap.size W0 w' → RowAt rStr w' W0.heap.size A0 a.places ∧ RowAt rArc w' W0.heap.size A1 a.arcs ∧ RowAt rStr w' W0.heap.size D0 b.places ∧ RowAt rArc w' W0.heap.size D1 b.arcs) := Lib.hid fun w' h => ⟨((h1.below hB0).more z0).below h, ((h2.below hB0).more z0).below h, ((h3.below hB0).more z0).below h, ((h4.below hB0).more z0).below h⟩
  have B0 : Below W0.heap.size W0 W0 := Below.refl _ _
  have HW0 := Lib.hid hW0
  clear hW0 h1 h2 h3 h4 b2
  go_enter Tryd.func28, Tryd.ntmps28
  go_upto_region 1 with fail
  rw [HW0.out]
  obtain ⟨x0, x1, y0, y1⟩ := HS.out _ B0
  go_wp2_with fail
  clear x0 x1 y0 y1
  go_loopw [5] (fun i wr => ∃ k : Nat, k ≤ n ∧ i = .int .i64 k ∧ Hid (eqL sameS a.places b.places = eqGo sameS (a.places.drop k) (b.places.drop k)) ∧ Below W0.heap.size W0 wr) (fun i _ => n - (intOf i).toNat)
  case atStart => exact ⟨0, by omega, rfl, HG1, B0⟩
  case round =>
    obtain ⟨k, hk, rfl, hr, hbel⟩ := hrel
    obtain ⟨x0, x1, y0, y1⟩ := HS.out _ hbel
    by_cases hlt : k < n
    · obtain ⟨x, hx⟩ : ∃ x, a.places[k]? = some x := ⟨_, List.getElem?_eq_getElem (by rw [HN.out.1.1]; exact hlt)⟩
      obtain ⟨y, hy⟩ : ∃ y, b.places[k]? = some y := ⟨_, List.getElem?_eq_getElem (by rw [HN.out.1.2]; exact hlt)⟩
      obtain ⟨ad, rfl, hadb, hc1, _⟩ := row_Str (H1.out _ hbel).1 hx
      obtain ⟨ad', rfl, hadb', hc2, _⟩ := row_Str (H1.out _ hbel).2.2.1 hy
      have HX := Lib.hid (eqGo_step (p := sameS) hx hy)
      have hk0 : (0 : Int) ≤ (k : Int) := by omega
      have hkn : (k : Int) < (n : Int) := by omega
      clear hx hy
      obtain ⟨q, hq⟩ : ∃ q, (x.toList == y.toList) = q := ⟨_, rfl⟩
      have h2 : (x.toList != y.toList) = !q := by simp [bne, hq]
      have HP : Hid (sameS x y = q) := Lib.hid hq
      cases q
      all_goals simp only [Bool.not_true, Bool.not_false] at h2
      all_goals go_wp2
      all_goals go_quiet (fail)
      all_goals go_wp2
      · go_ret
        exact ⟨ret_bool (by rw [HR.out, hr.out, HX.out, HP.out]; rfl), hB0.trans ((bel_drewN hbel _).mono z0)⟩
      · go_roundw
        case rel => exact ⟨k + 1, by omega, by go_num, Lib.hid (by rw [hr.out, HX.out, HP.out, Bool.true_and]), bel_drewN hbel _⟩
        case measure => simp [intOf]; omega
    · have hkn : k = n := by omega
      subst hkn
      have HR1 : Hid (R = eqL sameA a.arcs b.arcs) := Lib.hid (by rw [HR.out, hr.out, eqGo_end (by rw [HN.out.1.1]; exact Nat.le_refl _), Bool.true_and])
      clear hlt
      go_wp2_with fail
      clear x0 x1 y0 y1
      go_loopw [6, 7, 8] (fun i _ _ wr => ∃ k : Nat, k ≤ m ∧ i = .int .i64 k ∧ Hid (eqL sameA a.arcs b.arcs = eqGo sameA (a.arcs.drop k) (b.arcs.drop k)) ∧ Below W0.heap.size W0 wr) (fun i _ _ _ => m - (intOf i).toNat)
      case atStart => exact ⟨0, by omega, rfl, HG2, hbel⟩
      case round =>
        clear hbel
        obtain ⟨k, hk, rfl, hr, hbel⟩ := hrel
        obtain ⟨x0, x1, y0, y1⟩ := HS.out _ hbel
        have hz := hbel.size
        by_cases hlt : k < m
        · obtain ⟨x, hx⟩ : ∃ x, a.arcs[k]? = some x := ⟨_, List.getElem?_eq_getElem (by rw [HN.out.2.1]; exact hlt)⟩
          obtain ⟨y, hy⟩ : ∃ y, b.arcs[k]? = some y := ⟨_, List.getElem?_eq_getElem (by rw [HN.out.2.2]; exact hlt)⟩
          obtain ⟨ad, C0, e0, C1, e1, rfl, hadb, ⟨m0, m1, m2, m3, m4, m5⟩, hp1, hp2, _⟩ := row_Arc (H1.out _ hbel).2.1 hx
          obtain ⟨ad', E0, f0, E1, f1, rfl, hadb', ⟨k0, k1, k2, k3, k4, k5⟩, hp3, hp4, _⟩ := row_Arc (H1.out _ hbel).2.2.2 hy
          have hbb : (ad'.add (k * 6)).block < wr.heap.size := by rw [block_of_add]; omega
          have hq0 : w.heap.size < wr.heap.size := by omega
          have hq1 : w.heap.size + 1 < wr.heap.size := by omega
          have HX := Lib.hid (eqGo_step (p := sameA) hx hy)
          have hk0 : (0 : Int) ≤ (k : Int) := by omega
          have hkn : (k : Int) < (m : Int) := by omega
          have b2 : ∀ o o', Below W0.heap.size W0 ((wr.alloc o).alloc o') := fun o o' => (hbel.alloc hz _).alloc (by simp; omega) _
          have b3 : ∀ o o', Below wr.heap.size wr ((wr.alloc o).alloc o') := fun o o' => ((Below.refl _ _).alloc (Nat.le_refl _) _).alloc (by simp) _
          have HPT : Hid (∀ w', Below wr.heap.size wr w' → RowAt rPt w' w'.heap.size C0 x.travel ∧ RowAt rPt w' w'.heap.size C1 x.slow ∧ RowAt rPt w' w'.heap.size E0 y.travel ∧ RowAt rPt w' w'.heap.size E1 y.slow) := Lib.hid fun w' h => by
            have h9 := h.mono hz
            have h8 := h.size
            exact ⟨(hp1.below h9).more (by omega), (hp2.below h9).more (by omega), (hp3.below h9).more (by omega), (hp4.below h9).more (by omega)⟩
          clear hx hy hp1 hp2 hp3 hp4
          go_upto_region 13 with fail
          go_cut [101] (fun v wx => v = .bool (!sameA x y) ∧ Below W0.heap.size W0 wx)
          case first => as_aux_lemma =>
            clear m0 m1 m2 m3 m4 m5 k0 k1 k2 k3 k4 k5 x0 x1 y0 y1
            rcases arc_cases x y with ⟨e, f⟩ | ⟨e, g1, f⟩ | ⟨e, g1, g2, f⟩ | ⟨e, g1, g2, g3, f⟩ | ⟨e, g1, g2, g3, g4⟩
            · have HE := Lib.hid e
              obtain ⟨f, f'⟩ := f
              clear e
              go_wp2
              go_meet
              exact ⟨by rw [HE.out]; rfl, b2 _ _⟩
            · have HE := Lib.hid e
              obtain ⟨f, f'⟩ := f
              clear e
              go_wp2
              go_meet
              exact ⟨by rw [HE.out]; rfl, b2 _ _⟩
            · have HE := Lib.hid e
              obtain ⟨f, f'⟩ := f
              clear e
              go_wp2
              go_meet
              exact ⟨by rw [HE.out]; rfl, b2 _ _⟩
            · have HE := Lib.hid e
              obtain ⟨f, f'⟩ := f
              clear e
              go_wp2
              go_meet
              exact ⟨by rw [HE.out]; rfl, b2 _ _⟩
            · have HE := Lib.hid e
              clear e
              go_wp2_with fail
              refine (rpoints_any C0 e0 x.travel _ rfl E0 f0 y.travel _ rfl _ _ _ (Nat.le_refl _) (Nat.le_refl _) (HPT.out _ (b3 _ _)).1 (HPT.out _ (b3 _ _)).2.2.1).mono ?_
              rintro e w1 ⟨rfl, hb1⟩
              have hz1 := hb1.size
              simp at hz1
              have hc := fun b o h => hb1.cell (p := ⟨b, o, none⟩) h
              have l3 : wr.heap.size < w1.heap.size := by omega
              have l4 : wr.heap.size + 1 < w1.heap.size := by omega
              have hB : Below wr.heap.size wr w1 := (b3 _ _).trans (hb1.mono (by simp; omega))
              clear hb1
              cases hq1 : eqL ptEq x.travel y.travel
              · have HT : Hid (sameA x y = false) := Lib.hid (by rw [HE.out, hq1]; rfl)
                go_wp2
                go_meet
                exact ⟨by rw [HT.out]; rfl, hbel.trans (hB.mono hz)⟩
              · have HT : Hid (sameA x y = eqL ptEq x.slow y.slow) := Lib.hid (by rw [HE.out, hq1]; rfl)
                go_wp2_with (go_at_call 42; refine (rpoints_any C1 e1 x.slow _ rfl E1 f1 y.slow _ rfl _ _ _ (Nat.le_refl _) (Nat.le_refl _) (HPT.out _ hB).2.1 (HPT.out _ hB).2.2.2).mono ?_; rintro e w2 ⟨rfl, hb2⟩)
                go_meet
                exact ⟨by rw [HT.out], hbel.trans ((hB.trans (hb2.mono hB.size)).mono hz)⟩
          obtain ⟨h101, hbc⟩ := hcut
          subst h101
          clear m0 m1 m2 m3 m4 m5 k0 k1 k2 k3 k4 k5 x0 x1 y0 y1
          cases hq : sameA x y
          · have HP := Lib.hid hq
            go_wp2
            go_ret
            exact ⟨ret_bool (by rw [HR1.out, hr.out, HX.out, HP.out]; rfl), hB0.trans (hbc.mono z0)⟩
          · have HP := Lib.hid hq
            go_wp2
            go_roundw
            case rel => exact ⟨k + 1, by omega, by go_num, Lib.hid (by rw [hr.out, HX.out, HP.out, Bool.true_and]), hbc⟩
            case measure => simp [intOf]; omega
        · have hkn : k = m := by omega
          subst hkn
          have HR2 : Hid (R = true) := Lib.hid (by rw [HR1.out, hr.out, eqGo_end (by rw [HN.out.2.1]; exact Nat.le_refl _)])
          clear hlt
          go_wp2
          go_ret
          exact ⟨ret_bool HR2.out.symm, hB0.trans (hbel.mono z0)⟩
end Go.Proofs.YtceceomaheobhaaDoor.ins

/- The same instances: the program. -/
namespace Go.Proofs.YtceceomaheobhaaDoor.ins
open Go.RowKit
open Go.Proofs.YtceceomaheobhaaDoor.lib Go.Proofs.YtceceomaheobhaaDoor.rd Go.Proofs.YtceceomaheobhaaDoor.typ Go.Proofs.YtceceomaheobhaaDoor.eqg Go.Proofs.YtceceomaheobhaaDoor.note
set_option linter.unusedVariables false
set_option linter.unusedSimpArgs false

def sameI (a b : Ins) : Bool := eqL sameS a.net.places b.net.places && (eqL sameA a.net.arcs b.net.arcs && (eqL flt.sameT a.types b.types && (eqL ord.sameO a.orders b.orders && (eqL twoEq a.apart b.apart && (eqL twoEq a.before b.before)))))
set_option maxRecDepth 20000 in
set_option maxHeartbeats 4000000 in
theorem same_any (a b : Ins) (P Q : InP) (w : World) (hP : InAt w w.heap.size a P) (hQ : InAt w w.heap.size b Q) :
    Calls Tryd.prog 12 #[InV a P, InV b Q] w fun e w' => e = .returned (.bool (sameI a b)) ∧ Below w.heap.size w w' := by
  obtain ⟨A0, c0, A1, c1, A2, c2, A3, c3, A4, c4, A5, c5⟩ := P
  obtain ⟨D0, d0, D1, d1, D2, d2, D3, d3, D4, d4, D5, d5⟩ := Q
  obtain ⟨R, hR⟩ : ∃ R, sameI a b = R := ⟨_, rfl⟩
  have HR0 : Hid (R = (eqL sameS a.net.places b.net.places && (eqL sameA a.net.arcs b.net.arcs && (eqL flt.sameT a.types b.types && (eqL ord.sameO a.orders b.orders && (eqL twoEq a.apart b.apart && (eqL twoEq a.before b.before))))))) := Lib.hid (by rw [← hR]; rfl)
  rw [hR]
  simp only [InV]
  obtain ⟨W0, hW0⟩ : ∃ W0, (w.alloc (.cells #[.slice A0 a.net.places.length c0, .slice A1 a.net.arcs.length c1, .slice A2 a.types.length c2, .slice A3 a.orders.length c3, .slice A4 a.apart.length c4, .slice A5 a.before.length c5] 30)).alloc (.cells #[.slice D0 b.net.places.length d0, .slice D1 b.net.arcs.length d1, .slice D2 b.types.length d2, .slice D3 b.orders.length d3, .slice D4 b.apart.length d4, .slice D5 b.before.length d5] 30) = W0 := ⟨_, rfl⟩
  have hB0 : Below w.heap.size w W0 := by rw [← hW0]; exact ((Below.refl _ _).alloc (Nat.le_refl _) _).alloc (by simp) _
  have z0 := hB0.size
  have hs0 : w.heap.size + 1 < W0.heap.size := by rw [← hW0]; simp
  have HS : Hid (∀ w', Below W0.heap.size W0 w' → w'.cell? ⟨w.heap.size, 0, none⟩ = some (.slice A0 a.net.places.length c0) ∧ w'.cell? ⟨w.heap.size, 1, none⟩ = some (.slice A1 a.net.arcs.length c1) ∧ w'.cell? ⟨w.heap.size, 2, none⟩ = some (.slice A2 a.types.length c2) ∧ w'.cell? ⟨w.heap.size, 3, none⟩ = some (.slice A3 a.orders.length c3) ∧ w'.cell? ⟨w.heap.size, 4, none⟩ = some (.slice A4 a.apart.length c4) ∧ w'.cell? ⟨w.heap.size, 5, none⟩ = some (.slice A5 a.before.length c5) ∧ w'.cell? ⟨w.heap.size + 1, 0, none⟩ = some (.slice D0 b.net.places.length d0) ∧ w'.cell? ⟨w.heap.size + 1, 1, none⟩ = some (.slice D1 b.net.arcs.length d1) ∧ w'.cell? ⟨w.heap.size + 1, 2, none⟩ = some (.slice D2 b.types.length d2) ∧ w'.cell? ⟨w.heap.size + 1, 3, none⟩ = some (.slice D3 b.orders.length d3) ∧ w'.cell? ⟨w.heap.size + 1, 4, none⟩ = some (.slice D4 b.apart.length d4) ∧ w'.cell? ⟨w.heap.size + 1, 5, none⟩ = some (.slice D5 b.before.length d5)) := Lib.hid fun w' h => by
    have hk := fun (o : Nat) => h.cell (p := ⟨w.heap.size, o, none⟩) (show w.heap.size < W0.heap.size by omega)
    have hk1 := fun (o : Nat) => h.cell (p := ⟨w.heap.size + 1, o, none⟩) hs0
    refine ⟨(hk _).trans ?_, (hk _).trans ?_, (hk _).trans ?_, (hk _).trans ?_, (hk _).trans ?_, (hk _).trans ?_, (hk1 _).trans ?_, (hk1 _).trans ?_, (hk1 _).trans ?_, (hk1 _).trans ?_, (hk1 _).trans ?_, (hk1 _).trans ?_⟩
    all_goals (rw [← hW0]; simp)
  have HP : Hid (∀ w', Below W0.heap.size W0 w' → InAt w' w'.heap.size a ⟨A0, c0, A1, c1, A2, c2, A3, c3, A4, c4, A5, c5⟩ ∧ InAt w' w'.heap.size b ⟨D0, d0, D1, d1, D2, d2, D3, d3, D4, d4, D5, d5⟩) := Lib.hid fun w' h => ⟨(hP.go hB0).go h, (hQ.go hB0).go h⟩
  have B0 : Below W0.heap.size W0 W0 := Below.refl _ _
  have HW0 := Lib.hid hW0
  clear hR hW0 hP hQ
  go_enter Tryd.func12, Tryd.ntmps12
  go_wp2_with fail
  rw [HW0.out]
  refine (eqStr_any A0 c0 a.net.places _ rfl D0 d0 b.net.places _ rfl _ _ _ (Nat.le_refl _) (Nat.le_refl _) (HP.out _ B0).1.places (HP.out _ B0).2.places).mono ?_
  rintro e w1 ⟨rfl, hb1⟩
  have B1 : Below W0.heap.size W0 w1 := B0.trans (hb1.mono B0.size)
  obtain ⟨m0, m1, m2, m3, m4, m5, n0, n1, n2, n3, n4, n5⟩ := HS.out _ B1
  cases hq0 : eqL sameS a.net.places b.net.places
  · have HT : Hid (R = false) := Lib.hid (by rw [HR0.out, hq0]; rfl)
    go_wp2
    go_ret
    exact ⟨ret_bool HT.out.symm, hB0.trans (B1.mono z0)⟩
  have HR1 : Hid (R = (eqL sameA a.net.arcs b.net.arcs && (eqL flt.sameT a.types b.types && (eqL ord.sameO a.orders b.orders && (eqL twoEq a.apart b.apart && (eqL twoEq a.before b.before)))))) := Lib.hid (by rw [HR0.out, hq0]; rfl)
  clear hq0 hb1
  go_wp2_with fail
  refine (eqArc_any A1 c1 a.net.arcs _ rfl D1 d1 b.net.arcs _ rfl _ _ _ (Nat.le_refl _) (Nat.le_refl _) (HP.out _ B1).1.arcs (HP.out _ B1).2.arcs).mono ?_
  rintro e w2 ⟨rfl, hb2⟩
  have B2 : Below W0.heap.size W0 w2 := B1.trans (hb2.mono B1.size)
  obtain ⟨m0, m1, m2, m3, m4, m5, n0, n1, n2, n3, n4, n5⟩ := HS.out _ B2
  cases hq1 : eqL sameA a.net.arcs b.net.arcs
  · have HT : Hid (R = false) := Lib.hid (by rw [HR1.out, hq1]; rfl)
    go_wp2
    go_ret
    exact ⟨ret_bool HT.out.symm, hB0.trans (B2.mono z0)⟩
  have HR2 : Hid (R = (eqL flt.sameT a.types b.types && (eqL ord.sameO a.orders b.orders && (eqL twoEq a.apart b.apart && (eqL twoEq a.before b.before))))) := Lib.hid (by rw [HR1.out, hq1]; rfl)
  clear hq1 hb2
  go_wp2_with fail
  refine (eqTy_any A2 c2 a.types _ rfl D2 d2 b.types _ rfl _ _ _ (Nat.le_refl _) (Nat.le_refl _) (HP.out _ B2).1.types (HP.out _ B2).2.types).mono ?_
  rintro e w3 ⟨rfl, hb3⟩
  have B3 : Below W0.heap.size W0 w3 := B2.trans (hb3.mono B2.size)
  obtain ⟨m0, m1, m2, m3, m4, m5, n0, n1, n2, n3, n4, n5⟩ := HS.out _ B3
  cases hq2 : eqL flt.sameT a.types b.types
  · have HT : Hid (R = false) := Lib.hid (by rw [HR2.out, hq2]; rfl)
    go_wp2
    go_ret
    exact ⟨ret_bool HT.out.symm, hB0.trans (B3.mono z0)⟩
  have HR3 : Hid (R = (eqL ord.sameO a.orders b.orders && (eqL twoEq a.apart b.apart && (eqL twoEq a.before b.before)))) := Lib.hid (by rw [HR2.out, hq2]; rfl)
  clear hq2 hb3
  go_wp2_with fail
  refine (eqOrd_any A3 c3 a.orders _ rfl D3 d3 b.orders _ rfl _ _ _ (Nat.le_refl _) (Nat.le_refl _) (HP.out _ B3).1.orders (HP.out _ B3).2.orders).mono ?_
  rintro e w4 ⟨rfl, hb4⟩
  have B4 : Below W0.heap.size W0 w4 := B3.trans (hb4.mono B3.size)
  obtain ⟨m0, m1, m2, m3, m4, m5, n0, n1, n2, n3, n4, n5⟩ := HS.out _ B4
  cases hq3 : eqL ord.sameO a.orders b.orders
  · have HT : Hid (R = false) := Lib.hid (by rw [HR3.out, hq3]; rfl)
    go_wp2
    go_ret
    exact ⟨ret_bool HT.out.symm, hB0.trans (B4.mono z0)⟩
  have HR4 : Hid (R = (eqL twoEq a.apart b.apart && (eqL twoEq a.before b.before))) := Lib.hid (by rw [HR3.out, hq3]; rfl)
  clear hq3 hb4
  go_wp2_with fail
  refine (eqTwo_any A4 c4 a.apart _ rfl D4 d4 b.apart _ rfl _ _ _ (Nat.le_refl _) (Nat.le_refl _) (HP.out _ B4).1.apart (HP.out _ B4).2.apart).mono ?_
  rintro e w5 ⟨rfl, hb5⟩
  have B5 : Below W0.heap.size W0 w5 := B4.trans (hb5.mono B4.size)
  obtain ⟨m0, m1, m2, m3, m4, m5, n0, n1, n2, n3, n4, n5⟩ := HS.out _ B5
  cases hq4 : eqL twoEq a.apart b.apart
  · have HT : Hid (R = false) := Lib.hid (by rw [HR4.out, hq4]; rfl)
    go_wp2
    go_ret
    exact ⟨ret_bool HT.out.symm, hB0.trans (B5.mono z0)⟩
  have HR5 : Hid (R = (eqL twoEq a.before b.before)) := Lib.hid (by rw [HR4.out, hq4]; rfl)
  clear hq4 hb5
  go_wp2_with fail
  refine (eqTwo_any A5 c5 a.before _ rfl D5 d5 b.before _ rfl _ _ _ (Nat.le_refl _) (Nat.le_refl _) (HP.out _ B5).1.before (HP.out _ B5).2.before).mono ?_
  rintro e w6 ⟨rfl, hb6⟩
  have B6 : Below W0.heap.size W0 w6 := B5.trans (hb6.mono B5.size)
  go_wp2
  go_ret
  exact ⟨ret_bool HR5.out.symm, hB0.trans (B6.mono z0)⟩
end Go.Proofs.YtceceomaheobhaaDoor.ins

/- Loads and stores of whole structs in one step: the cells are not unrolled. Portable. -/
namespace Go.Proofs.YtceceomaheobhaaDoor.big
open Go.RowKit
open Go.Proofs.YtceceomaheobhaaDoor.lib Go.Proofs.YtceceomaheobhaaDoor.app
set_option linter.unusedVariables false

/-- What is known of a struct's type. -/
structure StructOf (t : TypeId) (n : Nat) : Prop where
  un : ∃ fs, Tryd.prog.underlying t = some (.struct fs)
  size : (Tryd.prog.info? t).map (·.size) = some n
theorem run_loadB {t : TypeId} {n : Nat} (T : StructOf t n) {w : World} {g : Nat} {cs : Array Value} {fr : Nat × Nat} (hb : w.heap[g]? = some (.cells cs t fr)) (hn : cs.size = n) : (Instr.loadAt t (.pointer (some ⟨g, 0, none⟩))).run Tryd.prog w = .ok (.agg cs) w := by
  obtain ⟨fs, hu⟩ := T.un
  simp only [Instr.loadAt, Instr.sureAddr, Sem.run_bind, Sem.run_pure, Result.andThen]
  exact run_loadVar_row w g t t cs fr _ hb hu rfl (by rw [T.size, hn])
theorem wpList_loadB {t : TypeId} {n : Nat} (T : StructOf t n) {ops : Array Oper} {rest : List Oper} {o : Oper} {a : Act} {Q : Exit → Act → World → Prop} {w : World} (hgd : o.guard = none) (p : Operand) (ho : o.op = Op.load t p)
    (g : Nat) (cs : Array Value) (fr : Nat × Nat) (hp : a.eval p = .pointer (some ⟨g, 0, none⟩)) (hb : w.heap[g]? = some (.cells cs t fr)) (hn : cs.size = n) (h : wpList Tryd.prog ops Q rest (a.put o.dst (.agg cs)) w) : wpList Tryd.prog ops Q (o :: rest) a w := by
  refine wpList_plain hgd fun _ hK => ?_
  have hr := run_loadB T hb hn
  unfold Oper.wp execOp
  simp only [ho, hp, Sem.run_bind, hr, Result.andThen_ok, Sem.run_pure]
  exact hK _ _ h
theorem wpList_storeB {t : TypeId} {n : Nat} (T : StructOf t n) {ops : Array Oper} {rest : List Oper} {o : Oper} {a : Act} {Q : Exit → Act → World → Prop} {w : World} (hgd : o.guard = none) (p v : Operand) (ho : o.op = Op.store t p v)
    (g : Nat) (old cs : Array Value) (hp : a.eval p = .pointer (some ⟨g, 0, none⟩)) (hv : a.eval v = .agg cs) (hb : w.heap[g]? = some (.cells old t (0, 0))) (hold : old.size = n) (hn : cs.size = n) (h1 : cs.all (·.oneCell') = true)
    (h : ∀ w', w'.heap[g]? = some (.cells cs t (0, 0)) → (∀ k, k ≠ g → w'.heap[k]? = w.heap[k]?) → w'.heap.size = w.heap.size → Below g w w' → wpList Tryd.prog ops Q rest (a.put o.dst undef) w') : wpList Tryd.prog ops Q (o :: rest) a w := by
  refine wpList_plain hgd fun _ hK => ?_
  have hr := run_storeVar_row (P := Tryd.prog) w g t t old cs hb (by rw [T.size, hn]) (by rw [hold, hn]) h1
  have hr2 : (Instr.storeAt t (.pointer (some ⟨g, 0, none⟩)) (.agg cs)).run Tryd.prog w = .ok () (w.setRow g cs) := by
    simp only [Instr.storeAt, Instr.sureAddr, Sem.run_bind, Sem.run_pure, Result.andThen]
    exact hr
  unfold Oper.wp execOp
  simp only [ho, hp, hv, Sem.run_bind, hr2, Result.andThen_ok, Sem.run_pure]
  have hot : ∀ k, k ≠ g → (w.setRow g cs).heap[k]? = w.heap[k]? := fun k hk => by
    simp only [World.setRow, Array.getElem?_modify]
    rw [if_neg (fun e => hk e.symm)]
  have hsz : (w.setRow g cs).heap.size = w.heap.size := by simp [World.setRow]
  exact hK _ _ (h _ (setRow_heap w g old cs t (0, 0) hb) hot hsz ⟨rfl, rfl, rfl, Nat.le_of_eq hsz.symm, fun k hk => hot k (by omega)⟩)
/-- The same, by lists. -/
theorem wpList_storeL {t : TypeId} {n : Nat} (T : StructOf t n) {ops : Array Oper} {rest : List Oper} {o : Oper} {a : Act} {Q : Exit → Act → World → Prop} {w : World} (hgd : o.guard = none) (p v : Operand) (ho : o.op = Op.store t p v)
    (g : Nat) (old cs : List Value) (hp : a.eval p = .pointer (some ⟨g, 0, none⟩)) (hv : a.eval v = .agg cs.toArray) (hb : w.heap[g]? = some (.cells old.toArray t (0, 0))) (hold : old.length = n) (hn : cs.length = n) (h1 : ∀ u ∈ cs, u.oneCell' = true)
    (h : ∀ w', w'.heap[g]? = some (.cells cs.toArray t (0, 0)) → (∀ k, k ≠ g → w'.heap[k]? = w.heap[k]?) → w'.heap.size = w.heap.size → Below g w w' → wpList Tryd.prog ops Q rest (a.put o.dst undef) w') : wpList Tryd.prog ops Q (o :: rest) a w :=
  wpList_storeB T hgd p v ho g old.toArray cs.toArray hp hv hb (by simpa using hold) (by simpa using hn) (Array.all_eq_true_iff_forall_mem.2 fun u hu => h1 u (by simpa using hu)) h
/-- A struct built in one step: what the build yields is shown by the kernel. -/
theorem wpList_buildB {t : TypeId} {ops : Array Oper} {rest : List Oper} {o : Oper} {a : Act} {Q : Exit → Act → World → Prop} {w : World} (hgd : o.guard = none) (parts : Array (Nat × Operand)) (ho : o.op = Op.build t parts) (v : Value)
    (hr : ∀ w : World, (Instr.build t (parts.map fun p => (p.1, a.eval p.2))).run Tryd.prog w = .ok v w) (h : wpList Tryd.prog ops Q rest (a.put o.dst v) w) : wpList Tryd.prog ops Q (o :: rest) a w := by
  refine wpList_plain hgd fun _ hK => ?_
  unfold Oper.wp execOp
  simp only [ho, Sem.run_bind, hr, Result.andThen_ok, Sem.run_pure]
  exact hK _ _ h
/-- What a build asks of a struct's type. -/
structure BuildOf (t : TypeId) (z : Value) (places : Array (Nat × Nat)) : Prop where
  un : ∃ fs, Tryd.prog.underlying t = some (.struct fs) ∧ ∀ w, (fs.mapM fun f => do pure (f.offset, ← sizeOf f.type) : Sem (Array (Nat × Nat))).run Tryd.prog w = .ok places w
  zero : ∀ w, (zeroValue t).run Tryd.prog w = .ok z w
theorem run_buildF {t : TypeId} {z : Value} {places : Array (Nat × Nat)} (T : BuildOf t z places) {parts : Array (Nat × Value)} {cells : Array Value} (hf : Instr.fill (places[·]?) z.cells parts.toList = some cells) (w : World) : (Instr.build t parts).run Tryd.prog w = .ok (.agg cells) w := by
  obtain ⟨fs, hu, hp⟩ := T.un
  unfold Instr.build
  simp only [Sem.run_bind, T.zero, Result.andThen_ok, run_underlying hu, hp, hf, Sem.run_pure]
/-- A struct built in one step; the parts, evaluated, as a list. -/
theorem wpList_buildL {t : TypeId} {z : Value} {places : Array (Nat × Nat)} (T : BuildOf t z places) {ops : Array Oper} {rest : List Oper} {o : Oper} {a : Act} {Q : Exit → Act → World → Prop} {w : World} (hgd : o.guard = none) (parts : List (Nat × Operand)) (ho : o.op = Op.build t parts.toArray) (vals : List (Nat × Value)) (cells : List Value)
    (hv : parts.map (fun p => (p.1, a.eval p.2)) = vals) (hf : Instr.fill (places[·]?) z.cells vals = some cells.toArray) (h : wpList Tryd.prog ops Q rest (a.put o.dst (.agg cells.toArray)) w) : wpList Tryd.prog ops Q (o :: rest) a w :=
  wpList_buildB hgd parts.toArray ho (.agg cells.toArray) (fun w => run_buildF T (by rw [List.map_toArray, hv]; exact hf) w) h
/-- A slice literal of structs in one step. -/
theorem wpList_bsliceL {t e : TypeId} {z : Value} {size bytes : Nat} (E : ElemOf t e z size bytes) {ops : Array Oper} {rest : List Oper} {o : Oper} {a : Act} {Q : Exit → Act → World → Prop} {w : World} (hgd : o.guard = none) (len : Nat) (parts : List (Nat × Operand)) (ho : o.op = Op.buildSlice t len parts.toArray)
    (vals : List (Nat × Value)) (cells zs : List Value) (hv : parts.map (fun p => (p.1, a.eval p.2)) = vals) (hl : 0 < len) (hs : len * size ≤ 1000) (hz : (List.range (len * size)).map (fun i => z.cells[i % z.cells.size]!) = zs)
    (hf : Instr.fill (fun i => some (i * size, size)) zs.toArray vals = some cells.toArray) (h : wpList Tryd.prog ops Q rest (a.put o.dst (.slice (some ⟨w.heap.size, 0, none⟩) len len)) (w.alloc (.cells cells.toArray e))) : wpList Tryd.prog ops Q (o :: rest) a w := by
  obtain ⟨i0, hi, hz0, hz1, hz2⟩ := info_parts E.info
  have hp := E.pos
  have hpos : 0 < len * size := Nat.mul_pos hl hp
  refine wpList_buildSlice hgd t e len parts.toArray ho cells.toArray i0 z E.sl hi hz0 (by rw [hz1]; omega) (by rw [hz1]; omega) ?_ h
  have e1 : (Array.range (len * i0.size)).map (fun i => z.cells[i % z.cells.size]!) = zs.toArray := by
    rw [hz1, ← hz]
    apply Array.ext'
    simp
  rw [e1, List.map_toArray, hz1]
  have e2 : (parts.map fun x => match x with | (i, x) => (i, a.eval x)) = vals := by rw [← hv]
  rw [e2]
  exact hf
end Go.Proofs.YtceceomaheobhaaDoor.big

/- A struct that lies anywhere in a row, loaded in one step. Portable. -/
namespace Go.Proofs.YtceceomaheobhaaDoor.big
open Go.RowKit
open Go.Proofs.YtceceomaheobhaaDoor.lib Go.Proofs.YtceceomaheobhaaDoor.app Go.Proofs.YtceceomaheobhaaDoor.rd
set_option linter.unusedVariables false

/-- The cells cs lie from an address on. -/
def CellsAt (w : World) (ad : Addr) (cs : List Value) : Prop := ∀ (j : Nat) (u : Value), cs[j]? = some u → w.cell? (ad.add j) = some u
theorem CellsAt.below {w w' : World} {B : Nat} {ad : Addr} {cs : List Value} (h : CellsAt w ad cs) (hb : Below B w w') (ha : ad.block < B) : CellsAt w' ad cs := fun j u hu => (hb.cell (by rw [block_of_add]; exact ha)).trans (h j u hu)
theorem CellsAt.heap {w w' : World} {ad : Addr} {cs : List Value} (h : CellsAt w ad cs) (hb : w'.heap[ad.block]? = w.heap[ad.block]?) : CellsAt w' ad cs := fun j u hu => by
  rw [← h j u hu]
  unfold World.cell?
  rw [block_of_add, hb]
theorem run_loadS {t : TypeId} {n : Nat} (T : StructOf t n) {w : World} {ad : Addr} {cs : List Value} (hc : CellsAt w ad cs) (hn : cs.length = n) : (Instr.loadAt t (.pointer (some ad))).run Tryd.prog w = .ok (.agg cs.toArray) w := by
  obtain ⟨fs, hu⟩ := T.un
  have hl := run_loadCells_list (P := Tryd.prog) w ad cs hc
  cases hq : Tryd.prog.info? t with
  | none => have := T.size; simp [hq] at this
  | some i =>
    have hs : i.size = cs.length := by
      have := T.size
      rw [hq] at this
      simp at this
      omega
    have hagg : (isAgg t).run Tryd.prog w = .ok true w := by
      unfold isAgg
      rw [Sem.run_bind, run_underlying hu w]
      simp
    simp [Instr.loadAt, Instr.sureAddr, loadVar, Sem.run_bind, hagg, sizeOf, typeInfo, hq, hs, hl]
theorem exec_loadS {t : TypeId} {n : Nat} (T : StructOf t n) {ρ : Operand → Value} {o : Oper} {p : Operand} {ad : Addr} {w : World} {cs : List Value} (ho : o.op = .load t p) (hρ : ρ p = .pointer (some ad)) (hc : CellsAt w ad cs) (hn : cs.length = n) :
    Sem.run Tryd.prog (execOp ρ o) w = .ok (.value (.agg cs.toArray)) w := by
  unfold execOp
  simp only [ho, hρ, Sem.run_bind, run_loadS T hc hn, Result.andThen_ok, Sem.run_pure]
theorem wpList_loadS {t : TypeId} {n : Nat} (T : StructOf t n) {ops : Array Oper} {rest : List Oper} {o : Oper} {a : Act} {Q : Exit → Act → World → Prop} {w : World} (hgd : o.guard = none) (p : Operand) (ho : o.op = Op.load t p)
    (ad : Addr) (cs : List Value) (hp : a.eval p = .pointer (some ad)) (hc : CellsAt w ad cs) (hn : cs.length = n) (h : wpList Tryd.prog ops Q rest (a.put o.dst (.agg cs.toArray)) w) : wpList Tryd.prog ops Q (o :: rest) a w := by
  refine wpList_plain hgd fun _ hK => ?_
  have hr := run_loadS T hc hn
  unfold Oper.wp execOp
  simp only [ho, hp, Sem.run_bind, hr, Result.andThen_ok, Sem.run_pure]
  exact hK _ _ h
/-- The same, guarded or not. -/
theorem wpList_loadG {t : TypeId} {n : Nat} (T : StructOf t n) {ops : Array Oper} {rest : List Oper} {o : Oper} {a : Act} {Q : Exit → Act → World → Prop} {w : World} (p : Operand) (ho : o.op = Op.load t p)
    (ad : Addr) (cs : List Value) (hw : Region.wanted o (yielded ops a.tmps) = true) (hp : a.eval p = .pointer (some ad)) (hc : CellsAt w ad cs) (hn : cs.length = n) (h : wpList Tryd.prog ops Q rest (a.put o.dst (.agg cs.toArray)) w) : wpList Tryd.prog ops Q (o :: rest) a w := by
  refine wpList_step fun _ hK => ?_
  rw [if_pos hw]
  have hr := run_loadS T hc hn
  unfold Oper.wp execOp
  simp only [ho, hp, Sem.run_bind, hr, Result.andThen_ok, Sem.run_pure]
  exact hK _ _ h
end Go.Proofs.YtceceomaheobhaaDoor.big
namespace Go.Proofs.YtceceomaheobhaaDoor.rd
open Go.RowKit
open Go.Proofs.YtceceomaheobhaaDoor.lib Go.Proofs.YtceceomaheobhaaDoor.big
/-- An element of a row. -/
theorem RowAt.elem {X : Type} {r : Rd X} {w : World} {B : Nat} {A : Option Addr} {l : List X} (h : RowAt r w B A l) {i : Nat} {x : X} (hi : l[i]? = some x) : ∃ ad cs, A = some ad ∧ ad.block < B ∧ r.at_ w B cs x ∧ CellsAt w (ad.add (i * r.size)) cs := by
  obtain ⟨ad, cs, h1, h2, h3, h4⟩ := h.2 i x hi
  exact ⟨ad, cs, h1, h2, h3, fun j u hu => by rw [add_of_add]; exact h4 j u hu⟩
end Go.Proofs.YtceceomaheobhaaDoor.rd

/- The same instances: the reference's word. -/
namespace Go.Proofs.YtceceomaheobhaaDoor.ins
open Go.RowKit
open Go.Proofs.YtceceomaheobhaaDoor.lib Go.Proofs.YtceceomaheobhaaDoor.rd Go.Proofs.YtceceomaheobhaaDoor.typ Go.Proofs.YtceceomaheobhaaDoor.eqg Go.Proofs.YtceceomaheobhaaDoor.note Go.Proofs.YtceceomaheobhaaDoor.big
set_option linter.unusedVariables false
set_option linter.unusedSimpArgs false

theorem stOrd : StructOf 51 16 := ⟨⟨_, Tryd.underlying51⟩, by kernel_rfl⟩
theorem stTy : StructOf 47 14 := ⟨⟨_, Tryd.underlying47⟩, by kernel_rfl⟩
set_option maxRecDepth 100000 in
set_option maxHeartbeats 8000000 in
theorem rsame_any (a b : Ins) (P Q : InP) (w : World) (hP : InAt w w.heap.size a P) (hQ : InAt w w.heap.size b Q) :
    Calls Tryd.prog 13 #[InV a P, InV b Q] w fun e w' => e = .returned (.bool (sameI a b)) ∧ Below w.heap.size w w' := by
  obtain ⟨A0, c0, A1, c1, A2, c2, A3, c3, A4, c4, A5, c5⟩ := P
  obtain ⟨D0, d0, D1, d1, D2, d2, D3, d3, D4, d4, D5, d5⟩ := Q
  obtain ⟨R, hR⟩ : ∃ R, sameI a b = R := ⟨_, rfl⟩
  have HR0 : Hid (R = (netB a.net b.net && (eqL flt.sameT a.types b.types && (eqL ord.sameO a.orders b.orders && (eqL twoEq a.apart b.apart && (eqL twoEq a.before b.before)))))) := Lib.hid (by rw [← hR]; unfold sameI netB; rw [Bool.and_assoc])
  rw [hR]
  simp only [InV]
  obtain ⟨nt, hnt⟩ : ∃ n, a.types.length = n := ⟨_, rfl⟩
  obtain ⟨nt', hnt'⟩ : ∃ n, b.types.length = n := ⟨_, rfl⟩
  obtain ⟨no, hno⟩ : ∃ n, a.orders.length = n := ⟨_, rfl⟩
  obtain ⟨no', hno'⟩ : ∃ n, b.orders.length = n := ⟨_, rfl⟩
  have l2 := hP.types.len
  have l3 := hP.orders.len
  have l4 := hQ.types.len
  have l5 := hQ.orders.len
  rw [hnt] at l2
  rw [hno] at l3
  rw [hnt'] at l4
  rw [hno'] at l5
  rw [hnt, hnt', hno, hno']
  have HN := Lib.hid (And.intro (And.intro hnt hnt') (And.intro hno hno'))
  obtain ⟨W0, hW0⟩ : ∃ W0, (w.alloc (.cells #[.slice A0 a.net.places.length c0, .slice A1 a.net.arcs.length c1, .slice A2 nt c2, .slice A3 no c3, .slice A4 a.apart.length c4, .slice A5 a.before.length c5] 30)).alloc (.cells #[.slice D0 b.net.places.length d0, .slice D1 b.net.arcs.length d1, .slice D2 nt' d2, .slice D3 no' d3, .slice D4 b.apart.length d4, .slice D5 b.before.length d5] 30) = W0 := ⟨_, rfl⟩
  have hB0 : Below w.heap.size w W0 := by rw [← hW0]; exact ((Below.refl _ _).alloc (Nat.le_refl _) _).alloc (by simp) _
  have z0 := hB0.size
  have hs0 : w.heap.size + 1 < W0.heap.size := by rw [← hW0]; simp
  have HS : Hid (∀ w', Below W0.heap.size W0 w' → w'.cell? ⟨w.heap.size, 0, none⟩ = some (.slice A0 a.net.places.length c0) ∧ w'.cell? ⟨w.heap.size, 1, none⟩ = some (.slice A1 a.net.arcs.length c1) ∧ w'.cell? ⟨w.heap.size, 2, none⟩ = some (.slice A2 nt c2) ∧ w'.cell? ⟨w.heap.size, 3, none⟩ = some (.slice A3 no c3) ∧ w'.cell? ⟨w.heap.size, 4, none⟩ = some (.slice A4 a.apart.length c4) ∧ w'.cell? ⟨w.heap.size, 5, none⟩ = some (.slice A5 a.before.length c5) ∧ w'.cell? ⟨w.heap.size + 1, 0, none⟩ = some (.slice D0 b.net.places.length d0) ∧ w'.cell? ⟨w.heap.size + 1, 1, none⟩ = some (.slice D1 b.net.arcs.length d1) ∧ w'.cell? ⟨w.heap.size + 1, 2, none⟩ = some (.slice D2 nt' d2) ∧ w'.cell? ⟨w.heap.size + 1, 3, none⟩ = some (.slice D3 no' d3) ∧ w'.cell? ⟨w.heap.size + 1, 4, none⟩ = some (.slice D4 b.apart.length d4) ∧ w'.cell? ⟨w.heap.size + 1, 5, none⟩ = some (.slice D5 b.before.length d5)) := Lib.hid fun w' h => by
    have hk := fun (o : Nat) => h.cell (p := ⟨w.heap.size, o, none⟩) (show w.heap.size < W0.heap.size by omega)
    have hk1 := fun (o : Nat) => h.cell (p := ⟨w.heap.size + 1, o, none⟩) hs0
    refine ⟨(hk _).trans ?_, (hk _).trans ?_, (hk _).trans ?_, (hk _).trans ?_, (hk _).trans ?_, (hk _).trans ?_, (hk1 _).trans ?_, (hk1 _).trans ?_, (hk1 _).trans ?_, (hk1 _).trans ?_, (hk1 _).trans ?_, (hk1 _).trans ?_⟩
    all_goals (rw [← hW0]; simp)
  have HP : Hid (∀ w', Below W0.heap.size W0 w' → InAt w' w'.heap.size a ⟨A0, c0, A1, c1, A2, c2, A3, c3, A4, c4, A5, c5⟩ ∧ InAt w' w'.heap.size b ⟨D0, d0, D1, d1, D2, d2, D3, d3, D4, d4, D5, d5⟩) := Lib.hid fun w' h => ⟨(hP.go hB0).go h, (hQ.go hB0).go h⟩
  have HROW : Hid (∀ w', Below W0.heap.size W0 w' → InAt w' W0.heap.size a ⟨A0, c0, A1, c1, A2, c2, A3, c3, A4, c4, A5, c5⟩ ∧ InAt w' W0.heap.size b ⟨D0, d0, D1, d1, D2, d2, D3, d3, D4, d4, D5, d5⟩) := Lib.hid fun w' h => ⟨(hP.go hB0).below h, (hQ.go hB0).below h⟩
  have B0 : Below W0.heap.size W0 W0 := Below.refl _ _
  have HW0 := Lib.hid hW0
  clear hR hW0 hP hQ hnt hnt' hno hno'
  go_enter Tryd.func13, Tryd.ntmps13
  go_upto_region 1 with fail
  rw [HW0.out]
  go_cut [30] (fun v wx => v = .bool (!netB a.net b.net || (!decide (nt = nt') || !decide (no = no'))) ∧ Below W0.heap.size W0 wx)
  case first => as_aux_lemma =>
    obtain ⟨m0, m1, m2, m3, m4, m5, n0, n1, n2, n3, n4, n5⟩ := HS.out _ B0
    go_wp2_with fail
    refine (rnets_any a.net b.net A0 c0 A1 c1 D0 d0 D1 d1 _ (HP.out _ B0).1.places (HP.out _ B0).1.arcs (HP.out _ B0).2.places (HP.out _ B0).2.arcs).mono ?_
    rintro e w1 ⟨rfl, hb1⟩
    have B1 : Below W0.heap.size W0 w1 := hb1
    clear hb1 m0 m1 m2 m3 m4 m5 n0 n1 n2 n3 n4 n5
    obtain ⟨m0, m1, m2, m3, m4, m5, n0, n1, n2, n3, n4, n5⟩ := HS.out _ B1
    cases hq : netB a.net b.net
    · have HQ := Lib.hid hq
      clear hq
      go_wp2
      go_meet
      exact ⟨by rw [HQ.out]; rfl, B1⟩
    · have HQ := Lib.hid hq
      clear hq
      by_cases h1 : nt = nt'
      · subst h1
        by_cases h2 : no = no'
        · subst h2
          go_wp2
          go_meet
          exact ⟨by simp [HQ.out], B1⟩
        · have e1 : ((no : Int) == (no' : Int)) = false := by simp; omega
          have e2 : ((no : Int) != (no' : Int)) = true := by simp; omega
          have HE := Lib.hid h2
          clear h2
          go_wp2
          go_meet
          exact ⟨by simp [HQ.out, HE.out], B1⟩
      · have e1 : ((nt : Int) == (nt' : Int)) = false := by simp; omega
        have e2 : ((nt : Int) != (nt' : Int)) = true := by simp; omega
        have HE := Lib.hid h1
        clear h1
        go_wp2
        go_meet
        exact ⟨by simp [HQ.out, HE.out], B1⟩
  obtain ⟨h30, B1⟩ := hcut
  subst h30
  cases hq0 : (!netB a.net b.net || (!decide (nt = nt') || !decide (no = no')))
  case true =>
    have HT : Hid (R = false) := Lib.hid (by
      rw [HR0.out]
      simp only [Bool.or_eq_true, Bool.not_eq_true', decide_eq_false_iff_not] at hq0
      rcases hq0 with h | h | h
      · rw [h]; rfl
      · rw [eqL_no (p := flt.sameT) (by rw [HN.out.1.1, HN.out.1.2]; exact h)]; simp
      · rw [eqL_no (p := ord.sameO) (by rw [HN.out.2.1, HN.out.2.2]; exact h)]; simp)
    go_wp2
    go_ret
    exact ⟨ret_bool HT.out.symm, hB0.trans (B1.mono z0)⟩
  have hq1 := hq0
  simp only [Bool.or_eq_false_iff, Bool.not_eq_false', decide_eq_true_eq] at hq1
  obtain ⟨hqn, hqt, hqo⟩ := hq1
  subst hqt
  subst hqo
  have HR1 : Hid (R = (eqL flt.sameT a.types b.types && (eqL ord.sameO a.orders b.orders && (eqL twoEq a.apart b.apart && (eqL twoEq a.before b.before))))) := Lib.hid (by rw [HR0.out, hqn, Bool.true_and])
  have HG1 := Lib.hid (eqL_go (p := flt.sameT) (HN.out.1.1.trans HN.out.1.2.symm))
  have HG2 := Lib.hid (eqL_go (p := ord.sameO) (HN.out.2.1.trans HN.out.2.2.symm))
  go_upto_region 4 with fail
  clear hq0 hqn l4 l5
  go_loopw [5] (fun i wr => ∃ k : Nat, k ≤ nt ∧ i = .int .i64 k ∧ Hid (eqL flt.sameT a.types b.types = eqGo flt.sameT (a.types.drop k) (b.types.drop k)) ∧ Below W0.heap.size W0 wr) (fun i _ => nt - (intOf i).toNat)
  case atStart => exact ⟨0, by omega, rfl, HG1, B1⟩
  case round =>
    clear B1
    obtain ⟨k, hk, rfl, hr, hbel⟩ := hrel
    by_cases hlt : k < nt
    · obtain ⟨x, hx⟩ : ∃ x, a.types[k]? = some x := ⟨_, List.getElem?_eq_getElem (by rw [HN.out.1.1]; exact hlt)⟩
      obtain ⟨y, hy⟩ : ∃ y, b.types[k]? = some y := ⟨_, List.getElem?_eq_getElem (by rw [HN.out.1.2]; exact hlt)⟩
      obtain ⟨ad, cs, hA, hadb, hat, hcx⟩ := (HROW.out _ B0).1.types.elem hx
      obtain ⟨C0, e0, rfl, hp1, _⟩ := rTy_at hat
      obtain ⟨ad', cs', hA', hadb', hat', hcy⟩ := (HROW.out _ B0).2.types.elem hy
      obtain ⟨E0, f0, rfl, hp2, _⟩ := rTy_at hat'
      simp only at hA hA'
      subst hA
      subst hA'
      have hcx' : CellsAt W0 (ad.add (k * 14)) (TyCells x C0 e0) := hcx
      have hcy' : CellsAt W0 (ad'.add (k * 14)) (TyCells y E0 f0) := hcy
      clear hcx hcy hat hat'
      have HX := Lib.hid (eqGo_step (p := flt.sameT) hx hy)
      have hk0 : (0 : Int) ≤ (k : Int) := by omega
      have hkn : (k : Int) < (nt : Int) := by omega
      clear hx hy
      obtain ⟨q, hq⟩ : ∃ q, flt.sameT x y = q := ⟨_, rfl⟩
      have HP1 := Lib.hid hq
      have HC : Hid (∀ w', Below W0.heap.size W0 w' → Calls Tryd.prog 29 #[.agg #[.string x.name, .int .i64 x.count, .int .i64 x.frm, .int .i64 x.to, .slice C0 x.cap.length e0, .int .i64 x.skills, .int .i64 x.profile, .int .i64 x.opn, .int .i64 x.close, .int .i64 x.drive, .int .i64 x.rest, .int .i64 x.fixed, .int .i64 x.mile, .int .i64 x.tick], .agg #[.string y.name, .int .i64 y.count, .int .i64 y.frm, .int .i64 y.to, .slice E0 y.cap.length f0, .int .i64 y.skills, .int .i64 y.profile, .int .i64 y.opn, .int .i64 y.close, .int .i64 y.drive, .int .i64 y.rest, .int .i64 y.fixed, .int .i64 y.mile, .int .i64 y.tick]] w' fun e w'' => e = .returned (.bool q) ∧ Below w'.heap.size w' w'') := Lib.hid fun w' hw => by rw [← hq]; exact flt.rsame_any x y C0 e0 E0 f0 w' ((hp1.below hw).more hw.size) ((hp2.below hw).more hw.size)
      have hS : ∀ w', Below W0.heap.size W0 w' → (w'.cell? ⟨w.heap.size, 2, none⟩ = some (.slice (some ad) nt c2) ∧ w'.cell? ⟨w.heap.size + 1, 2, none⟩ = some (.slice (some ad') nt d2) ∧ CellsAt w' (ad.add (k * 14)) (TyCells x C0 e0) ∧ CellsAt w' (ad'.add (k * 14)) (TyCells y E0 f0)) := fun w' h => by
        obtain ⟨m0, m1, m2, m3, m4, m5, n0, n1, n2, n3, n4, n5⟩ := HS.out _ h
        exact ⟨m2, n2, hcx'.below h (by rw [block_of_add]; exact hadb), hcy'.below h (by rw [block_of_add]; exact hadb')⟩
      clear hq hp1 hp2 hcx' hcy'
      obtain ⟨m0, m1, m2, m3, m4, m5, n0, n1, n2, n3, n4, n5⟩ := HS.out _ hbel
      go_upto_region 6 with fail
      clear m0 m1 m2 m3 m4 m5 n0 n1 n2 n3 n4 n5
      (refine wp_region_held_drew (S := (fun w' => (w'.cell? ⟨w.heap.size, 2, none⟩ = some (.slice (some ad) nt c2) ∧ w'.cell? ⟨w.heap.size + 1, 2, none⟩ = some (.slice (some ad') nt d2) ∧ CellsAt w' (ad.add (k * 14)) (TyCells x C0 e0) ∧ CellsAt w' (ad'.add (k * 14)) (TyCells y E0 f0)))) (by kernel_rfl) ?_ (fun hHeld => ?_))
      · exact hS _ hbel.drew
      (refine wpAnyH_take (i := 0) (v := ?_) rfl (by kernel_rfl) (by kernel_rfl) (by kernel_rfl) (fun _ _ _ h => h) (Or.inl ⟨by kernel_rfl, ?_⟩) (by assumption) ?_; rotate_left; (focus (intro w hSw; (try dsimp only at hSw); go_simp; all_goals with_reducible rfl)); (try simp only [Act.put, List.getElem_toArray, List.getElem_cons_succ, List.getElem_cons_zero, List.setIfInBounds_toArray, List.set_cons_zero, List.set_cons_succ]))
      (refine wpAnyH_take (i := 1) (v := ?_) rfl (by kernel_rfl) (by kernel_rfl) (by kernel_rfl) (fun _ _ _ h => h) (Or.inl ⟨by kernel_rfl, ?_⟩) (by assumption) ?_; rotate_left; (focus (intro w hSw; (try dsimp only at hSw); go_simp; all_goals with_reducible rfl)); (try simp only [Act.put, List.getElem_toArray, List.getElem_cons_succ, List.getElem_cons_zero, List.setIfInBounds_toArray, List.set_cons_zero, List.set_cons_succ]))
      (refine wpAnyH_take (i := 2) (v := ?_) rfl (by kernel_rfl) (by kernel_rfl) (by kernel_rfl) (fun _ _ _ h => h) (Or.inl ⟨by kernel_rfl, ?_⟩) (by assumption) ?_; rotate_left; (focus (intro w hSw; (try dsimp only at hSw); go_simp; all_goals with_reducible rfl)); (try simp only [Act.put, List.getElem_toArray, List.getElem_cons_succ, List.getElem_cons_zero, List.setIfInBounds_toArray, List.set_cons_zero, List.set_cons_succ]))
      (refine wpAnyH_take (i := 3) (v := ?_) rfl (by kernel_rfl) (by kernel_rfl) (by kernel_rfl) (fun _ _ _ h => h) (Or.inl ⟨by kernel_rfl, ?_⟩) (by assumption) ?_; rotate_left; (focus (intro w hSw; (try dsimp only at hSw); go_simp; all_goals with_reducible rfl)); (try simp only [Act.put, List.getElem_toArray, List.getElem_cons_succ, List.getElem_cons_zero, List.setIfInBounds_toArray, List.set_cons_zero, List.set_cons_succ]))
      (refine wpAnyH_take (i := 4) (v := _) rfl (by kernel_rfl) (by kernel_rfl) (by kernel_rfl) (fun _ _ _ h => h) (Or.inl ⟨by kernel_rfl, fun _ hSw => exec_loadS stTy rfl rfl hSw.2.2.1 rfl⟩) (by assumption) ?_; (try simp only [Act.put, List.getElem_toArray, List.getElem_cons_succ, List.getElem_cons_zero, List.setIfInBounds_toArray, List.set_cons_zero, List.set_cons_succ]))
      (refine wpAnyH_take (i := 5) (v := ?_) rfl (by kernel_rfl) (by kernel_rfl) (by kernel_rfl) (fun _ _ _ h => h) (Or.inl ⟨by kernel_rfl, ?_⟩) (by assumption) ?_; rotate_left; (focus (intro w hSw; (try dsimp only at hSw); go_simp; all_goals with_reducible rfl)); (try simp only [Act.put, List.getElem_toArray, List.getElem_cons_succ, List.getElem_cons_zero, List.setIfInBounds_toArray, List.set_cons_zero, List.set_cons_succ]))
      (refine wpAnyH_take (i := 6) (v := ?_) rfl (by kernel_rfl) (by kernel_rfl) (by kernel_rfl) (fun _ _ _ h => h) (Or.inl ⟨by kernel_rfl, ?_⟩) (by assumption) ?_; rotate_left; (focus (intro w hSw; (try dsimp only at hSw); go_simp; all_goals with_reducible rfl)); (try simp only [Act.put, List.getElem_toArray, List.getElem_cons_succ, List.getElem_cons_zero, List.setIfInBounds_toArray, List.set_cons_zero, List.set_cons_succ]))
      (refine wpAnyH_take (i := 7) (v := ?_) rfl (by kernel_rfl) (by kernel_rfl) (by kernel_rfl) (fun _ _ _ h => h) (Or.inl ⟨by kernel_rfl, ?_⟩) (by assumption) ?_; rotate_left; (focus (intro w hSw; (try dsimp only at hSw); go_simp; all_goals with_reducible rfl)); (try simp only [Act.put, List.getElem_toArray, List.getElem_cons_succ, List.getElem_cons_zero, List.setIfInBounds_toArray, List.set_cons_zero, List.set_cons_succ]))
      (refine wpAnyH_take (i := 8) (v := ?_) rfl (by kernel_rfl) (by kernel_rfl) (by kernel_rfl) (fun _ _ _ h => h) (Or.inl ⟨by kernel_rfl, ?_⟩) (by assumption) ?_; rotate_left; (focus (intro w hSw; (try dsimp only at hSw); go_simp; all_goals with_reducible rfl)); (try simp only [Act.put, List.getElem_toArray, List.getElem_cons_succ, List.getElem_cons_zero, List.setIfInBounds_toArray, List.set_cons_zero, List.set_cons_succ]))
      (refine wpAnyH_take (i := 9) (v := _) rfl (by kernel_rfl) (by kernel_rfl) (by kernel_rfl) (fun _ _ _ h => h) (Or.inl ⟨by kernel_rfl, fun _ hSw => exec_loadS stTy rfl rfl hSw.2.2.2 rfl⟩) (by assumption) ?_; (try simp only [Act.put, List.getElem_toArray, List.getElem_cons_succ, List.getElem_cons_zero, List.setIfInBounds_toArray, List.set_cons_zero, List.set_cons_succ]))
      (refine wpAnyH_ready (rs := [10]) (by kernel_rfl) (by simp) ?_; refine AllReadyH.cons rfl (fun K hK => ?_) AllReadyH.nil; go_simp)
      go_at_call 29
      refine (HC.out _ hbel.drew).mono ?_
      rintro e w1 ⟨rfl, b1⟩
      have B1 : Below W0.heap.size W0 w1 := hbel.drew.trans (b1.mono hbel.drew.size)
      (refine hK.out _ _ ?_ (fun hHeld => ?_))
      · exact hS _ B1
      clear hK K
      (try simp only [Act.put, List.getElem_toArray, List.getElem_cons_succ, List.getElem_cons_zero, List.setIfInBounds_toArray, List.set_cons_zero, List.set_cons_succ])
      (refine wpAnyH_take (i := 11) (v := ?_) rfl (by kernel_rfl) (by kernel_rfl) (by kernel_rfl) (fun _ _ _ h => h) (Or.inl ⟨by kernel_rfl, ?_⟩) (by assumption) ?_; rotate_left; (focus (intro w hSw; (try dsimp only at hSw); go_simp; all_goals with_reducible rfl)); (try simp only [Act.put, List.getElem_toArray, List.getElem_cons_succ, List.getElem_cons_zero, List.setIfInBounds_toArray, List.set_cons_zero, List.set_cons_succ]))
      (refine wpAnyH_done (by kernel_rfl) ?_ _)
      cases q
      · go_wp2
        go_ret
        exact ⟨ret_bool (by rw [HR1.out, hr.out, HX.out, HP1.out]; rfl), hB0.trans (B1.mono z0)⟩
      · go_wp2
        go_roundw
        case rel => exact ⟨k + 1, by omega, by go_num, Lib.hid (by rw [hr.out, HX.out, HP1.out, Bool.true_and]), B1⟩
        case measure => simp [intOf]; omega
    · have hkn : k = nt := by omega
      subst hkn
      have HR2 : Hid (R = (eqL ord.sameO a.orders b.orders && (eqL twoEq a.apart b.apart && (eqL twoEq a.before b.before)))) := Lib.hid (by rw [HR1.out, hr.out, eqGo_end (by rw [HN.out.1.1]; exact Nat.le_refl _), Bool.true_and])
      clear hlt
      obtain ⟨m0, m1, m2, m3, m4, m5, n0, n1, n2, n3, n4, n5⟩ := HS.out _ hbel
      go_upto_region 9 with fail
      clear m0 m1 m2 m3 m4 m5 n0 n1 n2 n3 n4 n5
      as_aux_lemma =>
        go_loopw [6] (fun i wr => ∃ k : Nat, k ≤ no ∧ i = .int .i64 k ∧ Hid (eqL ord.sameO a.orders b.orders = eqGo ord.sameO (a.orders.drop k) (b.orders.drop k)) ∧ Below W0.heap.size W0 wr) (fun i _ => no - (intOf i).toNat)
        case atStart => exact ⟨0, by omega, rfl, HG2, hbel⟩
        case round =>
          clear hbel
          obtain ⟨k, hk, rfl, hr, hbel⟩ := hrel
          by_cases hlt : k < no
          · obtain ⟨x, hx⟩ : ∃ x, a.orders[k]? = some x := ⟨_, List.getElem?_eq_getElem (by rw [HN.out.2.1]; exact hlt)⟩
            obtain ⟨y, hy⟩ : ∃ y, b.orders[k]? = some y := ⟨_, List.getElem?_eq_getElem (by rw [HN.out.2.2]; exact hlt)⟩
            obtain ⟨ad, cs, hA, hadb, hat, hcx⟩ := (HROW.out _ B0).1.orders.elem hx
            obtain ⟨C0, e0, rfl, hp1, _⟩ := rOrd_at hat
            obtain ⟨ad', cs', hA', hadb', hat', hcy⟩ := (HROW.out _ B0).2.orders.elem hy
            obtain ⟨E0, f0, rfl, hp2, _⟩ := rOrd_at hat'
            simp only at hA hA'
            subst hA
            subst hA'
            have hcx' : CellsAt W0 (ad.add (k * 16)) (OrdCells x C0 e0) := hcx
            have hcy' : CellsAt W0 (ad'.add (k * 16)) (OrdCells y E0 f0) := hcy
            clear hcx hcy hat hat'
            have HX := Lib.hid (eqGo_step (p := ord.sameO) hx hy)
            have hk0 : (0 : Int) ≤ (k : Int) := by omega
            have hkn : (k : Int) < (no : Int) := by omega
            clear hx hy
            obtain ⟨q, hq⟩ : ∃ q, ord.sameO x y = q := ⟨_, rfl⟩
            have HP1 := Lib.hid hq
            have HC : Hid (∀ w', Below W0.heap.size W0 w' → Calls Tryd.prog 30 #[.agg #[.string x.name, .slice C0 x.load.length e0, .int .i64 x.pick.place, .int .i64 x.pick.opn, .int .i64 x.pick.close, .int .i64 x.pick.service, .int .i64 x.drop.place, .int .i64 x.drop.opn, .int .i64 x.drop.close, .int .i64 x.drop.service, .int .i64 x.skills, .int .i64 x.penalty, .int .i64 x.split, .int .i64 x.last, .int .i64 x.now, .bool x.off], .agg #[.string y.name, .slice E0 y.load.length f0, .int .i64 y.pick.place, .int .i64 y.pick.opn, .int .i64 y.pick.close, .int .i64 y.pick.service, .int .i64 y.drop.place, .int .i64 y.drop.opn, .int .i64 y.drop.close, .int .i64 y.drop.service, .int .i64 y.skills, .int .i64 y.penalty, .int .i64 y.split, .int .i64 y.last, .int .i64 y.now, .bool y.off]] w' fun e w'' => e = .returned (.bool q) ∧ Below w'.heap.size w' w'') := Lib.hid fun w' hw => by rw [← hq]; exact ord.orsame_any x y C0 e0 E0 f0 w' ((hp1.below hw).more hw.size) ((hp2.below hw).more hw.size)
            have hS : ∀ w', Below W0.heap.size W0 w' → (w'.cell? ⟨w.heap.size, 3, none⟩ = some (.slice (some ad) no c3) ∧ w'.cell? ⟨w.heap.size + 1, 3, none⟩ = some (.slice (some ad') no d3) ∧ CellsAt w' (ad.add (k * 16)) (OrdCells x C0 e0) ∧ CellsAt w' (ad'.add (k * 16)) (OrdCells y E0 f0)) := fun w' h => by
              obtain ⟨m0, m1, m2, m3, m4, m5, n0, n1, n2, n3, n4, n5⟩ := HS.out _ h
              exact ⟨m3, n3, hcx'.below h (by rw [block_of_add]; exact hadb), hcy'.below h (by rw [block_of_add]; exact hadb')⟩
            clear hq hp1 hp2 hcx' hcy'
            obtain ⟨m0, m1, m2, m3, m4, m5, n0, n1, n2, n3, n4, n5⟩ := HS.out _ hbel
            go_upto_region 11 with fail
            clear m0 m1 m2 m3 m4 m5 n0 n1 n2 n3 n4 n5
            (refine wp_region_held_drew (S := (fun w' => (w'.cell? ⟨w.heap.size, 3, none⟩ = some (.slice (some ad) no c3) ∧ w'.cell? ⟨w.heap.size + 1, 3, none⟩ = some (.slice (some ad') no d3) ∧ CellsAt w' (ad.add (k * 16)) (OrdCells x C0 e0) ∧ CellsAt w' (ad'.add (k * 16)) (OrdCells y E0 f0)))) (by kernel_rfl) ?_ (fun hHeld => ?_))
            · exact hS _ hbel.drew
            (refine wpAnyH_take (i := 0) (v := ?_) rfl (by kernel_rfl) (by kernel_rfl) (by kernel_rfl) (fun _ _ _ h => h) (Or.inl ⟨by kernel_rfl, ?_⟩) (by assumption) ?_; rotate_left; (focus (intro w hSw; (try dsimp only at hSw); go_simp; all_goals with_reducible rfl)); (try simp only [Act.put, List.getElem_toArray, List.getElem_cons_succ, List.getElem_cons_zero, List.setIfInBounds_toArray, List.set_cons_zero, List.set_cons_succ]))
            (refine wpAnyH_take (i := 1) (v := ?_) rfl (by kernel_rfl) (by kernel_rfl) (by kernel_rfl) (fun _ _ _ h => h) (Or.inl ⟨by kernel_rfl, ?_⟩) (by assumption) ?_; rotate_left; (focus (intro w hSw; (try dsimp only at hSw); go_simp; all_goals with_reducible rfl)); (try simp only [Act.put, List.getElem_toArray, List.getElem_cons_succ, List.getElem_cons_zero, List.setIfInBounds_toArray, List.set_cons_zero, List.set_cons_succ]))
            (refine wpAnyH_take (i := 2) (v := ?_) rfl (by kernel_rfl) (by kernel_rfl) (by kernel_rfl) (fun _ _ _ h => h) (Or.inl ⟨by kernel_rfl, ?_⟩) (by assumption) ?_; rotate_left; (focus (intro w hSw; (try dsimp only at hSw); go_simp; all_goals with_reducible rfl)); (try simp only [Act.put, List.getElem_toArray, List.getElem_cons_succ, List.getElem_cons_zero, List.setIfInBounds_toArray, List.set_cons_zero, List.set_cons_succ]))
            (refine wpAnyH_take (i := 3) (v := ?_) rfl (by kernel_rfl) (by kernel_rfl) (by kernel_rfl) (fun _ _ _ h => h) (Or.inl ⟨by kernel_rfl, ?_⟩) (by assumption) ?_; rotate_left; (focus (intro w hSw; (try dsimp only at hSw); go_simp; all_goals with_reducible rfl)); (try simp only [Act.put, List.getElem_toArray, List.getElem_cons_succ, List.getElem_cons_zero, List.setIfInBounds_toArray, List.set_cons_zero, List.set_cons_succ]))
            (refine wpAnyH_take (i := 4) (v := _) rfl (by kernel_rfl) (by kernel_rfl) (by kernel_rfl) (fun _ _ _ h => h) (Or.inl ⟨by kernel_rfl, fun _ hSw => exec_loadS stOrd rfl rfl hSw.2.2.1 rfl⟩) (by assumption) ?_; (try simp only [Act.put, List.getElem_toArray, List.getElem_cons_succ, List.getElem_cons_zero, List.setIfInBounds_toArray, List.set_cons_zero, List.set_cons_succ]))
            (refine wpAnyH_take (i := 5) (v := ?_) rfl (by kernel_rfl) (by kernel_rfl) (by kernel_rfl) (fun _ _ _ h => h) (Or.inl ⟨by kernel_rfl, ?_⟩) (by assumption) ?_; rotate_left; (focus (intro w hSw; (try dsimp only at hSw); go_simp; all_goals with_reducible rfl)); (try simp only [Act.put, List.getElem_toArray, List.getElem_cons_succ, List.getElem_cons_zero, List.setIfInBounds_toArray, List.set_cons_zero, List.set_cons_succ]))
            (refine wpAnyH_take (i := 6) (v := ?_) rfl (by kernel_rfl) (by kernel_rfl) (by kernel_rfl) (fun _ _ _ h => h) (Or.inl ⟨by kernel_rfl, ?_⟩) (by assumption) ?_; rotate_left; (focus (intro w hSw; (try dsimp only at hSw); go_simp; all_goals with_reducible rfl)); (try simp only [Act.put, List.getElem_toArray, List.getElem_cons_succ, List.getElem_cons_zero, List.setIfInBounds_toArray, List.set_cons_zero, List.set_cons_succ]))
            (refine wpAnyH_take (i := 7) (v := ?_) rfl (by kernel_rfl) (by kernel_rfl) (by kernel_rfl) (fun _ _ _ h => h) (Or.inl ⟨by kernel_rfl, ?_⟩) (by assumption) ?_; rotate_left; (focus (intro w hSw; (try dsimp only at hSw); go_simp; all_goals with_reducible rfl)); (try simp only [Act.put, List.getElem_toArray, List.getElem_cons_succ, List.getElem_cons_zero, List.setIfInBounds_toArray, List.set_cons_zero, List.set_cons_succ]))
            (refine wpAnyH_take (i := 8) (v := ?_) rfl (by kernel_rfl) (by kernel_rfl) (by kernel_rfl) (fun _ _ _ h => h) (Or.inl ⟨by kernel_rfl, ?_⟩) (by assumption) ?_; rotate_left; (focus (intro w hSw; (try dsimp only at hSw); go_simp; all_goals with_reducible rfl)); (try simp only [Act.put, List.getElem_toArray, List.getElem_cons_succ, List.getElem_cons_zero, List.setIfInBounds_toArray, List.set_cons_zero, List.set_cons_succ]))
            (refine wpAnyH_take (i := 9) (v := _) rfl (by kernel_rfl) (by kernel_rfl) (by kernel_rfl) (fun _ _ _ h => h) (Or.inl ⟨by kernel_rfl, fun _ hSw => exec_loadS stOrd rfl rfl hSw.2.2.2 rfl⟩) (by assumption) ?_; (try simp only [Act.put, List.getElem_toArray, List.getElem_cons_succ, List.getElem_cons_zero, List.setIfInBounds_toArray, List.set_cons_zero, List.set_cons_succ]))
            (refine wpAnyH_ready (rs := [10]) (by kernel_rfl) (by simp) ?_; refine AllReadyH.cons rfl (fun K hK => ?_) AllReadyH.nil; go_simp)
            go_at_call 30
            refine (HC.out _ hbel.drew).mono ?_
            rintro e w1 ⟨rfl, b1⟩
            have B1 : Below W0.heap.size W0 w1 := hbel.drew.trans (b1.mono hbel.drew.size)
            (refine hK.out _ _ ?_ (fun hHeld => ?_))
            · exact hS _ B1
            clear hK K
            (try simp only [Act.put, List.getElem_toArray, List.getElem_cons_succ, List.getElem_cons_zero, List.setIfInBounds_toArray, List.set_cons_zero, List.set_cons_succ])
            (refine wpAnyH_take (i := 11) (v := ?_) rfl (by kernel_rfl) (by kernel_rfl) (by kernel_rfl) (fun _ _ _ h => h) (Or.inl ⟨by kernel_rfl, ?_⟩) (by assumption) ?_; rotate_left; (focus (intro w hSw; (try dsimp only at hSw); go_simp; all_goals with_reducible rfl)); (try simp only [Act.put, List.getElem_toArray, List.getElem_cons_succ, List.getElem_cons_zero, List.setIfInBounds_toArray, List.set_cons_zero, List.set_cons_succ]))
            (refine wpAnyH_done (by kernel_rfl) ?_ _)
            cases q
            · go_wp2
              go_ret
              exact ⟨ret_bool (by rw [HR2.out, hr.out, HX.out, HP1.out]; rfl), hB0.trans (B1.mono z0)⟩
            · go_wp2
              go_roundw
              case rel => exact ⟨k + 1, by omega, by go_num, Lib.hid (by rw [hr.out, HX.out, HP1.out, Bool.true_and]), B1⟩
              case measure => simp [intOf]; omega
          · have hkn : k = no := by omega
            subst hkn
            have HR3 : Hid (R = (eqL twoEq a.apart b.apart && (eqL twoEq a.before b.before))) := Lib.hid (by rw [HR2.out, hr.out, eqGo_end (by rw [HN.out.2.1]; exact Nat.le_refl _), Bool.true_and])
            clear hlt
            obtain ⟨m0, m1, m2, m3, m4, m5, n0, n1, n2, n3, n4, n5⟩ := HS.out _ hbel
            go_wp2_with fail
            refine (rpairs_any A4 c4 a.apart _ rfl D4 d4 b.apart _ rfl _ _ _ (Nat.le_refl _) (Nat.le_refl _) (HP.out _ hbel).1.apart (HP.out _ hbel).2.apart).mono ?_
            rintro e w5 ⟨rfl, hb5⟩
            have B5 : Below W0.heap.size W0 w5 := hbel.trans (hb5.mono hbel.size)
            clear m0 m1 m2 m3 m4 m5 n0 n1 n2 n3 n4 n5
            obtain ⟨m0, m1, m2, m3, m4, m5, n0, n1, n2, n3, n4, n5⟩ := HS.out _ B5
            cases hq4 : eqL twoEq a.apart b.apart
            · have HT : Hid (R = false) := Lib.hid (by rw [HR3.out, hq4]; rfl)
              go_wp2
              go_ret
              exact ⟨ret_bool HT.out.symm, hB0.trans (B5.mono z0)⟩
            have HR5 : Hid (R = (eqL twoEq a.before b.before)) := Lib.hid (by rw [HR3.out, hq4]; rfl)
            clear hq4 hb5
            go_wp2_with fail
            refine (rpairs_any A5 c5 a.before _ rfl D5 d5 b.before _ rfl _ _ _ (Nat.le_refl _) (Nat.le_refl _) (HP.out _ B5).1.before (HP.out _ B5).2.before).mono ?_
            rintro e w6 ⟨rfl, hb6⟩
            have B6 : Below W0.heap.size W0 w6 := B5.trans (hb6.mono B5.size)
            go_wp2
            go_ret
            exact ⟨ret_bool HR5.out.symm, hB0.trans (B6.mono z0)⟩
end Go.Proofs.YtceceomaheobhaaDoor.ins

/- Small instances. -/
namespace Go.Proofs.YtceceomaheobhaaDoor.ins
open Go.RowKit
open Go.Proofs.YtceceomaheobhaaDoor.lib Go.Proofs.YtceceomaheobhaaDoor.rd Go.Proofs.YtceceomaheobhaaDoor.typ
set_option linter.unusedVariables false
set_option linter.unusedSimpArgs false

structure SmallI (x : Ins) : Prop where
  places : x.net.places.length ≤ 12
  arcs : x.net.arcs.length ≤ 60
  types : x.types.length ≤ 8
  orders : x.orders.length ≤ 12
  apart : x.apart.length ≤ 24
  before : x.before.length ≤ 24
  arc : ∀ a ∈ x.net.arcs, a.travel.length ≤ 20 ∧ a.slow.length ≤ 20
  type : ∀ t ∈ x.types, t.cap.length ≤ 6
  order : ∀ o ∈ x.orders, o.load.length ≤ 6
def SmallOut (x : Ins) (w : World) (e : Ending) (w' : World) : Prop := ∃ b : Bool, e = .returned (.bool b) ∧ (b = true → SmallI x) ∧ Below w.heap.size w w'
def allTo {X : Type} (p : X → Prop) (l : List X) (k : Nat) : Prop := ∀ (j : Nat) o, j < k → l[j]? = some o → p o
theorem allTo_zero {X : Type} {p : X → Prop} {l : List X} : allTo p l 0 := fun j o hj => absurd hj (by omega)
theorem allTo_step {X : Type} {p : X → Prop} {l : List X} {k : Nat} {o : X} (h : allTo p l k) (ho : l[k]? = some o) (hs : p o) : allTo p l (k + 1) := by
  intro j x hj hx
  rcases Nat.lt_or_ge j k with h1 | h1
  · exact h j x h1 hx
  · obtain rfl : j = k := by omega
    rw [ho] at hx
    cases hx
    exact hs
theorem allTo_all {X : Type} {p : X → Prop} {l : List X} {n : Nat} (hn : l.length = n) (h : allTo p l n) : ∀ x ∈ l, p x := fun x hx => by
  obtain ⟨j, hj, rfl⟩ := List.getElem_of_mem hx
  exact h j _ (by omega) (List.getElem?_eq_getElem hj)

set_option maxHeartbeats 4000000 in
theorem small_any (x : Ins) (P : InP) (w : World) (h : InAt w w.heap.size x P) :
    Calls Tryd.prog 6 #[InV x P] w (SmallOut x w) := by
  obtain ⟨a0, c0, a1, c1, a2, c2, a3, c3, a4, c4, a5, c5⟩ := P
  have hA := h.arcs
  have hT := h.types
  have hO := h.orders
  have hl0 := h.places.len
  have hl1 := hA.len
  have hl2 := hT.len
  have hl3 := hO.len
  have hl4 := h.apart.len
  have hl5 := h.before.len
  have hb0 : ∀ o, Below w.heap.size w (w.alloc o) := fun o => (Below.refl _ _).alloc (Nat.le_refl _) o
  have HF : Hid (∀ o, SmallOut x w (.returned (.bool false)) (w.alloc o)) := Lib.hid fun o => ⟨false, rfl, by simp, hb0 o⟩
  have HT : Hid (x.net.places.length ≤ 12 ∧ x.net.arcs.length ≤ 60 ∧ x.types.length ≤ 8 ∧ x.orders.length ≤ 12 ∧ x.apart.length ≤ 24 ∧ x.before.length ≤ 24 → (∀ a ∈ x.net.arcs, a.travel.length ≤ 20 ∧ a.slow.length ≤ 20) → (∀ t ∈ x.types, t.cap.length ≤ 6) → (∀ o ∈ x.orders, o.load.length ≤ 6) → ∀ o, SmallOut x w (.returned (.bool true)) (w.alloc o)) := Lib.hid fun ⟨h1, h2, h3, h4, h5, h6⟩ h7 h8 h9 o => ⟨true, rfl, fun _ => ⟨h1, h2, h3, h4, h5, h6, h7, h8, h9⟩, hb0 o⟩
  obtain ⟨n0, hn0⟩ : ∃ n, x.net.places.length = n := ⟨_, rfl⟩
  obtain ⟨n1, hn1⟩ : ∃ n, x.net.arcs.length = n := ⟨_, rfl⟩
  obtain ⟨n2, hn2⟩ : ∃ n, x.types.length = n := ⟨_, rfl⟩
  obtain ⟨n3, hn3⟩ : ∃ n, x.orders.length = n := ⟨_, rfl⟩
  obtain ⟨n4, hn4⟩ : ∃ n, x.apart.length = n := ⟨_, rfl⟩
  obtain ⟨n5, hn5⟩ : ∃ n, x.before.length = n := ⟨_, rfl⟩
  have HN1 := Lib.hid hn1
  have HN2 := Lib.hid hn2
  have HN3 := Lib.hid hn3
  simp only [InV]
  rw [hn0] at hl0 HT ⊢
  rw [hn1] at hl1 HT ⊢
  rw [hn2] at hl2 HT ⊢
  rw [hn3] at hl3 HT ⊢
  rw [hn4] at hl4 HT ⊢
  rw [hn5] at hl5 HT ⊢
  clear hn0 hn1 hn2 hn3 hn4 hn5 h
  by_cases hs : n0 ≤ 12 ∧ n1 ≤ 60 ∧ n2 ≤ 8 ∧ n3 ≤ 12 ∧ n4 ≤ 24 ∧ n5 ≤ 24
  · obtain ⟨s0, s1, s2, s3, s4, s5⟩ := hs
    have HS := Lib.hid (And.intro s0 (And.intro s1 (And.intro s2 (And.intro s3 (And.intro s4 s5)))))
    have t0 : ¬ (12 : Int) < (n0 : Int) := by omega
    have t1 : ¬ (60 : Int) < (n1 : Int) := by omega
    have t2 : ¬ (8 : Int) < (n2 : Int) := by omega
    have t3 : ¬ (12 : Int) < (n3 : Int) := by omega
    have t4 : ¬ (24 : Int) < (n4 : Int) := by omega
    have t5 : ¬ (24 : Int) < (n5 : Int) := by omega
    go_enter Tryd.func6, Tryd.ntmps6
    go_wp2
    go_loop [3] (fun i => ∃ k : Nat, k ≤ n1 ∧ i = .int .i64 k ∧ Hid (allTo (fun a : Arc => a.travel.length ≤ 20 ∧ a.slow.length ≤ 20) x.net.arcs k)) (fun i => n1 - (intOf i).toNat)
    case atStart => exact ⟨0, by omega, rfl, Lib.hid allTo_zero⟩
    case round =>
      obtain ⟨k, hk, rfl, hr⟩ := hrel
      by_cases hlt : k < n1
      · obtain ⟨t, ht⟩ : ∃ t, x.net.arcs[k]? = some t := ⟨_, List.getElem?_eq_getElem (by rw [HN1.out]; exact hlt)⟩
        obtain ⟨ad, C0, d0, C1, d1, rfl, hadb, ⟨m0, m1, m2, m3, m4, m5⟩, hp, hq, _⟩ := row_Arc hA ht
        have hbb : (ad.add (k * 6)).block < w.heap.size := by rw [block_of_add]; exact hadb
        have hk0 : (0 : Int) ≤ (k : Int) := by omega
        have hkn : (k : Int) < (n1 : Int) := by omega
        have hpl := hp.len
        have hql := hq.len
        have HX : Hid (t.travel.length ≤ 20 ∧ t.slow.length ≤ 20 → allTo (fun a : Arc => a.travel.length ≤ 20 ∧ a.slow.length ≤ 20) x.net.arcs (k + 1)) := Lib.hid (fun h => allTo_step hr.out ht h)
        clear ht m0 m1 m2 m3
        by_cases h1 : 20 < t.travel.length
        · have h1' : (20 : Int) < (t.travel.length : Int) := by omega
          clear h1
          go_wp2
          go_ret
          exact HF.out _
        · have h1' : ¬ (20 : Int) < (t.travel.length : Int) := by omega
          by_cases h2 : 20 < t.slow.length
          · have h2' : (20 : Int) < (t.slow.length : Int) := by omega
            clear h1 h2
            go_wp2
            go_ret
            exact HF.out _
          · have h2' : ¬ (20 : Int) < (t.slow.length : Int) := by omega
            have HY := Lib.hid (HX.out ⟨by omega, by omega⟩)
            clear h1 h2
            go_wp2
            go_round
            case rel => exact ⟨k + 1, by omega, by go_num, HY⟩
            case measure => simp [intOf]; omega
      · have hkn : k = n1 := by omega
        subst hkn
        have HA := Lib.hid (allTo_all HN1.out hr.out)
        clear hlt
        go_wp2
        go_loop [4] (fun i => ∃ k : Nat, k ≤ n2 ∧ i = .int .i64 k ∧ Hid (allTo (fun t : Ty => t.cap.length ≤ 6) x.types k)) (fun i => n2 - (intOf i).toNat)
        case atStart => exact ⟨0, by omega, rfl, Lib.hid allTo_zero⟩
        case round =>
          obtain ⟨k, hk, rfl, hr⟩ := hrel
          by_cases hlt : k < n2
          · obtain ⟨t, ht⟩ : ∃ t, x.types[k]? = some t := ⟨_, List.getElem?_eq_getElem (by rw [HN2.out]; exact hlt)⟩
            obtain ⟨ad, C0, d0, rfl, hadb, ⟨m0, m1, m2, m3, m4, m5, _⟩, hp, _⟩ := row_Ty hT ht
            have hbb : (ad.add (k * 14)).block < w.heap.size := by rw [block_of_add]; exact hadb
            have hk0 : (0 : Int) ≤ (k : Int) := by omega
            have hkn : (k : Int) < (n2 : Int) := by omega
            have hpl := hp.len
            have HX : Hid (t.cap.length ≤ 6 → allTo (fun t : Ty => t.cap.length ≤ 6) x.types (k + 1)) := Lib.hid (fun h => allTo_step hr.out ht h)
            clear ht m0 m1 m2 m3
            by_cases h1 : 6 < t.cap.length
            · have h1' : (6 : Int) < (t.cap.length : Int) := by omega
              clear h1
              go_wp2
              go_ret
              exact HF.out _
            · have h1' : ¬ (6 : Int) < (t.cap.length : Int) := by omega
              have HY := Lib.hid (HX.out (by omega))
              clear h1
              go_wp2
              go_round
              case rel => exact ⟨k + 1, by omega, by go_num, HY⟩
              case measure => simp [intOf]; omega
          · have hkn : k = n2 := by omega
            subst hkn
            have HB := Lib.hid (allTo_all HN2.out hr.out)
            clear hlt
            go_wp2
            go_loop [5] (fun i => ∃ k : Nat, k ≤ n3 ∧ i = .int .i64 k ∧ Hid (allTo (fun t : Ord => t.load.length ≤ 6) x.orders k)) (fun i => n3 - (intOf i).toNat)
            case atStart => exact ⟨0, by omega, rfl, Lib.hid allTo_zero⟩
            case round =>
              obtain ⟨k, hk, rfl, hr⟩ := hrel
              by_cases hlt : k < n3
              · obtain ⟨t, ht⟩ : ∃ t, x.orders[k]? = some t := ⟨_, List.getElem?_eq_getElem (by rw [HN3.out]; exact hlt)⟩
                obtain ⟨ad, C0, d0, rfl, hadb, ⟨m0, m1, _⟩, hp, _⟩ := row_Ord hO ht
                have hbb : (ad.add (k * 16)).block < w.heap.size := by rw [block_of_add]; exact hadb
                have hk0 : (0 : Int) ≤ (k : Int) := by omega
                have hkn : (k : Int) < (n3 : Int) := by omega
                have hpl := hp.len
                have HX : Hid (t.load.length ≤ 6 → allTo (fun t : Ord => t.load.length ≤ 6) x.orders (k + 1)) := Lib.hid (fun h => allTo_step hr.out ht h)
                clear ht m0
                by_cases h1 : 6 < t.load.length
                · have h1' : (6 : Int) < (t.load.length : Int) := by omega
                  clear h1
                  go_wp2
                  go_ret
                  exact HF.out _
                · have h1' : ¬ (6 : Int) < (t.load.length : Int) := by omega
                  have HY := Lib.hid (HX.out (by omega))
                  clear h1
                  go_wp2
                  go_round
                  case rel => exact ⟨k + 1, by omega, by go_num, HY⟩
                  case measure => simp [intOf]; omega
              · have hkn : k = n3 := by omega
                subst hkn
                have HC := Lib.hid (allTo_all HN3.out hr.out)
                clear hlt
                go_wp2
                go_ret
                exact HT.out HS.out HA.out HB.out HC.out _
  · go_enter Tryd.func6, Tryd.ntmps6
    go_wp2
    all_goals first | (exfalso; omega) | (go_ret; exact HF.out _)
end Go.Proofs.YtceceomaheobhaaDoor.ins

/- The examples of layer 13: little. -/
namespace Go.Proofs.YtceceomaheobhaaDoor.ins
open Go.RowKit
open Go.Proofs.YtceceomaheobhaaDoor.lib Go.Proofs.YtceceomaheobhaaDoor.rd Go.Proofs.YtceceomaheobhaaDoor.typ
set_option linter.unusedVariables false
set_option linter.unusedSimpArgs false

/-- Elements in a block that is written out. -/
theorem row_blk {X : Type} {r : Rd X} {w : World} {B g : Nat} {cs : List Value} {x : X} {t : TypeId} {fr : Nat × Nat} (h : w.heap[g]? = some (.cells cs.toArray t fr)) (hg : g < B) (hr : r.at_ w B cs x) : RowAt r w B (some ⟨g, 0, none⟩) [x] := by
  refine ⟨by simp, fun i y hi => ?_⟩
  rcases i with _ | i
  · simp at hi
    subst hi
    refine ⟨_, cs, rfl, hg, hr, fun j u hu => ?_⟩
    rw [Nat.zero_mul, Nat.zero_add]
    exact World.news_of_block (w := w) (B := g) h j u (by simpa using hu)
  · simp at hi
theorem row_blk2 {X : Type} {r : Rd X} {w : World} {B g : Nat} {cs cs' : List Value} {x x' : X} {t : TypeId} {fr : Nat × Nat} (h : w.heap[g]? = some (.cells (cs ++ cs').toArray t fr)) (hg : g < B) (hr : r.at_ w B cs x) (hr' : r.at_ w B cs' x') : RowAt r w B (some ⟨g, 0, none⟩) [x, x'] := by
  have hl := r.len hr
  have hl' := r.len hr'
  have hnew := fun j u hu => World.news_of_block (w := w) (B := g) h j u hu
  refine ⟨by simp, fun i y hi => ?_⟩
  rcases i with _ | _ | i
  · simp at hi
    subst hi
    refine ⟨_, cs, rfl, hg, hr, fun j u hu => ?_⟩
    rw [Nat.zero_mul, Nat.zero_add]
    exact hnew j u (by rw [List.getElem?_append_left (List.getElem?_eq_some_iff.1 hu).1]; exact hu)
  · simp at hi
    subst hi
    refine ⟨_, cs', rfl, hg, hr', fun j u hu => ?_⟩
    rw [Nat.zero_add, Nat.one_mul]
    exact hnew (r.size + j) u (by rw [List.getElem?_append_right (by omega), hl, Nat.add_sub_cancel_left]; exact hu)
  · simp at hi
theorem ints_blk {w : World} {B g : Nat} {l : List Int} {t : TypeId} {fr : Nat × Nat} (h : w.heap[g]? = some (.cells (l.map (.int .i64)).toArray t fr)) (hg : g < B) (hl : l.length ≤ 17592186043904) : Ints w B (some ⟨g, 0, none⟩) l :=
  ⟨⟨by simp, fun _ => ⟨_, rfl, hg, fun j u hu => World.news_of_block (w := w) (B := g) h j u (by simpa using hu)⟩⟩, hl⟩

def oaO : Ord := ⟨⟨#[111, 97]⟩, [1], ⟨-1, 0, 0, 0⟩, ⟨0, 0, 50, 0⟩, 0, -1, 1, -1, -1, false⟩
def obO : Ord := ⟨⟨#[111, 98]⟩, [1], ⟨-1, 0, 0, 0⟩, ⟨0, 0, 50, 0⟩, 0, 0, 1, -1, -1, false⟩
def vanI : Ty := ⟨⟨#[118, 97, 110]⟩, 1, 0, 0, [5], 0, 0, 0, 100, 50, 0, 0, 0, 0⟩
def hubS : ByteArray := ⟨#[104, 117, 98]⟩
def littleI : Ins := ⟨⟨[hubS], []⟩, [vanI], [oaO, obO], [(0, 1)], []⟩
theorem oa_fits : OrdFits oaO := by unfold OrdFits StpFits oaO; decide
theorem ob_fits : OrdFits obO := by unfold OrdFits StpFits obO; decide
theorem van_fits : TyFits vanI := by unfold TyFits vanI; decide
def littleP (k : Nat) : InP := ⟨some ⟨k + 1 + 1 + 1 + 1 + 1 + 1, 0, none⟩, 1, none, 0, some ⟨k + 1 + 1 + 1 + 1 + 1 + 1 + 1, 0, none⟩, 1, some ⟨k + 1 + 1 + 1 + 1 + 1 + 1 + 1 + 1, 0, none⟩, 2, some ⟨k + 1 + 1 + 1 + 1 + 1 + 1 + 1 + 1 + 1, 0, none⟩, 1, none, 0⟩
def littleCells (k : Nat) : List Value := [.slice (some ⟨k + 1 + 1 + 1 + 1 + 1 + 1, 0, none⟩) 1 1, .slice none 0 0, .slice (some ⟨k + 1 + 1 + 1 + 1 + 1 + 1 + 1, 0, none⟩) 1 1, .slice (some ⟨k + 1 + 1 + 1 + 1 + 1 + 1 + 1 + 1, 0, none⟩) 2 2, .slice (some ⟨k + 1 + 1 + 1 + 1 + 1 + 1 + 1 + 1 + 1, 0, none⟩) 1 1, .slice none 0 0]
def LittleOut (w : World) (e : Ending) (w' : World) : Prop := ∃ P : InP, e = .returned (InV littleI P) ∧ InAt w' w'.heap.size littleI P ∧ Below w.heap.size w w'
end Go.Proofs.YtceceomaheobhaaDoor.ins

/- The examples of layer 13: little. -/
namespace Go.Proofs.YtceceomaheobhaaDoor.ins
open Go.RowKit
open Go.Proofs.YtceceomaheobhaaDoor.lib Go.Proofs.YtceceomaheobhaaDoor.rd Go.Proofs.YtceceomaheobhaaDoor.typ Go.Proofs.YtceceomaheobhaaDoor.big Go.Proofs.YtceceomaheobhaaDoor.app
set_option linter.unusedVariables false
set_option linter.unusedSimpArgs false

theorem sOrd : StructOf 51 16 := ⟨⟨_, Tryd.underlying51⟩, by kernel_rfl⟩
theorem sTy : StructOf 47 14 := ⟨⟨_, Tryd.underlying47⟩, by kernel_rfl⟩
theorem sIns : StructOf 30 6 := ⟨⟨_, Tryd.underlying30⟩, by kernel_rfl⟩
def zOrd : List Value := [.string ⟨#[]⟩, .slice none 0 0, .int .i64 0, .int .i64 0, .int .i64 0, .int .i64 0, .int .i64 0, .int .i64 0, .int .i64 0, .int .i64 0, .int .i64 0, .int .i64 0, .int .i64 0, .int .i64 0, .int .i64 0, .bool false]
def zTy : List Value := [.string ⟨#[]⟩, .int .i64 0, .int .i64 0, .int .i64 0, .slice none 0 0, .int .i64 0, .int .i64 0, .int .i64 0, .int .i64 0, .int .i64 0, .int .i64 0, .int .i64 0, .int .i64 0, .int .i64 0]
theorem bOrd : BuildOf 51 (.agg zOrd.toArray) #[(0, 1), (1, 1), (2, 4), (6, 4), (10, 1), (11, 1), (12, 1), (13, 1), (14, 1), (15, 1)] := ⟨⟨_, Tryd.underlying51, fun w => by kernel_rfl⟩, fun w => by kernel_rfl⟩
theorem bTy : BuildOf 47 (.agg zTy.toArray) #[(0, 1), (1, 1), (2, 1), (3, 1), (4, 1), (5, 1), (6, 1), (7, 1), (8, 1), (9, 1), (10, 1), (11, 1), (12, 1), (13, 1)] := ⟨⟨_, Tryd.underlying47, fun w => by kernel_rfl⟩, fun w => by kernel_rfl⟩
theorem heap_old (W : World) (o : Obj) (k : Nat) (hk : k < W.heap.size) : (W.alloc o).heap[k]? = W.heap[k]? := Below.heap_alloc _ _ _ hk
def TBlk (w : World) (k : Nat) (t : Ty) (C : Option Addr) (c : Nat) : Prop := w.heap[k]? = some (.cells (TyCells t C c).toArray 47 (0, 0))
def IBlk (w : World) (k : Nat) (x : Int) : Prop := w.heap[k]? = some (.cells #[.int .i64 x] 3 (0, 0))
/-- Where little stands: the blocks that lie. -/
structure LtlA (w wx : World) : Prop where
  res : SixAt wx w.heap.size nilCs
  ld : IBlk wx (w.heap.size + 1) 1
  oa : ord.OrBlk wx (w.heap.size + 1 + 1) oaO (some ⟨w.heap.size + 1, 0, none⟩) 1
  bel : Below w.heap.size w wx
structure LtlB (o : Ord) (w wx : World) : Prop where
  a : LtlA w wx
  ob : ord.OrBlk wx (w.heap.size + 1 + 1 + 1) o (some ⟨w.heap.size + 1, 0, none⟩) 1
structure LtlC (w wx : World) : Prop where
  b : LtlB obO w wx
  cp : IBlk wx (w.heap.size + 1 + 1 + 1 + 1) 5
  ty : TBlk wx (w.heap.size + 1 + 1 + 1 + 1 + 1) vanI (some ⟨w.heap.size + 1 + 1 + 1 + 1, 0, none⟩) 1
theorem LtlA.keep {w wx wy : World} (h : LtlA w wx) (hk : ∀ k, k < w.heap.size + 1 + 1 + 1 → wy.heap[k]? = wx.heap[k]?) (hb : Below w.heap.size w wy) : LtlA w wy :=
  ⟨(hk _ (by omega)).trans h.res, (hk _ (by omega)).trans h.ld, (hk _ (by omega)).trans h.oa, hb⟩
def ob1O : Ord := { oaO with name := ⟨#[111, 98]⟩ }
theorem ordBlk_frozen {w : World} {k : Nat} {o : Ord} {C : Option Addr} {c : Nat} (h : ord.OrBlk w k o C c) (i : Nat) : w.frozen? ⟨k, i, none⟩ = false := by simp [World.frozen?, show w.heap[k]? = _ from h]
theorem tyCells_one (o : Ty) (C : Option Addr) (c : Nat) : ∀ u ∈ TyCells o C c, u.oneCell' = true := fun u hu => by
  simp only [TyCells, List.mem_cons, List.not_mem_nil, or_false] at hu
  rcases hu with rfl | rfl | rfl | rfl | rfl | rfl | rfl | rfl | rfl | rfl | rfl | rfl | rfl | rfl <;> rfl
theorem LtlB.set {w wx : World} {o o' : Ord} (h : LtlB o w wx) (i : Nat) (u : Value) (hs : wx.heap.size = w.heap.size + 1 + 1 + 1 + 1) (e : ((OrdCells o (some ⟨w.heap.size + 1, 0, none⟩) 1).toArray.setIfInBounds i u) = (OrdCells o' (some ⟨w.heap.size + 1, 0, none⟩) 1).toArray) : LtlB o' w (wx.setCell ⟨w.heap.size + 1 + 1 + 1, i, none⟩ u) := by
  refine ⟨h.a.keep (fun k hk => Below.heap_setCell _ _ _ _ (show k ≠ w.heap.size + 1 + 1 + 1 by omega)) (h.a.bel.setCell (p := ⟨w.heap.size + 1 + 1 + 1, i, none⟩) (show w.heap.size ≤ w.heap.size + 1 + 1 + 1 by omega) u), ?_⟩
  have h1 := heap_setCell_same wx (w.heap.size + 1 + 1 + 1) i _ _ u h.ob
  rw [e] at h1
  exact h1
theorem oa_fill (ad : Addr) : Instr.fill ((#[(0, 1), (1, 1), (2, 4), (6, 4), (10, 1), (11, 1), (12, 1), (13, 1), (14, 1), (15, 1)] : Array (Nat × Nat))[·]?) (Value.agg zOrd.toArray).cells [(0, .string ⟨#[111, 97]⟩), (1, .slice (some ad) 1 1), (2, .agg #[.int .i64 (-1), .int .i64 0, .int .i64 0, .int .i64 0]), (3, .agg #[.int .i64 0, .int .i64 0, .int .i64 50, .int .i64 0]), (5, .int .i64 (-1)), (6, .int .i64 1), (7, .int .i64 (-1)), (8, .int .i64 (-1))] = some (OrdCells oaO (some ad) 1).toArray := by kernel_rfl
theorem van_fill (ad : Addr) : Instr.fill ((#[(0, 1), (1, 1), (2, 1), (3, 1), (4, 1), (5, 1), (6, 1), (7, 1), (8, 1), (9, 1), (10, 1), (11, 1), (12, 1), (13, 1)] : Array (Nat × Nat))[·]?) (Value.agg zTy.toArray).cells [(0, .string ⟨#[118, 97, 110]⟩), (1, .int .i64 1), (4, .slice (some ad) 1 1), (8, .int .i64 100), (9, .int .i64 50)] = some (TyCells vanI (some ad) 1).toArray := by kernel_rfl
def ltlCs (k : Nat) : List Value := [.slice (some ⟨k, 0, none⟩) 1 1, .slice none 0 0, .slice (some ⟨k + 1, 0, none⟩) 1 1, .slice (some ⟨k + 1 + 1, 0, none⟩) 2 2, .slice (some ⟨k + 1 + 1 + 1, 0, none⟩) 1 1, .slice none 0 0]
theorem ltlCs_one (k : Nat) : ∀ u ∈ ltlCs k, u.oneCell' = true := fun u hu => by
  simp only [ltlCs, List.mem_cons, List.not_mem_nil, or_false] at hu
  rcases hu with rfl | rfl | rfl | rfl | rfl | rfl <;> rfl
def ltlP (k : Nat) : InP := ⟨some ⟨k, 0, none⟩, 1, none, 0, some ⟨k + 1, 0, none⟩, 1, some ⟨k + 1 + 1, 0, none⟩, 2, some ⟨k + 1 + 1 + 1, 0, none⟩, 1, none, 0⟩
theorem ty_elem : ElemOf 26 47 (.agg zTy.toArray) 14 136 := ⟨Tryd.underlying26, by kernel_rfl, rfl, by decide, by decide⟩
theorem ord_elem' : ElemOf 27 51 (.agg zOrd.toArray) 16 152 := ⟨Tryd.underlying27, by kernel_rfl, rfl, by decide, by decide⟩
theorem ty_range : (List.range (1 * 14)).map (fun i => (Value.agg zTy.toArray).cells[i % (Value.agg zTy.toArray).cells.size]!) = zTy := by kernel_rfl
theorem ord_range : (List.range (2 * 16)).map (fun i => (Value.agg zOrd.toArray).cells[i % (Value.agg zOrd.toArray).cells.size]!) = zOrd ++ zOrd := by kernel_rfl
theorem ty_fill (ad : Addr) : Instr.fill (fun i => some (i * 14, 14)) zTy.toArray [(0, .agg (TyCells vanI (some ad) 1).toArray)] = some (TyCells vanI (some ad) 1).toArray := by kernel_rfl
theorem ord_fill (ad : Addr) : Instr.fill (fun i => some (i * 16, 16)) (zOrd ++ zOrd).toArray [(0, .agg (OrdCells oaO (some ad) 1).toArray), (1, .agg (OrdCells obO (some ad) 1).toArray)] = some (OrdCells oaO (some ad) 1 ++ OrdCells obO (some ad) 1).toArray := by kernel_rfl
set_option maxRecDepth 20000 in
set_option maxHeartbeats 2000000 in
theorem little_any (w : World) : Calls Tryd.prog 16 #[] w (LittleOut w) := by
  go_enter Tryd.func16, Tryd.ntmps16
  go_upto_region 1 with fail
  go_cut [1] (fun p wx => p = .pointer (some ⟨w.heap.size + 1 + 1, 0, none⟩) ∧ LtlA w wx ∧ wx.heap.size = w.heap.size + 1 + 1 + 1)
  case first => as_aux_lemma =>
    have hb : (((w.alloc (.cells nilCs.toArray 30)).alloc (.cells #[.int .i64 1] 3)).alloc (.cells zOrd.toArray 51)).heap[w.heap.size + 1 + 1]? = some (.cells zOrd.toArray 51 (0, 0)) := by
      have h := World.alloc_heap_new ((w.alloc (.cells nilCs.toArray 30)).alloc (.cells #[.int .i64 1] 3)) (.cells zOrd.toArray 51)
      rw [World.size_alloc, World.size_alloc] at h
      exact h
    have hb0 : (((w.alloc (.cells nilCs.toArray 30)).alloc (.cells #[.int .i64 1] 3)).alloc (.cells zOrd.toArray 51)).heap[w.heap.size]? = some (.cells nilCs.toArray 30 (0, 0)) := by
      rw [heap_old _ _ _ (by simp <;> omega), heap_old _ _ _ (by simp)]
      exact World.alloc_heap_new w _
    have hb1 : (((w.alloc (.cells nilCs.toArray 30)).alloc (.cells #[.int .i64 1] 3)).alloc (.cells zOrd.toArray 51)).heap[w.heap.size + 1]? = some (.cells #[.int .i64 1] 3 (0, 0)) := by
      rw [heap_old _ _ _ (by simp)]
      have h := World.alloc_heap_new (w.alloc (.cells nilCs.toArray 30)) (.cells #[.int .i64 1] 3)
      rw [World.size_alloc] at h
      exact h
    have hB : Below w.heap.size w (((w.alloc (.cells nilCs.toArray 30)).alloc (.cells #[.int .i64 1] 3)).alloc (.cells zOrd.toArray 51)) := (((Below.refl _ _).alloc (Nat.le_refl _) _).alloc (by simp) _).alloc (by simp <;> omega) _
    have hS : (((w.alloc (.cells nilCs.toArray 30)).alloc (.cells #[.int .i64 1] 3)).alloc (.cells zOrd.toArray 51)).heap.size = w.heap.size + 1 + 1 + 1 := by simp
    have H := Lib.hid (And.intro hb (And.intro hb0 (And.intro hb1 (And.intro hB hS))))
    clear hb hb0 hb1 hB hS
    go_wp2_with (first
      | ((with_reducible refine wpList_buildL bOrd rfl _ rfl _ (OrdCells oaO (some ⟨w.heap.size + 1, 0, none⟩) 1) ?_ (oa_fill _) ?_); exact rfl)
      | ((with_reducible refine wpList_storeL (t := 51) sOrd rfl _ _ rfl (w.heap.size + 1 + 1) zOrd (OrdCells oaO (some ⟨w.heap.size + 1, 0, none⟩) 1) ?_ ?_ ?_ ?_ ?_ (ordCells_one _ _ _) ?_); exact rfl; exact rfl; exact H.out.1; exact rfl; exact rfl; intro w1 k1 k2 k3 k4; have K := Lib.hid (And.intro k1 (And.intro k2 (And.intro k3 k4))); clear k1 k2 k3 k4))
    go_meet
    obtain ⟨k1, k2, k3, k4⟩ := K.out
    refine ⟨rfl, ⟨(k2 _ (by omega)).trans H.out.2.1, (k2 _ (by omega)).trans H.out.2.2.1, k1, H.out.2.2.2.1.trans (k4.mono (by omega))⟩, k3.trans H.out.2.2.2.2⟩
  obtain ⟨h1, hA, hs⟩ := hcut
  subst h1
  have HA := Lib.hid hA
  have HS := Lib.hid hs
  clear hA hs
  go_upto_region 2 with fail
  go_cut [2] (fun p wx => p = .pointer (some ⟨w.heap.size + 1 + 1 + 1, 0, none⟩) ∧ LtlB oaO w wx ∧ wx.heap.size = w.heap.size + 1 + 1 + 1 + 1)
  case first => as_aux_lemma =>
    go_wp2_with (first
      | ((with_reducible refine wpList_loadB sOrd rfl _ rfl (w.heap.size + 1 + 1) (OrdCells oaO (some ⟨w.heap.size + 1, 0, none⟩) 1).toArray (0, 0) ?_ ?_ ?_ ?_); exact rfl; exact HA.out.oa; exact rfl)
      | ((with_reducible refine wpList_storeL (t := 51) sOrd rfl _ _ rfl wc.heap.size zOrd (OrdCells oaO (some ⟨w.heap.size + 1, 0, none⟩) 1) ?_ ?_ ?_ ?_ ?_ (ordCells_one _ _ _) ?_); exact rfl; exact rfl; exact World.alloc_heap_new wc _; exact rfl; exact rfl; intro w1 k1 k2 k3 k4; have K := Lib.hid (And.intro k1 (And.intro k2 (And.intro k3 k4))); clear k1 k2 k3 k4))
    go_meet
    obtain ⟨k1, k2, k3, k4⟩ := K.out
    have e := HS.out
    refine ⟨by rw [e], ⟨HA.out.keep (fun k hk => (k2 k (by omega)).trans (heap_old _ _ _ (by omega))) (((HA.out.bel.alloc (by omega) _).trans (k4.mono (by omega)))), ?_⟩, by rw [k3, World.size_alloc, e]⟩
    rw [e] at k1
    exact k1
  obtain ⟨h2, hB, hs⟩ := hcut
  subst h2
  clear HA HS
  have HB := Lib.hid hB
  have HS := Lib.hid hs
  obtain ⟨m0, -⟩ := hB.ob.cells
  have f0 := ordBlk_frozen hB.ob 0
  clear hB hs
  go_upto_region 3 with fail
  go_cut [] (fun wx => LtlB ob1O w wx ∧ wx.heap.size = w.heap.size + 1 + 1 + 1 + 1)
  case first => as_aux_lemma =>
    go_wp2
    go_meet
    exact ⟨HB.out.set 0 _ HS.out rfl, by simp [World.setCell, HS.out]⟩
  clear m0 f0 HB HS
  obtain ⟨hB, hs⟩ := hcut
  have HB := Lib.hid hB
  have HS := Lib.hid hs
  obtain ⟨-, -, -, -, -, -, -, -, -, -, -, m11, -⟩ := hB.ob.cells
  have f11 := ordBlk_frozen hB.ob 11
  clear hB hs
  go_upto_region 4 with fail
  go_cut [] (fun wx => LtlB obO w wx ∧ wx.heap.size = w.heap.size + 1 + 1 + 1 + 1)
  case first => as_aux_lemma =>
    go_wp2
    go_meet
    exact ⟨HB.out.set 11 _ HS.out rfl, by simp [World.setCell, HS.out]⟩
  clear m11 f11 HB HS
  obtain ⟨hB, hs⟩ := hcut
  have HB := Lib.hid hB
  have HS := Lib.hid hs
  clear hB hs
  go_upto_region 5 with fail
  go_cut [3] (fun p wx => p = .pointer (some ⟨w.heap.size + 1 + 1 + 1 + 1 + 1, 0, none⟩) ∧ LtlC w wx ∧ wx.heap.size = w.heap.size + 1 + 1 + 1 + 1 + 1 + 1)
  case first => as_aux_lemma =>
    go_wp2_with (first
      | ((with_reducible refine wpList_buildL bTy rfl _ rfl _ (TyCells vanI (some ⟨wc.heap.size, 0, none⟩) 1) ?_ (van_fill _) ?_); exact rfl)
      | ((with_reducible refine wpList_storeL (t := 47) sTy rfl _ _ rfl (wc.heap.size + 1) zTy (TyCells vanI (some ⟨wc.heap.size, 0, none⟩) 1) ?_ ?_ ?_ ?_ ?_ (tyCells_one _ _ _) ?_); exact rfl; exact rfl; (have h := World.alloc_heap_new (wc.alloc (.cells #[.int .i64 5] 3)) (.cells zTy.toArray 47); rw [World.size_alloc] at h; exact h); exact rfl; exact rfl; intro w1 k1 k2 k3 k4; have K := Lib.hid (And.intro k1 (And.intro k2 (And.intro k3 k4))); clear k1 k2 k3 k4))
    go_meet
    obtain ⟨k1, k2, k3, k4⟩ := K.out
    have e := HS.out
    have hk : ∀ k, k < wc.heap.size → w1.heap[k]? = wc.heap[k]? := fun k hk => (k2 k (by omega)).trans ((heap_old _ _ _ (by simp; omega)).trans (heap_old _ _ _ hk))
    have hcp : w1.heap[wc.heap.size]? = some (.cells #[.int .i64 5] 3 (0, 0)) := (k2 _ (by omega)).trans ((heap_old _ _ _ (by simp)).trans (World.alloc_heap_new wc _))
    have hbel : Below w.heap.size w w1 := ((HB.out.a.bel.alloc (by omega) _).alloc (by simp; omega) _).trans (k4.mono (by omega))
    refine ⟨by rw [e], ⟨⟨HB.out.a.keep (fun k hk' => hk k (by omega)) hbel, (hk _ (by omega)).trans HB.out.ob⟩, ?_, ?_⟩, by rw [k3, World.size_alloc, World.size_alloc, e]⟩
    · rw [e] at hcp
      exact hcp
    · rw [e] at k1
      exact k1
  obtain ⟨h3, hC, hs⟩ := hcut
  subst h3
  clear HB HS
  have HC := Lib.hid hC
  have HS := Lib.hid hs
  clear hC hs
  go_upto_region 6 with fail
  go_wp2_with (first
    | ((with_reducible refine wpList_loadB sTy rfl _ rfl (w.heap.size + 1 + 1 + 1 + 1 + 1) (TyCells vanI (some ⟨w.heap.size + 1 + 1 + 1 + 1, 0, none⟩) 1).toArray (0, 0) ?_ ?_ ?_ ?_); exact rfl; (rw [heap_old _ _ _ (by have := HS.out; omega)]; exact HC.out.ty); exact rfl)
    | ((with_reducible refine wpList_loadB sOrd rfl _ rfl (w.heap.size + 1 + 1) (OrdCells oaO (some ⟨w.heap.size + 1, 0, none⟩) 1).toArray (0, 0) ?_ ?_ ?_ ?_); exact rfl; (rw [heap_old _ _ _ (by have := HS.out; simp; omega), heap_old _ _ _ (by have := HS.out; omega)]; exact HC.out.b.a.oa); exact rfl)
    | ((with_reducible refine wpList_loadB sOrd rfl _ rfl (w.heap.size + 1 + 1 + 1) (OrdCells obO (some ⟨w.heap.size + 1, 0, none⟩) 1).toArray (0, 0) ?_ ?_ ?_ ?_); exact rfl; (rw [heap_old _ _ _ (by have := HS.out; simp; omega), heap_old _ _ _ (by have := HS.out; omega)]; exact HC.out.b.ob); exact rfl)
    | ((with_reducible refine wpList_bsliceL ty_elem rfl 1 _ rfl _ (TyCells vanI (some ⟨w.heap.size + 1 + 1 + 1 + 1, 0, none⟩) 1) zTy ?_ (by decide) (by decide) ty_range (ty_fill _) ?_); exact rfl)
    | ((with_reducible refine wpList_bsliceL ord_elem' rfl 2 _ rfl _ (OrdCells oaO (some ⟨w.heap.size + 1, 0, none⟩) 1 ++ OrdCells obO (some ⟨w.heap.size + 1, 0, none⟩) 1) (zOrd ++ zOrd) ?_ (by decide) (by decide) ord_range (ord_fill _) ?_); exact rfl)
    | ((with_reducible refine wpList_storeL sIns rfl _ _ rfl w.heap.size nilCs (ltlCs wc.heap.size) ?_ ?_ ?_ ?_ ?_ (ltlCs_one _) ?_); exact rfl; exact rfl; (rw [heap_old _ _ _ (by have := HS.out; simp; omega), heap_old _ _ _ (by have := HS.out; simp; omega), heap_old _ _ _ (by have := HS.out; simp; omega), heap_old _ _ _ (by have := HS.out; omega)]; exact HC.out.b.a.res); exact rfl; exact rfl; intro w1 k1 k2 k3 k4; have K := Lib.hid (And.intro k1 (And.intro k2 (And.intro k3 k4))); clear k1 k2 k3 k4))
  obtain ⟨k1, k2, k3, k4⟩ := K.out
  have e := HS.out
  have hsix : SixAt w1 w.heap.size (ltlCs wc.heap.size) := k1
  have c0 : w1.cell? ⟨w.heap.size, 0, none⟩ = some (.slice (some ⟨wc.heap.size, 0, none⟩) 1 1) := hsix.cell (j := 0) rfl
  have c1 : w1.cell? ⟨w.heap.size, 1, none⟩ = some (.slice none 0 0) := hsix.cell (j := 1) rfl
  have c2 : w1.cell? ⟨w.heap.size, 2, none⟩ = some (.slice (some ⟨wc.heap.size + 1, 0, none⟩) 1 1) := hsix.cell (j := 2) rfl
  have c3 : w1.cell? ⟨w.heap.size, 3, none⟩ = some (.slice (some ⟨wc.heap.size + 1 + 1, 0, none⟩) 2 2) := hsix.cell (j := 3) rfl
  have c4 : w1.cell? ⟨w.heap.size, 4, none⟩ = some (.slice (some ⟨wc.heap.size + 1 + 1 + 1, 0, none⟩) 1 1) := hsix.cell (j := 4) rfl
  have c5 : w1.cell? ⟨w.heap.size, 5, none⟩ = some (.slice none 0 0) := hsix.cell (j := 5) rfl
  refine bodyPost_ret (v := InV littleI (ltlP wc.heap.size)) (by simp [results, Tryd.results16, go_sem, InV, littleI, ltlP, c0, c1, c2, c3, c4, c5]) rfl ?_
  clear c0 c1 c2 c3 c4 c5 hsix
  have n9 := k2 (wc.heap.size + 1 + 1 + 1) (by omega)
  have n8 := k2 (wc.heap.size + 1 + 1) (by omega)
  have n7 := k2 (wc.heap.size + 1) (by omega)
  have n6 := k2 wc.heap.size (by omega)
  have n4 := k2 (w.heap.size + 1 + 1 + 1 + 1) (by omega)
  have n1 := k2 (w.heap.size + 1) (by omega)
  rw [heap_old _ _ _ (by simp; omega), heap_old _ _ _ (by simp; omega), heap_old _ _ _ (by simp; omega), heap_old _ _ _ (by omega), HC.out.cp] at n4
  rw [heap_old _ _ _ (by simp; omega), heap_old _ _ _ (by simp; omega), heap_old _ _ _ (by simp; omega), heap_old _ _ _ (by omega), HC.out.b.a.ld] at n1
  rw [heap_old _ _ _ (by simp; omega), heap_old _ _ _ (by simp; omega), heap_old _ _ _ (by simp), World.alloc_heap_new wc] at n6
  have q7 := fun (o o' : Obj) => World.alloc_heap_new (wc.alloc o) o'
  simp only [World.size_alloc] at q7
  rw [heap_old _ _ _ (by simp), heap_old _ _ _ (by simp), q7] at n7
  have q8 := fun (o o' o'' : Obj) => World.alloc_heap_new ((wc.alloc o).alloc o') o''
  simp only [World.size_alloc] at q8
  rw [heap_old _ _ _ (by simp), q8] at n8
  have q9 := fun (o o' o'' o3 : Obj) => World.alloc_heap_new (((wc.alloc o).alloc o').alloc o'') o3
  simp only [World.size_alloc] at q9
  rw [q9] at n9
  rw [World.size_alloc, World.size_alloc, World.size_alloc, World.size_alloc] at k3
  have i1 : Ints w1 w1.heap.size (some ⟨w.heap.size + 1, 0, none⟩) [1] := ints_blk n1 (by omega) (by decide)
  have i4 : Ints w1 w1.heap.size (some ⟨w.heap.size + 1 + 1 + 1 + 1, 0, none⟩) [5] := ints_blk n4 (by omega) (by decide)
  refine ⟨ltlP wc.heap.size, rfl, ⟨?_, RowAt.nil, ?_, ?_, ?_, RowAt.nil, Nat.le_refl 1, Nat.le_refl 2, Nat.le_refl 1, Nat.le_refl 0⟩, ?_⟩
  · exact row_blk (r := rStr) (cs := [.string hubS]) n6 (by omega) ⟨rfl, by decide⟩
  · exact row_blk (r := rTy) n7 (by omega) (rTy_mk i4 van_fits)
  · exact row_blk2 (r := rOrd) n8 (by omega) (rOrd_mk i1 oa_fits) (rOrd_mk i1 ob_fits)
  · exact row_blk (r := rPair rInt rInt) (cs := [.int .i64 0] ++ [.int .i64 1]) n9 (by omega) ⟨_, _, rfl, ⟨rfl, by decide⟩, ⟨rfl, by decide⟩⟩
  · exact ((((HC.out.b.a.bel.alloc (by omega) _).alloc (by simp; omega) _).alloc (by simp; omega) _).alloc (by simp; omega) _).trans k4
end Go.Proofs.YtceceomaheobhaaDoor.ins

/- The examples of layer 13: awake. -/
namespace Go.Proofs.YtceceomaheobhaaDoor.ins
open Go.RowKit
open Go.Proofs.YtceceomaheobhaaDoor.lib Go.Proofs.YtceceomaheobhaaDoor.rd Go.Proofs.YtceceomaheobhaaDoor.typ Go.Proofs.YtceceomaheobhaaDoor.big Go.Proofs.YtceceomaheobhaaDoor.app Go.Proofs.YtceceomaheobhaaDoor.flts
set_option linter.unusedVariables false
set_option linter.unusedSimpArgs false

def netI : Ins := ⟨littleI.net, [], [], [], []⟩
def onlyY : Ins := ⟨littleI.net, littleI.types, [obO], [], []⟩
theorem little_only : onlyI littleI 2 = onlyY := by rfl
theorem little_mem : sets.memTo 2 littleI.orders.length = [1] := by rfl
theorem little_check : insF littleI = [] := by kernel_rfl
theorem net_check : insF netI = [⟨4, ⟨#[116, 121, 112, 101, 115]⟩⟩] := by kernel_rfl
theorem little_all : sch.suchN allP littleI.orders littleI.orders.length = 3 := by kernel_rfl
theorem little_must : sch.suchN mustP littleI.orders littleI.orders.length = 1 := by kernel_rfl
theorem little_same : sameI littleI littleI = true := by kernel_rfl
theorem little_lim : Lim littleI := ⟨by decide, by decide, fun a h => (by cases h), fun j a h => (by simp [littleI] at h), by rw [show insN littleI = [] by kernel_rfl]; decide, by decide, by decide, by decide, by decide⟩
theorem net_lim : Lim netI := ⟨by decide, by decide, fun a h => (by cases h), fun j a h => (by simp [netI, littleI] at h), by rw [show insN netI = [] by kernel_rfl]; decide, by decide, by decide, by decide, by decide⟩
theorem awk_only (P : InP) (w : World) (h : InAt w w.heap.size littleI P) : Calls Tryd.prog 15 #[InV littleI P, .int .i64 2] w (OnlyGood onlyY [1] w) := by
  have h := onlyGood_any littleI P 2 w h (by decide) (by decide) (by decide) (by decide) (by decide)
  rw [little_only, little_mem] at h
  exact h
theorem awk_check (P : InP) (w : World) (h : InAt w w.heap.size littleI P) : Calls Tryd.prog 14 #[InV littleI P] w (FltsOut w []) := by
  have h := icheck_any littleI P w h little_lim
  rw [little_check] at h
  exact h
theorem awk_net (P : InP) (w : World) (h : InAt w w.heap.size netI P) : Calls Tryd.prog 14 #[InV netI P] w (FltsOut w [⟨4, ⟨#[116, 121, 112, 101, 115]⟩⟩]) := by
  have h := icheck_any netI P w h net_lim
  rw [net_check] at h
  exact h
theorem awk_all (P : InP) (w : World) (h : InAt w w.heap.size littleI P) : Calls Tryd.prog 8 #[InV littleI P] w fun e w' => e = .returned (.int .i64 3) ∧ Below w.heap.size w w' := by
  have h := all_any littleI P w h (by decide)
  rw [little_all] at h
  exact h
theorem awk_must (P : InP) (w : World) (h : InAt w w.heap.size littleI P) : Calls Tryd.prog 9 #[InV littleI P] w fun e w' => e = .returned (.int .i64 1) ∧ Below w.heap.size w w' := by
  have h := must_any littleI P w h (by decide)
  rw [little_must] at h
  exact h
theorem awk_same (P : InP) (w : World) (h : InAt w w.heap.size littleI P) : Calls Tryd.prog 12 #[InV littleI P, InV littleI P] w fun e w' => e = .returned (.bool true) ∧ Below w.heap.size w w' := by
  have h := same_any littleI littleI P P w h h
  rw [little_same] at h
  exact h
theorem insCs_one (x : Ins) (P : InP) : ∀ u ∈ insCs x P, u.oneCell' = true := fun u hu => by
  simp only [insCs, List.mem_cons, List.not_mem_nil, or_false] at hu
  rcases hu with rfl | rfl | rfl | rfl | rfl | rfl <;> rfl
set_option maxRecDepth 100000 in
set_option maxHeartbeats 4000000 in
theorem awake_any (w : World) : Calls Tryd.prog 7 #[] w fun e w' => e = .returned (.bool true) ∧ Below w.heap.size w w' := by
  go_enter Tryd.func7, Tryd.ntmps7
  go_upto_region 1 with fail
  go_cut [1] (fun p wx => ∃ P k, p = .pointer (some ⟨k, 0, none⟩) ∧ SixAt wx k (insCs littleI P) ∧ InAt wx wx.heap.size littleI P ∧ Below w.heap.size w wx)
  case first => as_aux_lemma =>
    go_wp2_with (first
      | (go_at_call 16; refine (little_any _).mono ?_; rintro e w1 ⟨P, rfl, hI, hb⟩; have HI := Lib.hid hI; clear hI)
      | ((with_reducible refine wpList_storeL sIns rfl _ _ rfl w1.heap.size nilCs (insCs littleI P) ?_ ?_ ?_ ?_ ?_ (insCs_one _ _) ?_); exact rfl; exact rfl; exact World.alloc_heap_new w1 _; exact rfl; exact rfl; intro w2 k1 k2 k3 k4; have K := Lib.hid (And.intro k1 (And.intro k2 (And.intro k3 k4))); clear k1 k2 k3 k4))
    go_meet
    obtain ⟨k1, k2, k3, k4⟩ := K.out
    have hb2 : Below w1.heap.size w1 w2 := ((Below.refl _ _).alloc (Nat.le_refl _) _).trans k4
    exact ⟨P, w1.heap.size, rfl, k1, HI.out.go hb2, hb.trans (hb2.mono hb.size)⟩
  obtain ⟨P, k, h1, hx, hI, hB⟩ := hcut
  subst h1
  have HX := Lib.hid hx
  have HI := Lib.hid hI
  have hkw : k < wc.heap.size := (Array.getElem?_eq_some_iff.1 hx).1
  clear hx hI
  go_upto_region 2 with fail
  go_cut [2, 3, 4] (fun p v e wx => ∃ P2 A c k2, p = .pointer (some ⟨k2, 0, none⟩) ∧ v = .slice A 1 c ∧ e = .int .i64 0 ∧ SixAt wx k (insCs littleI P) ∧ SixAt wx k2 (insCs onlyY P2) ∧ InAt wx wx.heap.size littleI P ∧ InAt wx wx.heap.size onlyY P2 ∧ wx.ownsRow wc.heap.size 3 1 (.slice A 1 c) 1 [.int .i64 1] ∧ Below w.heap.size w wx)
  case first => as_aux_lemma =>
    go_wp2_with (first
      | ((with_reducible refine wpList_loadB sIns rfl _ rfl k (insCs littleI P).toArray (0, 0) ?_ ?_ ?_ ?_); exact rfl; exact HX.out; exact rfl)
      | (go_at_call 15; refine (awk_only P _ HI.out).mono ?_; rintro e w1 ⟨P2, A, c, rfl, hI2, hown, hb⟩; have HI2 := Lib.hid (And.intro hI2 hown); clear hI2 hown)
      | ((with_reducible refine wpList_storeL sIns rfl _ _ rfl w1.heap.size nilCs (insCs onlyY P2) ?_ ?_ ?_ ?_ ?_ (insCs_one _ _) ?_); exact rfl; exact rfl; exact World.alloc_heap_new w1 _; exact rfl; exact rfl; intro w2 k1 k2 k3 k4; have K := Lib.hid (And.intro k1 (And.intro k2 (And.intro k3 k4))); clear k1 k2 k3 k4))
    go_meet
    obtain ⟨k1, k2, k3, k4⟩ := K.out
    have hb2 : Below w1.heap.size w1 w2 := ((Below.refl _ _).alloc (Nat.le_refl _) _).trans k4
    have hb3 : Below wc.heap.size wc w2 := hb.trans (hb2.mono hb.size)
    exact ⟨P2, A, c, w1.heap.size, rfl, rfl, rfl, HX.out.below hb3, k1, HI.out.go hb3, HI2.out.1.go hb2, own_below HI2.out.2 hb2, hB.trans (hb3.mono hB.size)⟩
  clear HX HI hkw hB
  obtain ⟨P2, A, c, k2, h2, h3, h4, hx, hy, hI, hI2, hown, hB⟩ := hcut
  subst h2
  subst h3
  subst h4
  have HX := Lib.hid hx
  have c0 : wc.cell? ⟨k, 0, none⟩ = some (.slice P.a0 1 P.c0) := hx.cell (j := 0) rfl
  have c1 : wc.cell? ⟨k, 1, none⟩ = some (.slice P.a1 0 P.c1) := hx.cell (j := 1) rfl
  have HI := Lib.hid (And.intro hI hI2)
  have HY := Lib.hid hy
  have HO := Lib.hid hown
  clear hx hI hI2 hown hy
  go_upto_region 3 with fail
  have hi := HI.out.1
  have hnet : InAt wc wc.heap.size netI ⟨P.a0, P.c0, P.a1, P.c1, none, 0, none, 0, none, 0, none, 0⟩ := ⟨hi.places, hi.arcs, RowAt.nil, RowAt.nil, RowAt.nil, RowAt.nil, Nat.le_refl 0, Nat.le_refl 0, Nat.le_refl 0, Nat.le_refl 0⟩
  have HNET := Lib.hid hnet
  clear hi hnet
  go_wp2_with fail
  refine (awk_net _ _ HNET.out).mono ?_
  rintro e w3 ⟨Af, cf, rfl, hownF, hb3⟩
  have HF := Lib.hid hownF
  have hx3 := HX.out.below hb3
  have hi3 := Lib.hid (HI.out.1.go hb3)
  have z3 := hb3.size
  obtain ⟨gf, rfl, hgf, f0, f1⟩ := flt_one hownF
  obtain ⟨gl, hgl1, hgl2, hgl3⟩ := row_place (l := [1]) HO.out
  obtain ⟨rfl, hgl⟩ := hgl2 (by decide)
  have l0 : w3.cell? ⟨gl, 0, none⟩ = some (.int .i64 1) := (hb3.cell (p := ⟨gl, 0, none⟩) hgl).trans (hgl3 0 (by decide))
  have hy3 := HY.out.below hb3
  obtain ⟨ad, C0, d0, hAd, hadb, hox, -, -⟩ := row_Ord (HI.out.2.orders.below hb3) (i := 0) (t := obO) rfl
  have o0 : w3.cell? ad = some (.string ⟨#[111, 98]⟩) := by have h := hox.1; rw [Nat.zero_mul] at h; simpa [Addr.add, obO] using h
  have y3 : w3.cell? ⟨k2, 3, none⟩ = some (.slice (some ad) 1 P2.c3) := by rw [← hAd]; exact hy3.cell (j := 3) rfl
  have hk3 : k < w3.heap.size := (Array.getElem?_eq_some_iff.1 hx3).1
  have hk23 : k2 < w3.heap.size := (Array.getElem?_eq_some_iff.1 hy3).1
  have hS : ∀ w', Below w3.heap.size w3 w' → (Below w3.heap.size w3 w' ∧ w'.cell? ⟨k, 0, none⟩ = some (.slice P.a0 1 P.c0) ∧ w'.cell? ⟨k, 1, none⟩ = some (.slice P.a1 0 P.c1) ∧ w'.cell? ⟨k, 2, none⟩ = some (.slice P.a2 1 P.c2) ∧ w'.cell? ⟨k, 3, none⟩ = some (.slice P.a3 2 P.c3) ∧ w'.cell? ⟨k, 4, none⟩ = some (.slice P.a4 1 P.c4) ∧ w'.cell? ⟨k, 5, none⟩ = some (.slice P.a5 0 P.c5) ∧ w'.cell? ⟨gl, 0, none⟩ = some (.int .i64 1) ∧ w'.cell? ⟨k2, 3, none⟩ = some (.slice (some ad) 1 P2.c3) ∧ w'.cell? ⟨k2, 4, none⟩ = some (.slice P2.a4 0 P2.c4) ∧ w'.cell? ad = some (.string ⟨#[111, 98]⟩) ∧ w'.cell? ⟨gf, 0, none⟩ = some (.int .i64 4) ∧ w'.cell? ⟨gf, 1, none⟩ = some (.string ⟨#[116, 121, 112, 101, 115]⟩)) := fun w' hb => by
    have q1 := fun o => hb.cell (p := ⟨k, o, none⟩) hk3
    have q2 := fun o => hb.cell (p := ⟨k2, o, none⟩) hk23
    have q3 := fun o => hb.cell (p := ⟨gf, o, none⟩) hgf
    exact ⟨hb, (q1 _).trans (hx3.cell (j := 0) rfl), (q1 _).trans (hx3.cell (j := 1) rfl), (q1 _).trans (hx3.cell (j := 2) rfl), (q1 _).trans (hx3.cell (j := 3) rfl), (q1 _).trans (hx3.cell (j := 4) rfl), (q1 _).trans (hx3.cell (j := 5) rfl), (hb.cell (p := ⟨gl, 0, none⟩) (by show gl < _; omega)).trans l0, (q2 _).trans y3, (q2 _).trans (hy3.cell (j := 4) rfl), (hb.cell (by omega)).trans o0, (q3 _).trans f0, (q3 _).trans f1⟩
  have B3 : Below w.heap.size w w3 := hB.trans (hb3.mono hB.size)
  have HXB : Hid (∀ w', Below w3.heap.size w3 w' → SixAt w' k (insCs littleI P)) := Lib.hid fun w' h => hx3.below h
  have HS := Lib.hid hS
  have HI3 : Hid (∀ w', Below w3.heap.size w3 w' → InAt w' w'.heap.size littleI P) := Lib.hid fun w' h => hi3.out.go h
  have B0 : Below w3.heap.size w3 w3 := Below.refl _ _
  have z0 := B3.size
  clear hS hownF hb3 c0 c1 hx3 hi3 hy3 f0 f1 l0 o0 y3 hox hAd hgl1 hgl2 hgl3 hB
  go_upto_region 4 with fail
  obtain ⟨-, x0, x1, x2, x3, x4, x5, -, -, -, -, -, -⟩ := HS.out _ B0
  go_wp2_with fail
  refine (awk_check P _ (HI3.out _ B0)).mono ?_
  rintro e w4 ⟨A4, c4, rfl, -, b4⟩
  have B4 : Below w3.heap.size w3 w4 := b4
  clear b4 x0 x1 x2 x3 x4 x5
  obtain ⟨-, x0, x1, x2, x3, x4, x5, -, -, -, -, -, -⟩ := HS.out _ B4
  go_wp2_with fail
  refine (awk_all P _ (HI3.out _ B4)).mono ?_
  rintro e w5 ⟨rfl, b5⟩
  have B5 : Below w3.heap.size w3 w5 := B4.trans (b5.mono B4.size)
  clear b5 x0 x1 x2 x3 x4 x5
  obtain ⟨-, x0, x1, x2, x3, x4, x5, -, -, -, -, -, -⟩ := HS.out _ B5
  go_wp2_with fail
  refine (awk_must P _ (HI3.out _ B5)).mono ?_
  rintro e w6 ⟨rfl, b6⟩
  have B6 : Below w3.heap.size w3 w6 := B5.trans (b6.mono B5.size)
  clear b6 x0 x1 x2 x3 x4 x5
  obtain ⟨-, x0, x1, x2, x3, x4, x5, l0, y3, y4, o0, f0, f1⟩ := HS.out _ B6
  go_wp2_with fail
  refine (awk_same P _ (HI3.out _ B6)).mono ?_
  rintro e w7 ⟨rfl, b7⟩
  have B7 : Below w3.heap.size w3 w7 := B6.trans (b7.mono B6.size)
  clear b7 x0 x1 x2 x3 x4 x5 l0 y3 y4 o0 f0 f1
  go_wp2_with fail
  go_ret
  exact ⟨rfl, B3.trans (B7.mono z0)⟩
end Go.Proofs.YtceceomaheobhaaDoor.ins

/- The same instances: symmetry; an instance's block. -/
namespace Go.Proofs.YtceceomaheobhaaDoor.ins
open Go.RowKit
open Go.Proofs.YtceceomaheobhaaDoor.lib Go.Proofs.YtceceomaheobhaaDoor.rd Go.Proofs.YtceceomaheobhaaDoor.typ Go.Proofs.YtceceomaheobhaaDoor.eqg Go.Proofs.YtceceomaheobhaaDoor.note Go.Proofs.YtceceomaheobhaaDoor.big Go.Proofs.YtceceomaheobhaaDoor.eqs
set_option linter.unusedVariables false
set_option linter.unusedSimpArgs false

theorem sameS_comm (a b : ByteArray) : sameS a b = sameS b a := by unfold sameS; rw [Bool.eq_iff_iff, beq_iff_eq, beq_iff_eq]; exact eq_comm
theorem sameS_self (a : ByteArray) : sameS a a = true := by simp [sameS]
theorem sameB_comm (a b : List Int) : sameB a b = sameB b a := by unfold sameB; rw [Bool.eq_iff_iff, decide_eq_true_eq, decide_eq_true_eq]; exact eq_comm
theorem stpEq_comm (a b : Stp) : ord.stpEq a b = ord.stpEq b a := by unfold ord.stpEq; rw [int_comm a.place, int_comm a.opn, int_comm a.close, int_comm a.service]
theorem sameO_comm (a b : Ord) : ord.sameO a b = ord.sameO b a := by
  unfold ord.sameO
  have h2 : ord.numsO a b = ord.numsO b a := by
    unfold ord.numsO
    rw [Bool.eq_iff_iff]
    simp only [decide_eq_true_eq]
    constructor <;> (rintro ⟨h1, h2, h3, h4, h5⟩; exact ⟨h1.symm, h2.symm, h3.symm, h4.symm, h5.symm⟩)
  have h3 : (a.off == b.off) = (b.off == a.off) := by cases a.off <;> cases b.off <;> rfl
  rw [sameS_comm a.name, sameB_comm a.load, stpEq_comm a.pick, stpEq_comm a.drop, h2, h3]
theorem sameO_self (a : Ord) : ord.sameO a a = true := by simp [ord.sameO, sameB, sameS, ord.numsO, ord.stpEq]
theorem sameT_comm (a b : Ty) : flt.sameT a b = flt.sameT b a := by
  unfold flt.sameT
  have h2 : flt.numsB a b = flt.numsB b a := by
    unfold flt.numsB
    rw [Bool.eq_iff_iff]
    simp only [decide_eq_true_eq]
    constructor <;> (rintro ⟨h1, h2, h3, h4, h5, h6, h7, h8, h9, h10, h11, h12⟩; exact ⟨h1.symm, h2.symm, h3.symm, h4.symm, h5.symm, h6.symm, h7.symm, h8.symm, h9.symm, h10.symm, h11.symm, h12.symm⟩)
  rw [show flt.sameB a.cap b.cap = flt.sameB b.cap a.cap from sameB_comm _ _, show flt.sameS a.name b.name = flt.sameS b.name a.name from sameS_comm _ _, h2]
theorem sameT_self (a : Ty) : flt.sameT a a = true := by simp [flt.sameT, flt.sameB, flt.sameS, flt.numsB]
theorem sameI_comm (a b : Ins) : sameI a b = sameI b a := by
  unfold sameI
  rw [eqL_comm sameS_comm a.net.places, eqL_comm sameA_comm a.net.arcs, eqL_comm sameT_comm a.types, eqL_comm sameO_comm a.orders, eqL_comm twoEq_comm a.apart, eqL_comm twoEq_comm a.before]
theorem sameI_self (a : Ins) : sameI a a = true := by
  unfold sameI
  rw [eqL_self sameS_self, eqL_self sameA_self, eqL_self sameT_self, eqL_self sameO_self, eqL_self twoEq_self, eqL_self twoEq_self]
  rfl
theorem stIns : StructOf 30 6 := ⟨⟨_, Tryd.underlying30⟩, by kernel_rfl⟩
theorem SixAt.cells {w : World} {k : Nat} {cs : List Value} (h : SixAt w k cs) : CellsAt w ⟨k, 0, none⟩ cs := fun j u hu => h.cell hu
end Go.Proofs.YtceceomaheobhaaDoor.ins

/- The law InstanceSame, walked. -/
namespace Go.Proofs.YtceceomaheobhaaDoor.ins
open Go.RowKit
open Go.Proofs.YtceceomaheobhaaDoor.lib Go.Proofs.YtceceomaheobhaaDoor.rd Go.Proofs.YtceceomaheobhaaDoor.typ Go.Proofs.YtceceomaheobhaaDoor.eqg Go.Proofs.YtceceomaheobhaaDoor.note Go.Proofs.YtceceomaheobhaaDoor.big Go.Proofs.YtceceomaheobhaaDoor.eqs
set_option linter.unusedVariables false
set_option linter.unusedSimpArgs false

set_option maxRecDepth 100000 in
set_option maxHeartbeats 16000000 in
theorem lawSame_any (a b : Ins) (P Q : InP) (w : World) (hP : InAt w w.heap.size a P) (hQ : InAt w w.heap.size b Q) : Calls Tryd.prog 4 #[InV a P, InV b Q] w fun e w' => e = .returned (.bool true) ∧ Below w.heap.size w w' := by
  obtain ⟨W0, hW0⟩ : ∃ W0, (w.alloc (.cells (insCs a P).toArray 30)).alloc (.cells (insCs b Q).toArray 30) = W0 := ⟨_, rfl⟩
  have hB0 : Below w.heap.size w W0 := by rw [← hW0]; exact ((Below.refl _ _).alloc (Nat.le_refl _) _).alloc (by simp) _
  have z0 := hB0.size
  have hs0 : w.heap.size + 1 < W0.heap.size := by rw [← hW0]; simp
  have hb0 : SixAt W0 w.heap.size (insCs a P) := by
    rw [← hW0]
    unfold SixAt
    rw [Below.heap_alloc _ _ _ (by simp)]
    exact World.alloc_heap_new w _
  have hb1 : SixAt W0 (w.heap.size + 1) (insCs b Q) := by
    rw [← hW0]
    have h := World.alloc_heap_new (w.alloc (.cells (insCs a P).toArray 30)) (.cells (insCs b Q).toArray 30)
    simpa [SixAt] using h
  have hS : ∀ w', Below W0.heap.size W0 w' → (CellsAt w' ⟨w.heap.size, 0, none⟩ (insCs a P) ∧ CellsAt w' ⟨w.heap.size + 1, 0, none⟩ (insCs b Q)) := fun w' h => ⟨(hb0.below h).cells, (hb1.below h).cells⟩
  have HI : Hid (∀ w', Below W0.heap.size W0 w' → InAt w' w'.heap.size a P ∧ InAt w' w'.heap.size b Q) := Lib.hid fun w' h => ⟨(hP.go hB0).go h, (hQ.go hB0).go h⟩
  have hW1 : (w.alloc (.cells #[.slice P.a0 a.net.places.length P.c0, .slice P.a1 a.net.arcs.length P.c1, .slice P.a2 a.types.length P.c2, .slice P.a3 a.orders.length P.c3, .slice P.a4 a.apart.length P.c4, .slice P.a5 a.before.length P.c5] 30)).alloc (.cells #[.slice Q.a0 b.net.places.length Q.c0, .slice Q.a1 b.net.arcs.length Q.c1, .slice Q.a2 b.types.length Q.c2, .slice Q.a3 b.orders.length Q.c3, .slice Q.a4 b.apart.length Q.c4, .slice Q.a5 b.before.length Q.c5] 30) = W0 := hW0
  have HW1 := Lib.hid hW1
  have B0 : Below W0.heap.size W0 W0 := Below.refl _ _
  clear hW0 hW1 hP hQ
  obtain ⟨qs, hqs⟩ : ∃ q, sameI a b = q := ⟨_, rfl⟩
  have hqs2 : sameI b a = qs := by rw [sameI_comm, hqs]
  have HQ := Lib.hid (And.intro hqs hqs2)
  clear hqs hqs2 hb0 hb1
  simp only [InV]
  go_enter Tryd.func4, Tryd.ntmps4
  go_upto_region 1 with fail
  rw [HW1.out]
  go_cut [12] (fun v wx => (∃ q : Bool, v = .bool q) ∧ Below W0.heap.size W0 wx)
  case first => as_aux_lemma =>
    obtain ⟨x0, y0⟩ := hS _ B0
    have HX := Lib.hid x0
    have HY := Lib.hid y0
    clear x0 y0
    go_wp2_with ((with_reducible refine wpList_loadG stIns _ rfl ⟨w.heap.size, 0, none⟩ (insCs (a) P) ?_ ?_ ?_ ?_ ?_); exact rfl; exact rfl; exact HX.out; exact rfl)
    refine (small_any a P _ (HI.out _ B0).1).mono ?_
    rintro e w1 ⟨q, rfl, _, b1⟩
    have z1 := b1.size
    obtain ⟨x0, y0⟩ := hS _ b1
    have HX1 := Lib.hid x0
    have HY1 := Lib.hid y0
    clear x0 y0
    cases q
    · go_wp2_with fail
      go_meet
      exact ⟨⟨_, rfl⟩, b1⟩
    · go_wp2_with ((with_reducible refine wpList_loadG stIns _ rfl ⟨w.heap.size + 1, 0, none⟩ (insCs (b) Q) ?_ ?_ ?_ ?_ ?_); exact rfl; exact rfl; exact HY1.out; exact rfl)
      refine (small_any b Q _ (HI.out _ b1).2).mono ?_
      rintro e w2 ⟨q, rfl, _, b2⟩
      go_wp2_with fail
      go_meet
      exact ⟨⟨_, rfl⟩, b1.trans (b2.mono z1)⟩
  obtain ⟨⟨q, h12⟩, B1⟩ := hcut
  subst h12
  have z1 := B1.size
  cases q
  case true =>
    go_wp2_with fail
    refine (awake_any _).mono ?_
    rintro e w2 ⟨rfl, b2⟩
    have B2 : Below W0.heap.size W0 w2 := B1.trans (b2.mono z1)
    go_wp2_with fail
    go_ret
    exact ⟨rfl, hB0.trans (B2.mono z0)⟩
  case false =>
    go_upto_region 3 with fail
    have B1d := B1.drew
    (refine wp_region_held_drew (S := (fun w' => CellsAt w' ⟨w.heap.size, 0, none⟩ (insCs a P) ∧ CellsAt w' ⟨w.heap.size + 1, 0, none⟩ (insCs b Q))) (by kernel_rfl) ?_ (fun hHeld => ?_))
    · exact hS _ B1d
    (refine wpAnyH_take (i := 0) (v := _) rfl (by kernel_rfl) (by kernel_rfl) (by kernel_rfl) (fun _ _ _ h => h) (Or.inl ⟨by kernel_rfl, fun _ hSw => exec_loadS stIns rfl rfl hSw.1 rfl⟩) (by assumption) ?_; (try simp only [Act.put, List.getElem_toArray, List.getElem_cons_succ, List.getElem_cons_zero, List.setIfInBounds_toArray, List.set_cons_zero, List.set_cons_succ]))
    (refine wpAnyH_take (i := 1) (v := _) rfl (by kernel_rfl) (by kernel_rfl) (by kernel_rfl) (fun _ _ _ h => h) (Or.inl ⟨by kernel_rfl, fun _ hSw => exec_loadS stIns rfl rfl hSw.2 rfl⟩) (by assumption) ?_; (try simp only [Act.put, List.getElem_toArray, List.getElem_cons_succ, List.getElem_cons_zero, List.setIfInBounds_toArray, List.set_cons_zero, List.set_cons_succ]))
    (refine wpAnyH_take (i := 3) (v := _) rfl (by kernel_rfl) (by kernel_rfl) (by kernel_rfl) (fun _ _ _ h => h) (Or.inl ⟨by kernel_rfl, fun _ hSw => exec_loadS stIns rfl rfl hSw.1 rfl⟩) (by assumption) ?_; (try simp only [Act.put, List.getElem_toArray, List.getElem_cons_succ, List.getElem_cons_zero, List.setIfInBounds_toArray, List.set_cons_zero, List.set_cons_succ]))
    (refine wpAnyH_take (i := 4) (v := _) rfl (by kernel_rfl) (by kernel_rfl) (by kernel_rfl) (fun _ _ _ h => h) (Or.inl ⟨by kernel_rfl, fun _ hSw => exec_loadS stIns rfl rfl hSw.2 rfl⟩) (by assumption) ?_; (try simp only [Act.put, List.getElem_toArray, List.getElem_cons_succ, List.getElem_cons_zero, List.setIfInBounds_toArray, List.set_cons_zero, List.set_cons_succ]))
    (refine wpAnyH_ready (rs := [2]) (by kernel_rfl) (by simp) ?_; refine AllReadyH.cons rfl (fun K hK => ?_) AllReadyH.nil; go_simp)
    go_at_call 12; refine (same_any a b P Q _ (HI.out _ B1d).1 (HI.out _ B1d).2).mono ?_; rw [HQ.out.1]
    rintro e w2 ⟨rfl, bw2⟩
    have Bw2 : Below W0.heap.size W0 w2 := Below.trans (B1d) (bw2.mono (by first | omega | (simp <;> omega)))
    have zw2 := Bw2.size
    (refine hK.out _ _ ?_ (fun hHeld => ?_))
    · exact hS _ Bw2
    clear hK K
    (try simp only [Act.put, List.getElem_toArray, List.getElem_cons_succ, List.getElem_cons_zero, List.setIfInBounds_toArray, List.set_cons_zero, List.set_cons_succ])
    as_aux_lemma =>
      (refine wpAnyH_ready (rs := [5]) (by kernel_rfl) (by simp) ?_; refine AllReadyH.cons rfl (fun K hK => ?_) AllReadyH.nil; go_simp)
      go_at_call 13; refine (rsame_any a b P Q _ (HI.out _ Bw2).1 (HI.out _ Bw2).2).mono ?_; rw [HQ.out.1]
      rintro e w3 ⟨rfl, bw3⟩
      have Bw3 : Below W0.heap.size W0 w3 := Below.trans (Bw2) (bw3.mono (by first | omega | (simp <;> omega)))
      have zw3 := Bw3.size
      (refine hK.out _ _ ?_ (fun hHeld => ?_))
      · exact hS _ Bw3
      clear hK K
      (try simp only [Act.put, List.getElem_toArray, List.getElem_cons_succ, List.getElem_cons_zero, List.setIfInBounds_toArray, List.set_cons_zero, List.set_cons_succ])
      (refine wpAnyH_take (i := 6) (v := ?_) rfl (by kernel_rfl) (by kernel_rfl) (by kernel_rfl) (fun _ _ _ h => h) (Or.inl ⟨by kernel_rfl, ?_⟩) (by assumption) ?_; rotate_left; (focus (intro w hSw; (try dsimp only at hSw); go_simp; all_goals with_reducible rfl)); (try simp only [Act.put, List.getElem_toArray, List.getElem_cons_succ, List.getElem_cons_zero, List.setIfInBounds_toArray, List.set_cons_zero, List.set_cons_succ]))
      (refine wpAnyH_take (i := 7) (v := ?_) rfl (by kernel_rfl) (by kernel_rfl) (by kernel_rfl) (fun _ _ _ h => h) (Or.inl ⟨by kernel_rfl, ?_⟩) (by assumption) ?_; rotate_left; (focus (intro w hSw; (try dsimp only at hSw); go_simp; all_goals with_reducible rfl)); (try simp only [Act.put, List.getElem_toArray, List.getElem_cons_succ, List.getElem_cons_zero, List.setIfInBounds_toArray, List.set_cons_zero, List.set_cons_succ]))
      (refine wpAnyH_take (i := 8) (v := _) rfl (by kernel_rfl) (by kernel_rfl) (by kernel_rfl) (fun _ _ _ h => h) (Or.inl ⟨by kernel_rfl, fun _ hSw => exec_loadS stIns rfl rfl hSw.2 rfl⟩) (by assumption) ?_; (try simp only [Act.put, List.getElem_toArray, List.getElem_cons_succ, List.getElem_cons_zero, List.setIfInBounds_toArray, List.set_cons_zero, List.set_cons_succ]))
      (refine wpAnyH_take (i := 9) (v := _) rfl (by kernel_rfl) (by kernel_rfl) (by kernel_rfl) (fun _ _ _ h => h) (Or.inl ⟨by kernel_rfl, fun _ hSw => exec_loadS stIns rfl rfl hSw.1 rfl⟩) (by assumption) ?_; (try simp only [Act.put, List.getElem_toArray, List.getElem_cons_succ, List.getElem_cons_zero, List.setIfInBounds_toArray, List.set_cons_zero, List.set_cons_succ]))
      (refine wpAnyH_take (i := 11) (v := _) rfl (by kernel_rfl) (by kernel_rfl) (by kernel_rfl) (fun _ _ _ h => h) (Or.inl ⟨by kernel_rfl, fun _ hSw => exec_loadS stIns rfl rfl hSw.1 rfl⟩) (by assumption) ?_; (try simp only [Act.put, List.getElem_toArray, List.getElem_cons_succ, List.getElem_cons_zero, List.setIfInBounds_toArray, List.set_cons_zero, List.set_cons_succ]))
      (refine wpAnyH_take (i := 12) (v := _) rfl (by kernel_rfl) (by kernel_rfl) (by kernel_rfl) (fun _ _ _ h => h) (Or.inl ⟨by kernel_rfl, fun _ hSw => exec_loadS stIns rfl rfl hSw.2 rfl⟩) (by assumption) ?_; (try simp only [Act.put, List.getElem_toArray, List.getElem_cons_succ, List.getElem_cons_zero, List.setIfInBounds_toArray, List.set_cons_zero, List.set_cons_succ]))
      as_aux_lemma =>
        (refine wpAnyH_ready (rs := [10]) (by kernel_rfl) (by simp) ?_; refine AllReadyH.cons rfl (fun K hK => ?_) AllReadyH.nil; go_simp)
        go_at_call 12; refine (same_any b a Q P _ (HI.out _ Bw3).2 (HI.out _ Bw3).1).mono ?_; rw [HQ.out.2]
        rintro e w4 ⟨rfl, bw4⟩
        have Bw4 : Below W0.heap.size W0 w4 := Below.trans (Bw3) (bw4.mono (by first | omega | (simp <;> omega)))
        have zw4 := Bw4.size
        (refine hK.out _ _ ?_ (fun hHeld => ?_))
        · exact hS _ Bw4
        clear hK K
        (try simp only [Act.put, List.getElem_toArray, List.getElem_cons_succ, List.getElem_cons_zero, List.setIfInBounds_toArray, List.set_cons_zero, List.set_cons_succ])
        (refine wpAnyH_ready (rs := [13]) (by kernel_rfl) (by simp) ?_; refine AllReadyH.cons rfl (fun K hK => ?_) AllReadyH.nil; go_simp)
        go_at_call 13; refine (rsame_any a b P Q _ (HI.out _ Bw4).1 (HI.out _ Bw4).2).mono ?_; rw [HQ.out.1]
        rintro e w5 ⟨rfl, bw5⟩
        have Bw5 : Below W0.heap.size W0 w5 := Below.trans (Bw4) (bw5.mono (by first | omega | (simp <;> omega)))
        have zw5 := Bw5.size
        (refine hK.out _ _ ?_ (fun hHeld => ?_))
        · exact hS _ Bw5
        clear hK K
        (try simp only [Act.put, List.getElem_toArray, List.getElem_cons_succ, List.getElem_cons_zero, List.setIfInBounds_toArray, List.set_cons_zero, List.set_cons_succ])
        (refine wpAnyH_take (i := 14) (v := ?_) rfl (by kernel_rfl) (by kernel_rfl) (by kernel_rfl) (fun _ _ _ h => h) (Or.inl ⟨by kernel_rfl, ?_⟩) (by assumption) ?_; rotate_left; (focus (intro w hSw; (try dsimp only at hSw); go_simp; all_goals with_reducible rfl)); (try simp only [Act.put, List.getElem_toArray, List.getElem_cons_succ, List.getElem_cons_zero, List.setIfInBounds_toArray, List.set_cons_zero, List.set_cons_succ]))
        (refine wpAnyH_take (i := 15) (v := ?_) rfl (by kernel_rfl) (by kernel_rfl) (by kernel_rfl) (fun _ _ _ h => h) (Or.inl ⟨by kernel_rfl, ?_⟩) (by assumption) ?_; rotate_left; (focus (intro w hSw; (try dsimp only at hSw); go_simp; all_goals with_reducible rfl)); (try simp only [Act.put, List.getElem_toArray, List.getElem_cons_succ, List.getElem_cons_zero, List.setIfInBounds_toArray, List.set_cons_zero, List.set_cons_succ]))
        (refine wpAnyH_take (i := 16) (v := ?_) rfl (by kernel_rfl) (by kernel_rfl) (by kernel_rfl) (fun _ _ _ h => h) (Or.inl ⟨by kernel_rfl, ?_⟩) (by assumption) ?_; rotate_left; (focus (intro w hSw; (try dsimp only at hSw); go_simp; all_goals with_reducible rfl)); (try simp only [Act.put, List.getElem_toArray, List.getElem_cons_succ, List.getElem_cons_zero, List.setIfInBounds_toArray, List.set_cons_zero, List.set_cons_succ]))
        (refine wpAnyH_take (i := 17) (v := _) rfl (by kernel_rfl) (by kernel_rfl) (by kernel_rfl) (fun _ _ _ h => h) (Or.inl ⟨by kernel_rfl, fun _ hSw => exec_loadS stIns rfl rfl hSw.1 rfl⟩) (by assumption) ?_; (try simp only [Act.put, List.getElem_toArray, List.getElem_cons_succ, List.getElem_cons_zero, List.setIfInBounds_toArray, List.set_cons_zero, List.set_cons_succ]))
        (refine wpAnyH_take (i := 18) (v := _) rfl (by kernel_rfl) (by kernel_rfl) (by kernel_rfl) (fun _ _ _ h => h) (Or.inl ⟨by kernel_rfl, fun _ hSw => exec_loadS stIns rfl rfl hSw.1 rfl⟩) (by assumption) ?_; (try simp only [Act.put, List.getElem_toArray, List.getElem_cons_succ, List.getElem_cons_zero, List.setIfInBounds_toArray, List.set_cons_zero, List.set_cons_succ]))
        as_aux_lemma =>
          (refine wpAnyH_ready (rs := [19]) (by kernel_rfl) (by simp) ?_; refine AllReadyH.cons rfl (fun K hK => ?_) AllReadyH.nil; go_simp)
          go_at_call 12; refine (same_any a a P P _ (HI.out _ Bw5).1 (HI.out _ Bw5).1).mono ?_; rw [sameI_self]
          rintro e w6 ⟨rfl, bw6⟩
          have Bw6 : Below W0.heap.size W0 w6 := Below.trans (Bw5) (bw6.mono (by first | omega | (simp <;> omega)))
          have zw6 := Bw6.size
          (refine hK.out _ _ ?_ (fun hHeld => ?_))
          · exact hS _ Bw6
          clear hK K
          (try simp only [Act.put, List.getElem_toArray, List.getElem_cons_succ, List.getElem_cons_zero, List.setIfInBounds_toArray, List.set_cons_zero, List.set_cons_succ])
          (refine wpAnyH_take (i := 20) (v := ?_) rfl (by kernel_rfl) (by kernel_rfl) (by kernel_rfl) (fun _ _ _ h => h) (Or.inl ⟨by kernel_rfl, ?_⟩) (by assumption) ?_; rotate_left; (focus (intro w hSw; (try dsimp only at hSw); go_simp; all_goals with_reducible rfl)); (try simp only [Act.put, List.getElem_toArray, List.getElem_cons_succ, List.getElem_cons_zero, List.setIfInBounds_toArray, List.set_cons_zero, List.set_cons_succ]))
          (refine wpAnyH_take (i := 21) (v := ?_) rfl (by kernel_rfl) (by kernel_rfl) (by kernel_rfl) (fun _ _ _ h => h) (Or.inl ⟨by kernel_rfl, ?_⟩) (by assumption) ?_; rotate_left; (focus (intro w hSw; (try dsimp only at hSw); go_simp; all_goals with_reducible rfl)); (try simp only [Act.put, List.getElem_toArray, List.getElem_cons_succ, List.getElem_cons_zero, List.setIfInBounds_toArray, List.set_cons_zero, List.set_cons_succ]))
          as_aux_lemma =>
            (refine wpAnyH_ready (rs := [22]) (by kernel_rfl) (by simp) ?_; refine AllReadyH.cons rfl (fun K hK => ?_) AllReadyH.nil; go_simp)
            go_at_call 7; refine (awake_any _).mono ?_
            rintro e w7 ⟨rfl, bw7⟩
            have Bw7 : Below W0.heap.size W0 w7 := Below.trans (Bw6) (bw7.mono (by first | omega | (simp <;> omega)))
            have zw7 := Bw7.size
            (refine hK.out _ _ ?_ (fun hHeld => ?_))
            · exact hS _ Bw7
            clear hK K
            (try simp only [Act.put, List.getElem_toArray, List.getElem_cons_succ, List.getElem_cons_zero, List.setIfInBounds_toArray, List.set_cons_zero, List.set_cons_succ])
            (refine wpAnyH_take (i := 23) (v := ?_) rfl (by kernel_rfl) (by kernel_rfl) (by kernel_rfl) (fun _ _ _ h => h) (Or.inl ⟨by kernel_rfl, ?_⟩) (by assumption) ?_; rotate_left; (focus (intro w hSw; (try dsimp only at hSw); go_simp; all_goals with_reducible rfl)); (try simp only [Act.put, List.getElem_toArray, List.getElem_cons_succ, List.getElem_cons_zero, List.setIfInBounds_toArray, List.set_cons_zero, List.set_cons_succ]))
            (refine wpAnyH_take (i := 24) (v := ?_) rfl (by kernel_rfl) (by kernel_rfl) (by kernel_rfl) (fun _ _ _ h => h) (Or.inl ⟨by kernel_rfl, ?_⟩) (by assumption) ?_; rotate_left; (focus (intro w hSw; (try dsimp only at hSw); go_simp; all_goals with_reducible rfl)); (try simp only [Act.put, List.getElem_toArray, List.getElem_cons_succ, List.getElem_cons_zero, List.setIfInBounds_toArray, List.set_cons_zero, List.set_cons_succ]))
            (refine wpAnyH_done (by kernel_rfl) ?_ _)
            go_wp2_with fail
            go_ret
            exact ⟨rfl, hB0.trans (Bw7.mono z0)⟩
end Go.Proofs.YtceceomaheobhaaDoor.ins

/- A call's arguments, read: slices with their capacity, structs by value. -/
namespace Go.Proofs.YtceceomaheobhaaDoor.rd
open Go.RowKit Go.ChangeShapes Go.WideShapes Go.ChangeAt Go.Deep
open Go.Proofs.YtceceomaheobhaaDoor.lib
set_option linter.unusedVariables false

set_option maxRecDepth 20000 in
theorem arg_slice {X : Type} {t e : TypeId} {r : Rd X} (ht : Tryd.prog.underlying t = some (.slice e)) (ho : Opens t (rSlice r)) {H : Type} {enc : TypeId × Value → H} {W : World} {base : Nat} {v : Value} {d : DataW H} {p : List MemPlace}
    (hv : Value.okWide Tryd.prog W .any base t v) (h : DataW.Trod enc Tryd.prog W 0 (fun _ => true) true t v d p) (hw : ∀ n ∈ d.weights Tryd.prog t, n ≤ reachBytes) :
    ∃ A c l, v = .slice A l.length c ∧ RowAt r W W.heap.size A l ∧ l.length ≤ c ∧ c ≤ maxLen := by
  obtain ⟨A, n, c, rfl⟩ := okWide_slice ht hv
  have hh := h
  obtain ⟨fuel, hf⟩ := hh
  obtain ⟨l, A', c', he, hr⟩ := ho H enc W fuel _ _ hf hw
  simp [Value.cells] at he
  obtain ⟨rfl, rfl, rfl⟩ := he
  refine ⟨A, c, l, rfl, hr, ?_⟩
  rcases open_slice ht hf with ⟨hcs, _⟩ | ⟨a, len, cap, m, k, D, Pl, hcs, _, hl, hm, _⟩
  · simp [Value.cells] at hcs
    obtain ⟨_, h2, h3⟩ := hcs
    rw [h2, h3]
    exact ⟨Nat.le_refl _, Nat.zero_le _⟩
  · simp [Value.cells] at hcs
    obtain ⟨_, h2, h3⟩ := hcs
    rw [h2, h3]
    exact ⟨hl, hm⟩
set_option maxRecDepth 20000 in
theorem arg_struct {X : Type} {t : TypeId} {fs : Array Field} {r : Rd X} (ht : Tryd.prog.underlying t = some (.struct fs)) (ho : Opens t r) {H : Type} {enc : TypeId × Value → H} {W : World} {base : Nat} {v : Value} {d : DataW H} {p : List MemPlace}
    (hv : Value.okWide Tryd.prog W .any base t v) (h : DataW.Trod enc Tryd.prog W 0 (fun _ => true) true t v d p) (hw : ∀ n ∈ d.weights Tryd.prog t, n ≤ reachBytes) :
    ∃ cs x, v = .agg (List.toArray cs) ∧ r.at_ W W.heap.size cs x := by
  obtain ⟨cs, rfl, _⟩ := okWide_struct ht hv
  obtain ⟨fuel, hf⟩ := h
  obtain ⟨x, hx⟩ := ho H enc W fuel _ _ hf hw
  exact ⟨cs.toList, x, by simp, by simpa [Value.cells] using hx⟩
end Go.Proofs.YtceceomaheobhaaDoor.rd

/- A world in which the library's tables lie as the row lists them, for the witness. -/
namespace Go.Proofs.YtceceomaheobhaaDoor.laid
open Go.ChangeShapes Go.WideShapes Go.ChangeAt Go.RowKit

theorem own : ownKnob Tryd.prog.godebug = none := by kernel_rfl
/-- A variable's block with other cells. -/
def lay (xs : Array Value) : Obj → Obj
  | .cells _ t frozen => .cells xs t frozen
  | o => o
/-- The settled world with the tables laid. -/
noncomputable def laidWorld (os : Os) : World :=
  { World.holding Tryd.prog os ⟨#[], #[], []⟩ with heap := (((World.holding Tryd.prog os ⟨#[], #[], []⟩).heap.modify 0 (lay #[.int .u64 1, .int .u64 10, .int .u64 100, .int .u64 1000, .int .u64 10000, .int .u64 100000, .int .u64 1000000, .int .u64 10000000, .int .u64 100000000, .int .u64 1000000000, .int .u64 10000000000, .int .u64 100000000000, .int .u64 1000000000000, .int .u64 10000000000000, .int .u64 100000000000000, .int .u64 1000000000000000, .int .u64 10000000000000000, .int .u64 100000000000000000, .int .u64 1000000000000000000, .int .u64 10000000000000000000])).modify 1 (lay (Lib.deBruijn32tab.map (fun n : Nat => Value.int .u8 n)).toArray)).modify 2 (lay (Lib.deBruijn64tab.map (fun n : Nat => Value.int .u8 n)).toArray) }
end Go.Proofs.YtceceomaheobhaaDoor.laid

/- The statement InstanceSame: the call returns true whatever the input, and the input reads as it did. No conditions. -/
namespace Go.Proofs.YtceceomaheobhaaDoor.instanceSame
open Go.ChangeShapes Go.WideShapes Go.ChangeAt Go.RowKit Go.Joins
open Go.ChangeMaps (open_string shut_string)
set_option linter.unusedVariables false

theorem own : ownKnob Tryd.prog.godebug = none := laid.own
theorem laidOut : laidOutB Tryd.prog = true := by kernel_rfl
theorem bd {a : Int} (h : (Lit.int .i64 a).wf = true) : -9223372036854775808 ≤ a ∧ a ≤ 9223372036854775807 := by simpa [Lit.wf, IntKind.min, IntKind.max, IntKind.signed, IntKind.bits] using h
theorem laid_met (os : Os) : laidMet Tryd.prog Rows.instanceSameRow.laid ((laid.laidWorld os).forCall (fun _ _ => 0) ⟨#[], #[Value.agg #[.slice none 0 0, .slice none 0 0, .slice none 0 0, .slice none 0 0, .slice none 0 0, .slice none 0 0], Value.agg #[.slice none 0 0, .slice none 0 0, .slice none 0 0, .slice none 0 0, .slice none 0 0, .slice none 0 0]], []⟩).memory :=
  laidMet_of_run' 8 (by kernel_rfl) (by kernel_rfl)
theorem reads (os : Os) {H : Type} (enc : TypeId × Value → H) : ∃ places, DataW.whole enc Tryd.prog ((laid.laidWorld os).forCall (fun _ _ => 0) ⟨#[], #[Value.agg #[.slice none 0 0, .slice none 0 0, .slice none 0 0, .slice none 0 0, .slice none 0 0, .slice none 0 0], Value.agg #[.slice none 0 0, .slice none 0 0, .slice none 0 0, .slice none 0 0, .slice none 0 0, .slice none 0 0]], []⟩).memory Tryd.f4.params.toList Rows.instanceSameSpec.vars false #[Value.agg #[.slice none 0 0, .slice none 0 0, .slice none 0 0, .slice none 0 0, .slice none 0 0, .slice none 0 0], Value.agg #[.slice none 0 0, .slice none 0 0, .slice none 0 0, .slice none 0 0, .slice none 0 0, .slice none 0 0]].toList 8 = some ([.agg [.agg [.nil, .nil], .nil, .nil, .nil, .nil], .agg [.agg [.nil, .nil], .nil, .nil, .nil, .nil]], [], places) :=
  ⟨[], by kernel_rfl⟩

set_option maxRecDepth 100000 in
theorem contract (H : Type) (enc : TypeId × Value → H) (W : World) (base : Nat) (args : Array Value) (ds gs : List (DataW H)) (before : List MemPlace)
    (hval0 : ∀ (j : Nat) t v, Tryd.f4.params[j]? = some t → args[j]? = some v → Value.okWide Tryd.prog W .any base t v)
    (hW : DataW.Whole enc Tryd.prog Tryd.f4.params.toList Rows.instanceSameSpec.vars false W args.toList ds gs before)
    (hsz0 : (DataW.weightsEach Tryd.prog (Tryd.f4.params.toList ++ Rows.instanceSameSpec.plain.varTypes Tryd.prog) (ds ++ gs)).all (· ≤ reachBytes) = true) :
    Calls Tryd.prog 4 args W fun e W' => ∃ v, e = .returned v ∧ Rows.instanceSameSpec.post enc Tryd.prog Tryd.f4 false true false false W args v W' := by
  have hsz : (DataW.weightsEach Tryd.prog (Tryd.f4.params.toList ++ Rows.instanceSameSpec.plain.varTypes Tryd.prog) (ds ++ gs)).all (· ≤ reachBytes) = true := hsz0
  clear hsz0
  have hval : ∀ (j : Nat) t v, Tryd.f4.params[j]? = some t → args[j]? = some v → Value.okWide Tryd.prog W .any base t v := hval0
  have hW' := hW
  obtain ⟨p, q, hA0, hV, rfl, hfz, hnd⟩ := hW
  have hA : DataW.TrodAll enc Tryd.prog W 0 (fun _ => true) true Tryd.f4.params.toList args.toList ds p := hA0
  rw [Tryd.params4] at hA hval hsz
  obtain ⟨v0, vs0, d0, ds0, p0, q0, hargs, rfl, rfl, h0, r0⟩ := trodAll_cons hA
  obtain ⟨v1, vs1, d1, ds1, p1, q1, rfl, rfl, rfl, h1, r1⟩ := trodAll_cons r0
  obtain ⟨rfl, rfl, rfl⟩ := trodAll_nil r1
  obtain rfl : args = #[v0, v1] := by cases args; simp_all
  obtain ⟨rfl, rfl⟩ := trodVars_none hV
  have k0 := h0
  have lt0 : ∀ x ∈ p0, x.block < W.heap.size := by obtain ⟨m, hm⟩ := k0; exact DataW.trod_lt m _ _ _ hm
  obtain ⟨a_cs, a, rfl, at_a⟩ := rd.arg_struct Tryd.underlying30 typ.opens_Ins (hval 0 30 v0 rfl rfl) h0 (rd.weight_of hsz (j := 0) rfl rfl)
  obtain ⟨a_C0, a_c0, a_C1, a_c1, a_C2, a_c2, a_C3, a_c3, a_C4, a_c4, a_C5, a_c5, rfl, a_I0, a_I1, a_I2, a_I3, a_I4, a_I5, a_f⟩ := typ.rIns_at at_a
  have k1 := h1
  have lt1 : ∀ x ∈ p1, x.block < W.heap.size := by obtain ⟨m, hm⟩ := k1; exact DataW.trod_lt m _ _ _ hm
  obtain ⟨b_cs, b, rfl, at_b⟩ := rd.arg_struct Tryd.underlying30 typ.opens_Ins (hval 1 30 v1 rfl rfl) h1 (rd.weight_of hsz (j := 1) rfl rfl)
  obtain ⟨b_C0, b_c0, b_C1, b_c1, b_C2, b_c2, b_C3, b_c3, b_C4, b_c4, b_C5, b_c5, rfl, b_I0, b_I1, b_I2, b_I3, b_I4, b_I5, b_f⟩ := typ.rIns_at at_b
  clear hA0 hval0
  refine Calls.mono (ins.lawSame_any a b ⟨a_C0, a_c0, a_C1, a_c1, a_C2, a_c2, a_C3, a_c3, a_C4, a_c4, a_C5, a_c5⟩ ⟨b_C0, b_c0, b_C1, b_c1, b_C2, b_c2, b_C3, b_c3, b_C4, b_c4, b_C5, b_c5⟩ W ⟨a_I0, a_I1, a_I2.1, a_I3.1, a_I4.1, a_I5.1, a_I2.2, a_I3.2, a_I4.2, a_I5.2⟩ ⟨b_I0, b_I1, b_I2.1, b_I3.1, b_I4.1, b_I5.1, b_I2.2, b_I3.2, b_I4.2, b_I5.2⟩) fun e W' ⟨he, bel⟩ => ?_
  subst he
  exact ⟨_, rfl, _, _, _, [], _, [], hW', trodAll_mk1 (shut_bool Tryd.underlying4 _), (trodAll_cons_mk (Below.trod laidOut (by kernel_rfl) (of_decide_eq_true (by kernel_rfl)) k0 bel lt0) (trodAll_cons_mk (Below.trod laidOut (by kernel_rfl) (of_decide_eq_true (by kernel_rfl)) k1 bel lt1) trodAll_mk0)), rfl, bel.frame _, fun h => by cases h⟩

set_option maxRecDepth 100000 in
theorem lifted (os : Os) (started : os.Started) (H : Type) (enc : TypeId × Value → H) (F : Stop.Interp) :
    ReturnsInHanded {} Tryd.checked os 4 .any ((OpenSpec.ofChange Rows.instanceSameSpec).preRow enc Tryd.prog Tryd.f4 Rows.instanceSameRow.domain false Rows.instanceSameRow.laid) (((OpenSpec.ofChange Rows.instanceSameSpec).at F).post enc Tryd.prog Tryd.f4 false true false false) := by
  obtain ⟨places, hx⟩ := reads os enc
  refine returnsInHanded_of_row (C := Tryd.checked) (s := OpenSpec.ofChange Rows.instanceSameSpec) own started (by kernel_rfl) Tryd.func4
    (witness_row_at (enc := enc) (C := Tryd.checked) false (laid.laidWorld os) #[Value.agg #[.slice none 0 0, .slice none 0 0, .slice none 0 0, .slice none 0 0, .slice none 0 0, .slice none 0 0], Value.agg #[.slice none 0 0, .slice none 0 0, .slice none 0 0, .slice none 0 0, .slice none 0 0, .slice none 0 0]] rfl (by kernel_rfl) (by kernel_rfl) (by kernel_rfl)
      (OpenSpec.preRow_of_cond 8 hx (by kernel_rfl) (fun k hk => by cases hk) (by kernel_rfl) (laid_met os))) ?_
  intro W base args ds gs before hval hW _ _ hsz hL _ _
  exact contract H enc W base args ds gs before hval hW hsz

theorem said : Rows.InstanceSameSaid :=
  OpenClaim.holds_of_cond 4 Tryd.f4 rfl rfl rfl rfl rfl rfl rfl ⟨rfl, rfl, rfl, rfl, rfl⟩ rfl rfl rfl rfl rfl (by kernel_rfl) Tryd.func4 (by kernel_rfl)
    (of_decide_eq_true (by kernel_rfl)) (by unfold Func.isWrapper; first | (rw [if_pos (by decide +kernel)]; kernel_rfl) | (rw [if_neg (by decide +kernel)]; exact ⟨rfl, rfl⟩))
    (fun os started H enc _ F => by rw [OpenClaim.pre_eq_preRow]; exact lifted os started H enc F)

theorem plain (f : FuncId) (fn : Func) (hf : Tryd.pinned.checked.prog.funcNamed "lorry/lorrylaw13.InstanceSame" = some f) (hfn : Tryd.pinned.checked.prog.funcs[f]? = some fn) :
    false = Tryd.pinned.checked.prog.looks [] ∧ ∀ (j : Nat) t, fn.params[j]? = some t → Tryd.pinned.checked.prog.wantsStandIn t = false := by
  obtain rfl : f = 4 := Option.some.inj ((show Tryd.prog.funcNamed "lorry/lorrylaw13.InstanceSame" = some 4 by kernel_rfl).symm.trans hf) |>.symm
  obtain rfl : fn = Tryd.f4 := (Option.some.inj (Tryd.func4.symm.trans hfn)).symm
  refine ⟨by kernel_rfl, fun j t ht => ?_⟩
  rw [Tryd.params4] at ht
  have hm := Array.mem_of_getElem? ht
  simp only [List.mem_toArray, List.mem_cons, List.not_mem_nil, or_false] at hm
  rcases hm with rfl | rfl
  · exact (show Tryd.prog.wantsStandIn 30 = false by kernel_rfl)
  · exact (show Tryd.prog.wantsStandIn 30 = false by kernel_rfl)

theorem proved : Rows.InstanceSameCardSaid :=
  Claim7.holds_tied_plain_at .later [] _ _ _ _ said (fun _ h => by cases h) (by kernel_rfl) (fun _ h => by cases h) instanceSame_row_tie rfl ⟨rfl, rfl⟩ (by kernel_rfl) rfl plain (by kernel_rfl)
#print axioms proved
end Go.Proofs.YtceceomaheobhaaDoor.instanceSame
