/- network: places, ticks, ways, the errors of delays. -/
import Derived.Test.YtceceomaheobhaaGreatDoorBase
import Derived.Deep.DeepCutAuto
import Derived.Deep.QuietTactic
import Derived.BigQuiet
import Derived.Outline
namespace Go.Proofs.YtceceomaheobhaaGreatDoor.net
open Go.RowKit
open Go.Proofs.YtceceomaheobhaaGreatDoor.lib Go.Proofs.YtceceomaheobhaaGreatDoor.rd Go.Proofs.YtceceomaheobhaaGreatDoor.typ Go.Proofs.YtceceomaheobhaaGreatDoor.app Go.Proofs.YtceceomaheobhaaGreatDoor.note Go.Proofs.YtceceomaheobhaaGreatDoor.mrk
open Go.Proofs.YtceceomaheobhaaGreatDoor.win (tickB tick_t tick_f)
set_option linter.unusedVariables false
set_option linter.unusedSimpArgs false

theorem ntick_any (n : Int) (w : World) : Calls Tryz.prog 123 #[.int .i64 n] w fun e w' => e = .returned (.bool (tickB n)) ∧ w = w' := by
  by_cases h : 0 ≤ n
  all_goals
    go_enter Tryz.func123, Tryz.ntmps123
    go_wp2
    go_ret
    exact ⟨ret_bool (by unfold tickB; first | (simp [h]; done) | (simp; omega)), rfl⟩
def placeB (n i : Int) : Bool := decide (0 ≤ i) && decide (i < n)
theorem place_any (n : Nat) (A0 : Option Addr) (d0 : Nat) (A1 : Option Addr) (n1 d1 : Nat) (i : Int) (w : World) :
    Calls Tryz.prog 94 #[.agg #[.slice A0 n d0, .slice A1 n1 d1], .int .i64 i] w fun e w' => e = .returned (.bool (placeB n i)) ∧ Below w.heap.size w w' := by
  by_cases h : 0 ≤ i
  all_goals
    go_enter Tryz.func94, Tryz.ntmps94
    go_wp2
    go_ret
    exact ⟨ret_bool (by unfold placeB; first | (simp [h]; done) | (simp; omega)), by repeat (first | assumption | exact Below.refl _ _ | refine Below.drew ?_ | refine Below.alloc ?_ (by first | omega | (simp <;> omega)) _ | refine Below.setCell ?_ (by first | omega | (simp <;> omega)) _)⟩
theorem wayOf_any (x : Arc) (C : Option Addr) (c : Nat) (D : Option Addr) (d : Nat) (w : World) :
    Calls Tryz.prog 64 #[.agg #[.int .i64 x.frm, .int .i64 x.to, .int .i64 x.profile, .int .i64 x.miles, .slice C x.travel.length c, .slice D x.slow.length d]] w fun e w' => e = .returned (.agg #[.int .i64 x.frm, .int .i64 x.to, .int .i64 x.profile]) ∧ Below w.heap.size w w' := by
  go_enter Tryz.func64, Tryz.ntmps64
  go_wp2
  exact bodyPost_ret (v := .agg #[.int .i64 x.frm, .int .i64 x.to, .int .i64 x.profile]) (by simp [results, Tryz.results64, go_sem]) rfl ⟨rfl, by repeat (first | assumption | exact Below.refl _ _ | refine Below.drew ?_ | refine Below.alloc ?_ (by first | omega | (simp <;> omega)) _ | refine Below.setCell ?_ (by first | omega | (simp <;> omega)) _)⟩

/-- Ways as keys. -/
abbrev wayV (k : Int × Int × Int) : Value := .agg #[.int .i64 k.1, .int .i64 k.2.1, .int .i64 k.2.2]
def wayOk (k : Int × Int × Int) : Prop := (-9223372036854775808 ≤ k.1 ∧ k.1 ≤ 9223372036854775807) ∧ (-9223372036854775808 ≤ k.2.1 ∧ k.2.1 ≤ 9223372036854775807) ∧ (-9223372036854775808 ≤ k.2.2 ∧ k.2.2 ≤ 9223372036854775807)
theorem way_laidOut : laidOutB Tryz.prog = true := by kernel_rfl
theorem way_wide : (match Tryz.prog.underlying 112 with | some (.array _ _) | some (.struct _) => true | _ => false) = true := by kernel_rfl
set_option maxRecDepth 100000 in
theorem way_law : Go.Maps.Keyed Tryz.prog 112 := Go.Maps.Keyed.of_law (deep_law_laid way_laidOut (m := 2) (by omega) (of_decide_eq_true (by kernel_rfl)) (by kernel_rfl) way_wide)
theorem way_type : Tryz.prog.keyType 112 = true := by kernel_rfl
theorem way_cells : Tryz.prog.cellsOf 112 = 3 := by kernel_rfl
theorem int_cells : Tryz.prog.cellsOf 3 = 1 := by kernel_rfl
theorem types_pos : 0 < Tryz.prog.types.size := of_decide_eq_true (by kernel_rfl)
theorem way_key (k : Int × Int × Int) (h : wayOk k) : ∃ kl, keyOf Tryz.prog 112 (wayV k) = some kl := by
  obtain ⟨⟨h1, h2⟩, ⟨h3, h4⟩, h5, h6⟩ := h
  have hf : (wayV k).formed Tryz.prog 112 = true := by simp [Value.formed, Tryz.underlying112, way_cells]
  obtain ⟨d, hd⟩ : ∃ d, Tryz.prog.types.size + 1 = d + 1 + 1 := ⟨Tryz.prog.types.size - 1, by have := types_pos; omega⟩
  have a1 : (Lit.int .i64 k.1).wf = true := WalkArith.wf_i64 (by omega)
  have a2 : (Lit.int .i64 k.2.1).wf = true := WalkArith.wf_i64 (by omega)
  have a3 : (Lit.int .i64 k.2.2).wf = true := WalkArith.wf_i64 (by omega)
  unfold keyOf
  rw [hd]
  simp [Tryz.underlying112, way_type, hf, Program.keyLits, way_cells, int_cells, Value.cells, Tryz.underlying3, a1, a2, a3]
def wayE : KeyEnc (Int × Int × Int) 112 108 where
  val := wayV
  ok := wayOk
  law := way_law
  ht := Tryz.underlying108
  key := way_key
  inj x y h := by
    obtain ⟨a, b, c⟩ := x
    obtain ⟨a', b', c'⟩ := y
    simpa [wayV] using h
def nameE : KeyEnc ByteArray 9 105 where
  val := .string
  ok s := s.size ≤ 140737488351232
  law := Go.Maps.string_keyed Tryz.underlying9
  ht := Tryz.underlying105
  key s h := ⟨_, Go.WideMaps.keyOf_string_mk Tryz.underlying9 (by unfold maxLen; omega)⟩
  inj x y h := by injection h

/-- The errors of delays. -/
def slBad (l : List Pt) (i : Nat) (p : Pt) : Bool := !tickB p.t || ((match i with
  | 0 => false
  | k + 1 => match l[k]? with
    | some q => decide (p.t ≤ q.t)
    | none => false) || !tickB p.a)
def slP (l : List Pt) (i : Nat) (p : Pt) : List Int := if slBad l i p = true then [2] else []
def slAt (l : List Pt) (i : Nat) : List Int := match l[i]? with
  | some p => slP l i p
  | none => []
def slTo (l : List Pt) : Nat → List Int
  | 0 => if 16 < l.length then [4] else []
  | j + 1 => slTo l j ++ slAt l j
theorem slP_len (l : List Pt) (i : Nat) (p : Pt) : (slP l i p).length ≤ 1 := by
  unfold slP
  split <;> simp
theorem slTo_len (l : List Pt) : ∀ j, (slTo l j).length ≤ 1 + j
  | 0 => by unfold slTo; split <;> simp
  | j + 1 => by
    have ih := slTo_len l j
    have h : (slAt l j).length ≤ 1 := by
      unfold slAt
      split
      · exact slP_len _ _ _
      · exact Nat.zero_le _
    rw [slTo, List.length_append]
    omega
theorem slTo_succ {l : List Pt} {j : Nat} {p : Pt} (h : l[j]? = some p) : slTo l (j + 1) = slTo l j ++ slP l j p := by
  rw [slTo]
  unfold slAt
  rw [h]
def EOwn (w : World) (base : Nat) (A : Option Addr) (c : Nat) (xs : List Int) : Prop := w.ownsRow base 35 1 (.slice A xs.length c) xs.length (xs.map (.int .i64))
end Go.Proofs.YtceceomaheobhaaGreatDoor.net
