/- Joined texts: FltD FltG InsA NetA NetB Trv NetC NetD Cat. -/
import Derived.Test.YthcmopgdjibojaaGreatDoorFltX
import Derived.Test.YthcmopgdjibojaaGreatDoorBase
import Derived.Deep.RegionHeld3
import Derived.Deep.DeepCutAuto
import Derived.Outline
import Derived.Deep.QuietTactic
import Derived.BigQuiet
import Derived.IntWalk
import Derived.Lib.AppendZeros
/- The errors of a type. -/
namespace Go.Proofs.YthcmopgdjibojaaGreatDoor.flt
open Go.RowKit
open Go.Proofs.YthcmopgdjibojaaGreatDoor.lib Go.Proofs.YthcmopgdjibojaaGreatDoor.rd Go.Proofs.YthcmopgdjibojaaGreatDoor.typ Go.Proofs.YthcmopgdjibojaaGreatDoor.txt
set_option linter.unusedVariables false
set_option linter.unusedSimpArgs false

/-- Block k holds a type's cells. -/
def TyBlk (w : World) (k : Nat) (t : Ty) (C : Option Addr) (c : Nat) : Prop := w.heap[k]? = some (.cells (TyCells t C c).toArray 107 (0, 0))
theorem TyBlk.cells {w : World} {k : Nat} {t : Ty} {C : Option Addr} {c : Nat} (h : TyBlk w k t C c) : w.cell? ⟨k, 0, none⟩ = some (.string t.name) ∧ w.cell? ⟨k, 1, none⟩ = some (.int .i64 t.count) ∧ w.cell? ⟨k, 2, none⟩ = some (.int .i64 t.frm) ∧ w.cell? ⟨k, 3, none⟩ = some (.int .i64 t.to) ∧ w.cell? ⟨k, 4, none⟩ = some (.slice C t.cap.length c) ∧
    w.cell? ⟨k, 5, none⟩ = some (.int .i64 t.skills) ∧ w.cell? ⟨k, 6, none⟩ = some (.int .i64 t.profile) ∧ w.cell? ⟨k, 7, none⟩ = some (.int .i64 t.opn) ∧ w.cell? ⟨k, 8, none⟩ = some (.int .i64 t.close) ∧ w.cell? ⟨k, 9, none⟩ = some (.int .i64 t.drive) ∧ w.cell? ⟨k, 10, none⟩ = some (.int .i64 t.rest) ∧ w.cell? ⟨k, 11, none⟩ = some (.int .i64 t.fixed) ∧ w.cell? ⟨k, 12, none⟩ = some (.int .i64 t.mile) ∧ w.cell? ⟨k, 13, none⟩ = some (.int .i64 t.tick) := by
  refine ⟨?_, ?_, ?_, ?_, ?_, ?_, ?_, ?_, ?_, ?_, ?_, ?_, ?_, ?_⟩ <;> simp [World.cell?, show w.heap[k]? = _ from h, TyCells]

/-- Where the walk of errors stands between two questions. -/
structure St (H : Nat) (w : World) (t : Ty) (C : Option Addr) (c : Nat) (xs : List Int) (wx : World) : Prop where
  box : BoxRow wx (H + 1) (H + 1 + 1 + 1) xs
  blk : TyBlk wx (H + 1 + 1) t C c
  bel : Below H w wx
  len : xs.length < 50
theorem St.size {H : Nat} {w : World} {t : Ty} {C : Option Addr} {c : Nat} {xs : List Int} {wx : World} (h : St H w t C c xs wx) : H + 1 + 1 + 1 ≤ wx.heap.size := by obtain ⟨_, _, _, _, _, h4, _⟩ := h.box; exact h4
theorem St.below {H : Nat} {w : World} {t : Ty} {C : Option Addr} {c : Nat} {xs : List Int} {wx wy : World} (h : St H w t C c xs wx) (hb : Below wx.heap.size wx wy) : St H w t C c xs wy := by
  have hs := h.size
  exact ⟨h.box.below hb, (hb.block _ (by omega)).trans h.blk, h.bel.trans (hb.mono (by omega)), h.len⟩
theorem St.add {H : Nat} {w : World} {t : Ty} {C : Option Addr} {c : Nat} {xs ys : List Int} {wx wy : World} {e : Ending} (h : St H w t C c xs wx) (ha : AddOut wx (H + 1) (H + 1 + 1 + 1) ys e wy) (hl : ys.length < 50) : St H w t C c ys wy := by
  obtain ⟨_, h1, h2, h3, _⟩ := ha
  exact ⟨h1, (h3 _ (by omega) (by omega)).trans h.blk, h.bel.trans (h2.mono (by omega)), hl⟩

end Go.Proofs.YthcmopgdjibojaaGreatDoor.flt

/- The violations of types: Check of the program. -/
namespace Go.Proofs.YthcmopgdjibojaaGreatDoor.flt
open Go.RowKit
open Go.Proofs.YthcmopgdjibojaaGreatDoor.lib Go.Proofs.YthcmopgdjibojaaGreatDoor.rd Go.Proofs.YthcmopgdjibojaaGreatDoor.typ Go.Proofs.YthcmopgdjibojaaGreatDoor.txt Go.Proofs.YthcmopgdjibojaaGreatDoor.app
set_option linter.unusedVariables false

theorem fault_elem : ElemOf 26 68 (.agg #[.int .i64 0, .string ⟨#[]⟩]) 2 24 := ⟨Tryz.underlying26, by kernel_rfl, rfl, by decide, by decide⟩
/-- The cells of violations. -/
def fcs (fs : List Flt) : List Value := fs.flatMap fun f => [.int .i64 f.err, .string f.at_]
theorem fcs_snoc (fs : List Flt) (f : Flt) : fcs (fs ++ [f]) = fcs fs ++ [.int .i64 f.err, .string f.at_] := by simp [fcs]
def Fown (w : World) (base : Nat) (A : Option Addr) (c : Nat) (fs : List Flt) : Prop := w.ownsRow base 68 2 (.slice A fs.length c) fs.length (fcs fs)

theorem two_new (w : World) (a b : Value) (t : TypeId) (j : Nat) (u : Value) (h : [a, b][j]? = some u) : (w.alloc (.cells #[a, b] t)).cell? ((⟨w.heap.size, 0, none⟩ : Addr).add j) = some u :=
  World.news_of_block (w := w.alloc (.cells #[a, b] t)) (B := w.heap.size) (heap_alloc_new w _) j u (by simpa using h)

def FltsOut (w : World) (fs : List Flt) (e : Ending) (w' : World) : Prop := ∃ A c, e = .returned (.slice A fs.length c) ∧ Fown w' w.heap.size A c fs ∧ Below w.heap.size w w'

end Go.Proofs.YthcmopgdjibojaaGreatDoor.flt

/- Instances: where they lie; the sets of all orders and of those that must be served. -/
namespace Go.Proofs.YthcmopgdjibojaaGreatDoor.ins
open Go.RowKit
open Go.Proofs.YthcmopgdjibojaaGreatDoor.lib Go.Proofs.YthcmopgdjibojaaGreatDoor.rd Go.Proofs.YthcmopgdjibojaaGreatDoor.typ Go.Proofs.YthcmopgdjibojaaGreatDoor.sch Go.Proofs.YthcmopgdjibojaaGreatDoor.sets
set_option linter.unusedVariables false
set_option linter.unusedSimpArgs false

/-- Where an instance's lists lie. -/
structure InP where
  a0 : Option Addr
  c0 : Nat
  a1 : Option Addr
  c1 : Nat
  a2 : Option Addr
  c2 : Nat
  a3 : Option Addr
  c3 : Nat
  a4 : Option Addr
  c4 : Nat
  a5 : Option Addr
  c5 : Nat
structure InAt (w : World) (B : Nat) (x : Ins) (P : InP) : Prop where
  places : RowAt rStr w B P.a0 x.net.places
  arcs : RowAt rArc w B P.a1 x.net.arcs
  types : RowAt rTy w B P.a2 x.types
  orders : RowAt rOrd w B P.a3 x.orders
  apart : RowAt (rPair rInt rInt) w B P.a4 x.apart
  before : RowAt (rPair rInt rInt) w B P.a5 x.before
  capT : x.types.length ≤ P.c2
  capO : x.orders.length ≤ P.c3
  capA : x.apart.length ≤ P.c4
  capB : x.before.length ≤ P.c5
theorem InAt.below {w w' : World} {B : Nat} {x : Ins} {P : InP} (h : InAt w B x P) (hb : Below B w w') : InAt w' B x P := ⟨h.1.below hb, h.2.below hb, h.3.below hb, h.4.below hb, h.5.below hb, h.6.below hb, h.7, h.8, h.9, h.10⟩
theorem InAt.more {w : World} {B B' : Nat} {x : Ins} {P : InP} (h : InAt w B x P) (hB : B ≤ B') : InAt w B' x P := ⟨h.1.more hB, h.2.more hB, h.3.more hB, h.4.more hB, h.5.more hB, h.6.more hB, h.7, h.8, h.9, h.10⟩
end Go.Proofs.YthcmopgdjibojaaGreatDoor.ins

/- network: places, ticks, ways, the errors of delays. -/
namespace Go.Proofs.YthcmopgdjibojaaGreatDoor.net
open Go.RowKit
open Go.Proofs.YthcmopgdjibojaaGreatDoor.lib Go.Proofs.YthcmopgdjibojaaGreatDoor.rd Go.Proofs.YthcmopgdjibojaaGreatDoor.typ Go.Proofs.YthcmopgdjibojaaGreatDoor.app Go.Proofs.YthcmopgdjibojaaGreatDoor.note Go.Proofs.YthcmopgdjibojaaGreatDoor.mrk
open Go.Proofs.YthcmopgdjibojaaGreatDoor.win (tickB tick_t tick_f)
set_option linter.unusedVariables false
set_option linter.unusedSimpArgs false

/-- The errors of delays. -/
def slBad (l : List Pt) (i : Nat) (p : Pt) : Bool := !tickB p.t || ((match i with
  | 0 => false
  | k + 1 => match l[k]? with
    | some q => decide (p.t ≤ q.t)
    | none => false) || !tickB p.a)
def slP (l : List Pt) (i : Nat) (p : Pt) : List Int := if slBad l i p = true then [2] else []
def slAt (l : List Pt) (i : Nat) : List Int := match l[i]? with
  | some p => slP l i p
  | none => []
def slTo (l : List Pt) : Nat → List Int
  | 0 => if 16 < l.length then [4] else []
  | j + 1 => slTo l j ++ slAt l j
theorem slP_len (l : List Pt) (i : Nat) (p : Pt) : (slP l i p).length ≤ 1 := by
  unfold slP
  split <;> simp
theorem slTo_len (l : List Pt) : ∀ j, (slTo l j).length ≤ 1 + j
  | 0 => by unfold slTo; split <;> simp
  | j + 1 => by
    have ih := slTo_len l j
    have h : (slAt l j).length ≤ 1 := by
      unfold slAt
      split
      · exact slP_len _ _ _
      · exact Nat.zero_le _
    rw [slTo, List.length_append]
    omega
end Go.Proofs.YthcmopgdjibojaaGreatDoor.net

/- network.slow: the errors of delays. -/
namespace Go.Proofs.YthcmopgdjibojaaGreatDoor.net
open Go.RowKit
open Go.Proofs.YthcmopgdjibojaaGreatDoor.lib Go.Proofs.YthcmopgdjibojaaGreatDoor.rd Go.Proofs.YthcmopgdjibojaaGreatDoor.typ Go.Proofs.YthcmopgdjibojaaGreatDoor.app Go.Proofs.YthcmopgdjibojaaGreatDoor.note Go.Proofs.YthcmopgdjibojaaGreatDoor.mrk
open Go.Proofs.YthcmopgdjibojaaGreatDoor.win (tickB tick_t tick_f)
set_option linter.unusedVariables false
set_option linter.unusedSimpArgs false

end Go.Proofs.YthcmopgdjibojaaGreatDoor.net

/- travel.Check: the violations of a travel function. -/
namespace Go.Proofs.YthcmopgdjibojaaGreatDoor.trv
open Go.RowKit
open Go.Proofs.YthcmopgdjibojaaGreatDoor.lib Go.Proofs.YthcmopgdjibojaaGreatDoor.rd Go.Proofs.YthcmopgdjibojaaGreatDoor.typ Go.Proofs.YthcmopgdjibojaaGreatDoor.app Go.Proofs.YthcmopgdjibojaaGreatDoor.flts Go.Proofs.YthcmopgdjibojaaGreatDoor.txt Go.Proofs.YthcmopgdjibojaaGreatDoor.note
set_option linter.unusedVariables false
set_option linter.unusedSimpArgs false

theorem within_any (a b c : Int) (w : World) : Calls Tryz.prog 59 #[.int .i64 a, .int .i64 b, .int .i64 c] w fun e w' => e = .returned (.bool (inB a b c)) ∧ w = w' := by
  by_cases h : b ≤ a
  all_goals
    go_enter Tryz.func59, Tryz.ntmps59
    go_wp2
    go_ret
    exact ⟨ret_bool (by unfold inB; first | (simp [h]; done) | (simp; omega)), rfl⟩
def tvBad (p : Pt) : Bool := !inB p.t 0 4096 || (decide (p.a < p.t) || decide (p.t + 4096 < p.a))
def tvFifo (l : List Pt) (i : Nat) (p : Pt) : Bool := match i with
  | 0 => false
  | k + 1 => match l[k]? with
    | some q => decide (p.t ≤ q.t) || decide (p.a < q.a)
    | none => false
def tvP (l : List Pt) (i : Nat) (p : Pt) : List Flt := (if tvBad p = true then [⟨2, decS i⟩] else []) ++ (if tvFifo l i p = true then [⟨13, decS i⟩] else [])
def szB (m : Nat) : Bool := decide (m = 0) || decide (16 < m)
def tvAt (l : List Pt) (i : Nat) : List Flt := match l[i]? with
  | some p => tvP l i p
  | none => []
/-- The violations of the points below j. -/
def tvTo (l : List Pt) : Nat → List Flt
  | 0 => if szB l.length = true then [⟨4, ⟨#[]⟩⟩] else []
  | j + 1 => tvTo l j ++ tvAt l j
theorem tvP_len (l : List Pt) (i : Nat) (p : Pt) : (tvP l i p).length ≤ 2 := by
  unfold tvP
  split <;> split <;> simp
theorem tvTo_len (l : List Pt) : ∀ j, (tvTo l j).length ≤ 1 + 2 * j
  | 0 => by unfold tvTo; split <;> simp
  | j + 1 => by
    have ih := tvTo_len l j
    have h : (tvAt l j).length ≤ 2 := by
      unfold tvAt
      split
      · exact tvP_len _ _ _
      · exact Nat.zero_le _
    rw [tvTo, List.length_append]
    omega
theorem tvTo_succ {l : List Pt} {j : Nat} {p : Pt} (h : l[j]? = some p) : tvTo l (j + 1) = tvTo l j ++ tvP l j p := by
  rw [tvTo]
  unfold tvAt
  rw [h]

set_option maxRecDepth 20000 in
set_option maxHeartbeats 2000000 in
theorem tcheck_any (A : Option Addr) (c : Nat) (l : List Pt) (w : World) (hL : RowAt rPt w w.heap.size A l) (hl : l.length ≤ 100) :
    Calls Tryz.prog 105 #[.slice A l.length c] w (FltsOut w (tvTo l l.length)) := by
  obtain ⟨m, hm⟩ : ∃ m, l.length = m := ⟨_, rfl⟩
  have HM := Lib.hid hm
  obtain ⟨F, hF⟩ : ∃ F, tvTo l = F := ⟨_, rfl⟩
  have HF := Lib.hid hF
  have hFl : ∀ j, (F j).length ≤ 1 + 2 * j := fun j => by rw [← hF]; exact tvTo_len _ j
  have HF0 : Hid (F 0 = if szB m = true then [⟨4, ⟨#[]⟩⟩] else []) := Lib.hid (by rw [← hF, ← hm]; rfl)
  rw [hm] at hl ⊢
  clear hm hF
  go_enter Tryz.func105, Tryz.ntmps105
  go_upto_region 2 with fail
  go_cut [14] (fun v wx => v = .bool (szB m) ∧ w = wx)
  case first =>
    by_cases h0 : m = 0
    · subst h0
      go_wp2
      go_meet
      exact ⟨rfl, rfl⟩
    · have e0 : ((m : Int) == 0) = false := by simp; omega
      by_cases hq : 16 < m
      · have e1 : (16 : Int) < (m : Int) := by omega
        have HE : Hid (szB m = true) := Lib.hid (by unfold szB; simp [hq])
        clear h0 hq
        go_wp2
        go_meet
        exact ⟨by rw [HE.out], rfl⟩
      · have e1 : ¬ (16 : Int) < (m : Int) := by omega
        have HE : Hid (szB m = false) := Lib.hid (by unfold szB; simp [hq, h0])
        clear h0 hq
        go_wp2
        go_meet
        exact ⟨by rw [HE.out], rfl⟩
  obtain ⟨h14, rfl⟩ := hcut
  subst h14
  go_upto_if 14 with fail
  go_cut [3] (fun v wx => ∃ A' c', v = .slice A' (F 0).length c' ∧ Fown wx w.heap.size A' c' (F 0) ∧ Below w.heap.size w wx)
  case first =>
    cases hs : szB m
    · have HE : Hid (F 0 = []) := Lib.hid (by rw [HF0.out, hs]; rfl)
      go_wp2
      go_meet
      exact ⟨none, 0, by rw [HE.out]; rfl, by rw [HE.out]; exact World.ownsRow_nil _ _ _ _, Below.refl _ _⟩
    · have HE : Hid (F 0 = [⟨4, ⟨#[]⟩⟩]) := Lib.hid (by rw [HF0.out, hs]; rfl)
      go_wp2_with (at_builtin; refine wpList_app fault_elem _ _ rfl w.heap.size none 0 0 [] rfl ((World.ownsRow_nil _ _ _ _).alloc _) ⟨w.heap.size, 0, none⟩ 1 [.int .i64 4, .string ⟨#[]⟩] rfl rfl (two_new _ _ _ _) (by simp [Value.oneCell']) (by omega) (by simp) rfl ?_; intro g1 c1 w2 hown1 hg1 hd1)
      go_meet
      exact ⟨_, _, by rw [HE.out]; rfl, by rw [HE.out]; exact hown1, ((Below.refl _ _).alloc (Nat.le_refl _) _).grown hg1 (by simp) (fun q e => by cases e)⟩
  obtain ⟨A', c', hv, hown, hB⟩ := hcut
  subst hv
  go_upto_region 5 with fail
  go_loopw [3, 21] (fun v k wr => ∃ (j : Nat) (A' : Option Addr) (c' : Nat), j ≤ m ∧ k = .int .i64 j ∧ v = .slice A' (F j).length c' ∧ Fown wr w.heap.size A' c' (F j) ∧ Below w.heap.size w wr) (fun _ k _ => m - (intOf k).toNat)
  case atStart => exact ⟨0, A', c', by omega, rfl, rfl, hown, hB⟩
  case round =>
    clear hown hB
    obtain ⟨j, A', c', hj, rfl, rfl, hown, hB⟩ := hrel
    have hz := hB.size
    by_cases hlt : j < m
    · obtain ⟨p, hp⟩ : ∃ p, l[j]? = some p := ⟨_, List.getElem?_eq_getElem (by rw [HM.out]; exact hlt)⟩
      obtain ⟨ad, rfl, hadb, ⟨m0, m1⟩, hpf⟩ := row_Pt (hL.below hB) hp
      have hk0 : (0 : Int) ≤ (j : Int) := by omega
      have hkn : (j : Int) < (m : Int) := by omega
      have hFj := hFl j
      have hjn : j < 100 := by omega
      have HP : Hid (F (j + 1) = F j ++ tvP l j p) := Lib.hid (by rw [← HF.out, tvTo_succ hp])
      go_upto_region 8 with (go_at_call 108; refine (itoa_any j hjn _).mono ?_; rintro e w3 ⟨rfl, rfl⟩)
      have k0 : (wr.alloc (.cells #[.int .i64 p.t, .int .i64 p.a] 73)).cell? ⟨wr.heap.size, 0, none⟩ = some (.int .i64 p.t) := two_new wr _ _ _ 0 _ rfl
      have k1 : (wr.alloc (.cells #[.int .i64 p.t, .int .i64 p.a] 73)).cell? ⟨wr.heap.size, 1, none⟩ = some (.int .i64 p.a) := two_new wr _ _ _ 1 _ rfl
      obtain ⟨W, hW⟩ : ∃ W, wr.alloc (.cells #[.int .i64 p.t, .int .i64 p.a] 73) = W := ⟨_, rfl⟩
      have hownR : W.ownsRow w.heap.size 68 2 (.slice A' (F j).length c') (F j).length (fcs (F j)) := by rw [← hW]; exact World.ownsRow.alloc hown _
      have zp : wr.heap.size < W.heap.size := by rw [← hW]; simp
      have BW : Below w.heap.size w W := by rw [← hW]; exact hB.alloc hz _
      have HZ := Lib.hid (show (wr.alloc (.cells #[.int .i64 p.t, .int .i64 p.a] 73)) = W from hW)
      rw [hW] at k0 k1 ⊢
      have HNE : Hid (∀ q, (Value.slice A' (F j).length c').ownBlock = some q → q < wr.heap.size) := Lib.hid fun q e => (World.ownsRow.lt hown q e).2
      clear hW m0 m1 hown
      obtain ⟨P, hP⟩ : ∃ P, wr.heap.size = P := ⟨_, rfl⟩
      rw [hP] at k0 k1 zp HNE ⊢
      clear hP HZ
      have zW : w.heap.size ≤ W.heap.size := BW.size
      obtain ⟨pt, hpt⟩ : ∃ x, p.t = x := ⟨_, rfl⟩
      obtain ⟨pa, hpa⟩ : ∃ x, p.a = x := ⟨_, rfl⟩
      have HT := Lib.hid hpt
      have HA := Lib.hid hpa
      have hpf' := hpf
      unfold PtFits at hpf'
      rw [hpt, hpa] at hpf'
      rw [hpt] at k0
      rw [hpa] at k1
      obtain ⟨⟨t1, t2⟩, t3, t4⟩ := hpf'
      clear hpt hpa hpf
      obtain ⟨q, hq⟩ : ∃ q, tvBad p = q := ⟨_, rfl⟩
      have HQ : Hid (q = (!inB pt 0 4096 || (decide (pa < pt) || decide (pt + 4096 < pa)))) := Lib.hid (by rw [← hq, ← HT.out, ← HA.out]; rfl)
      obtain ⟨fo, hfo⟩ : ∃ fo, tvFifo l j p = fo := ⟨_, rfl⟩
      have HFO := Lib.hid hfo
      have HP2 : Hid (F (j + 1) = F j ++ ((if q = true then [⟨2, decS j⟩] else []) ++ (if fo = true then [⟨13, decS j⟩] else []))) := Lib.hid (by rw [HP.out]; unfold tvP; rw [hq, hfo])
      have HLP := Lib.hid hp
      clear hq hfo HP hp
      have HOW := Lib.hid hownR
      clear hownR
      obtain ⟨G, hG⟩ : ∃ G : List Flt, F j ++ (if q = true then [⟨2, decS j⟩] else []) = G := ⟨_, rfl⟩
      have HG := Lib.hid hG
      have hGl : G.length ≤ 2 + 2 * j := by rw [← hG, List.length_append]; split <;> simp <;> omega
      have HP3 : Hid (F (j + 1) = G ++ (if fo = true then [⟨13, decS j⟩] else [])) := Lib.hid (by rw [HP2.out, ← hG, List.append_assoc])
      clear hG HP2
      go_cut [46] (fun v wx => v = .bool q ∧ W = wx)
      case first => as_aux_lemma =>
        cases hr1 : inB pt 0 4096
        case false =>
          have HE : Hid (q = true) := Lib.hid (by rw [HQ.out, hr1]; rfl)
          go_wp2_with (go_at_call 59; refine (within_any _ _ _ _).mono ?_; rintro e we ⟨rfl, rfl⟩)
          go_meet
          exact ⟨by rw [HE.out], rfl⟩
        case true =>
          obtain ⟨b1, b2⟩ := inB_bd hr1
          cases hr2 : decide (pa < pt)
          case true =>
            have HE : Hid (q = true) := Lib.hid (by rw [HQ.out, hr1, hr2]; rfl)
            go_wp2_with (go_at_call 59; refine (within_any _ _ _ _).mono ?_; rintro e we ⟨rfl, rfl⟩)
            go_meet
            exact ⟨by rw [HE.out], rfl⟩
          case false =>
            have HE : Hid (q = decide (pt + 4096 < pa)) := Lib.hid (by rw [HQ.out, hr1, hr2]; rfl)
            go_wp2_with (go_at_call 59; refine (within_any _ _ _ _).mono ?_; rintro e we ⟨rfl, rfl⟩)
            go_meet
            exact ⟨by rw [HE.out], rfl⟩
      obtain ⟨h46, hwc⟩ := hcut
      subst h46
      subst hwc
      go_upto_if 46 with fail
      go_cut [3] (fun v wx => ∃ A2 c2, v = .slice A2 G.length c2 ∧ Fown wx w.heap.size A2 c2 G ∧ wx.cell? ⟨P, 0, none⟩ = some (.int .i64 pt) ∧ wx.cell? ⟨P, 1, none⟩ = some (.int .i64 pa) ∧ Below w.heap.size w wx)
      case first => as_aux_lemma =>
        cases q
        · go_wp2
          go_meet
          have e : F j = G := by rw [← HG.out]; simp
          exact ⟨A', c', by rw [e], by unfold Fown; rw [← e]; exact HOW.out, k0, k1, BW⟩
        · go_wp2_with (at_builtin; refine wpList_app fault_elem _ _ rfl w.heap.size A' (F j).length c' (fcs (F j)) rfl (World.ownsRow.alloc HOW.out _) ⟨W.heap.size, 0, none⟩ 1 [.int .i64 2, .string (decS j)] rfl rfl (two_new W (.int .i64 2) (.string (decS j)) 68) (by simp [Value.oneCell']) (by omega) (by simp; omega) rfl ?_; intro g3 c3 w3 hown3 hg3 hd3)
          go_meet
          have e : G = F j ++ [⟨2, decS j⟩] := by rw [← HG.out]; simp
          refine ⟨some ⟨g3, 0, none⟩, c3, by rw [e]; simp, ?_, ?_, ?_, ?_⟩
          · unfold Fown
            rw [e, List.length_append, fcs_snoc]
            exact hown3
          · exact hg3.cell ((World.cell?_alloc_lt W _ _ zp).trans k0) (fun e => absurd (HNE.out _ e.symm) (Nat.lt_irrefl _))
          · exact hg3.cell ((World.cell?_alloc_lt W _ _ zp).trans k1) (fun e => absurd (HNE.out _ e.symm) (Nat.lt_irrefl _))
          · exact (BW.alloc zW _).grown hg3 (by simp; omega) (fun q' e => (World.ownsRow.lt HOW.out _ e).1)
      clear k0 k1
      obtain ⟨A2, c2, rfl, hown2, k0, k1, BC⟩ := hcut
      have zC := BC.size
      have HOC := Lib.hid hown2
      clear hown2
      go_upto_region 10 with fail
      go_cut [75] (fun v wx => v = .bool fo ∧ ∃ n, wx = wc.drewN n)
      case first =>
        rcases j with _ | k
        · have HE : Hid (fo = false) := Lib.hid (by rw [← HFO.out]; rfl)
          have hj0 : ¬ (0 : Int) < ((0 : Nat) : Int) := by omega
          go_quiet (fail)
          go_wp2
          go_meet
          exact ⟨by rw [HE.out], _, rfl⟩
        · obtain ⟨x, hx⟩ : ∃ x, l[k]? = some x := ⟨_, List.getElem?_eq_getElem (by rw [HM.out]; omega)⟩
          obtain ⟨ad2, hadeq, hadb2, ⟨n0, n1⟩, hxf⟩ := row_Pt (hL.below BC) hx
          obtain rfl : ad = ad2 := Option.some.inj hadeq
          have HE : Hid (fo = (decide (pt ≤ x.t) || decide (pa < x.a))) := Lib.hid (by rw [← HFO.out]; unfold tvFifo; simp only [hx]; rw [← HT.out, ← HA.out])
          have hj0 : (0 : Int) < ((k + 1 : Nat) : Int) := by omega
          have hj1 : IntKind.i64.wrap (((k + 1 : Nat) : Int) - 1) = (k : Int) := by rw [IntWalk.i64_in _ (by omega)]; omega
          clear hx hadeq
          cases hc1 : decide (pt ≤ x.t)
          · have HE2 : Hid (fo = decide (pa < x.a)) := Lib.hid (by rw [HE.out, hc1]; rfl)
            go_quiet (fail)
            go_wp2
            go_meet
            exact ⟨by rw [HE2.out], _, rfl⟩
          · have HE2 : Hid (fo = true) := Lib.hid (by rw [HE.out, hc1]; rfl)
            go_quiet (fail)
            go_wp2
            go_meet
            exact ⟨by rw [HE2.out], _, rfl⟩
      obtain ⟨h75, nq, hw75⟩ := hcut
      subst h75
      have ownD := own_below HOC.out (bel_drewN (Below.refl _ _) nq)
      have BD2 := bel_drewN BC nq
      rw [← hw75] at ownD BD2
      clear k0 k1 hw75
      go_upto_if 75 with fail
      have zD := BD2.size
      cases fo
      · have HE : Hid (F (j + 1) = G) := Lib.hid (by rw [HP3.out]; simp)
        go_wp2
        go_roundw
        case rel => exact ⟨j + 1, A2, c2, by omega, by go_num, by rw [HE.out], by rw [HE.out]; exact ownD, BD2⟩
        case measure => simp [intOf]; omega
      · have HE : Hid (F (j + 1) = G ++ [⟨13, decS j⟩]) := Lib.hid (by rw [HP3.out]; simp)
        have HOD := Lib.hid ownD
        clear ownD
        obtain ⟨wd, hwd⟩ : ∃ wd : World, wd = wd := ⟨w, rfl⟩
        clear hwd wd
        go_wp2_with (at_builtin; refine wpList_app fault_elem _ _ rfl w.heap.size A2 G.length c2 (fcs G) rfl (World.ownsRow.alloc HOD.out _) ⟨_, 0, none⟩ 1 [.int .i64 13, .string (decS j)] rfl rfl (two_new _ (.int .i64 13) (.string (decS j)) 68) (by simp [Value.oneCell']) (by omega) (by simp; omega) rfl ?_; intro g3 c3 w3 hown3 hg3 hd3)
        go_roundw
        case rel => exact ⟨j + 1, some ⟨g3, 0, none⟩, c3, by omega, by go_num, by rw [HE.out, List.length_append]; rfl, by unfold Fown; rw [HE.out, List.length_append, fcs_snoc]; exact hown3, (BD2.alloc zD _).grown hg3 (by simp; omega) (fun q' e => (World.ownsRow.lt HOD.out _ e).1)⟩
        case measure => simp [intOf]; omega
    · have hjm : j = m := by omega
      subst hjm
      go_wp2
      go_ret
      rw [HF.out]
      exact ⟨A', c', rfl, hown, hB⟩
end Go.Proofs.YthcmopgdjibojaaGreatDoor.trv

/- network.arc: the errors of an arc. -/
namespace Go.Proofs.YthcmopgdjibojaaGreatDoor.net
open Go.RowKit
open Go.Proofs.YthcmopgdjibojaaGreatDoor.lib Go.Proofs.YthcmopgdjibojaaGreatDoor.rd Go.Proofs.YthcmopgdjibojaaGreatDoor.typ Go.Proofs.YthcmopgdjibojaaGreatDoor.app Go.Proofs.YthcmopgdjibojaaGreatDoor.note Go.Proofs.YthcmopgdjibojaaGreatDoor.mrk Go.Proofs.YthcmopgdjibojaaGreatDoor.trv Go.Proofs.YthcmopgdjibojaaGreatDoor.flts Go.Proofs.YthcmopgdjibojaaGreatDoor.txt
set_option linter.unusedVariables false
set_option linter.unusedSimpArgs false

end Go.Proofs.YthcmopgdjibojaaGreatDoor.net

/- network.Check: the violations of a network. -/
namespace Go.Proofs.YthcmopgdjibojaaGreatDoor.net
open Go.RowKit
open Go.Proofs.YthcmopgdjibojaaGreatDoor.lib Go.Proofs.YthcmopgdjibojaaGreatDoor.rd Go.Proofs.YthcmopgdjibojaaGreatDoor.typ Go.Proofs.YthcmopgdjibojaaGreatDoor.app Go.Proofs.YthcmopgdjibojaaGreatDoor.note Go.Proofs.YthcmopgdjibojaaGreatDoor.mrk Go.Proofs.YthcmopgdjibojaaGreatDoor.trv Go.Proofs.YthcmopgdjibojaaGreatDoor.flts Go.Proofs.YthcmopgdjibojaaGreatDoor.txt Go.Proofs.YthcmopgdjibojaaGreatDoor.eqg
set_option linter.unusedVariables false
set_option linter.unusedSimpArgs false

theorem sl_le (l : List Pt) (h : l.length ≤ 1000) : (slTo l l.length).length ≤ 1001 := by have := slTo_len l l.length; omega
end Go.Proofs.YthcmopgdjibojaaGreatDoor.net

/- slices.Concat of lists of violations. -/
namespace Go.Proofs.YthcmopgdjibojaaGreatDoor.cat
open Go.RowKit
open Go.Proofs.YthcmopgdjibojaaGreatDoor.lib Go.Proofs.YthcmopgdjibojaaGreatDoor.rd Go.Proofs.YthcmopgdjibojaaGreatDoor.typ Go.Proofs.YthcmopgdjibojaaGreatDoor.app Go.Proofs.YthcmopgdjibojaaGreatDoor.flts Go.Proofs.YthcmopgdjibojaaGreatDoor.note
set_option linter.unusedVariables false
set_option linter.unusedSimpArgs false

/-- Lists of violations in memory. -/
def FRows (w : World) (B : Nat) (A : Option Addr) (fss : List (List Flt)) : Prop :=
  ∀ (i : Nat) fs, fss[i]? = some fs → ∃ ad Ai ci, A = some ad ∧ ad.block < B ∧ w.cell? (ad.add i) = some (.slice Ai fs.length ci) ∧ Reads w B 2 Ai fs.length (fcs fs)
theorem FRows.below {w w' : World} {B : Nat} {A : Option Addr} {fss : List (List Flt)} (h : FRows w B A fss) (hb : Below B w w') : FRows w' B A fss := fun i fs hi => by
  obtain ⟨ad, Ai, ci, h1, h2, h3, h4⟩ := h i fs hi
  exact ⟨ad, Ai, ci, h1, h2, (hb.cell (by rw [block_of_add]; exact h2)).trans h3, h4.below hb⟩
end Go.Proofs.YthcmopgdjibojaaGreatDoor.cat
