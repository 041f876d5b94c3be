/- Joined texts: InsA InsD InsE InsF InsH OnlA. -/
import Derived.Test.YtofabhenmplkoaaGreatDoorBase
import Derived.Deep.QuietTactic
import Derived.BigQuiet
import Derived.Test.YtofabhenmplkoaaGreatDoorOrdI
import Derived.Test.YtofabhenmplkoaaGreatDoorFltX
import Derived.Test.YtofabhenmplkoaaGreatDoorZ1
import Derived.Deep.DeepCutAuto
import Derived.Outline
set_option linter.unusedVariables false
set_option linter.unusedSimpArgs false
namespace Go.Proofs.YtofabhenmplkoaaGreatDoor.ins
open Go.RowKit
open lib rd typ sch sets
structure InP where
 a0 : Option Addr
 c0 : Nat
 a1 : Option Addr
 c1 : Nat
 a2 : Option Addr
 c2 : Nat
 a3 : Option Addr
 c3 : Nat
 a4 : Option Addr
 c4 : Nat
 a5 : Option Addr
 c5 : Nat
abbrev InV (x : Ins) (P : InP) : Value := .agg #[.slice P.a0 x.net.places.length P.c0, .slice P.a1 x.net.arcs.length P.c1, .slice P.a2 x.types.length P.c2, .slice P.a3 x.orders.length P.c3, .slice P.a4 x.apart.length P.c4, .slice P.a5 x.before.length P.c5]
structure InAt (w : World) (B : Nat) (x : Ins) (P : InP) : Prop where
 places : RowAt rStr w B P.a0 x.net.places
 arcs : RowAt rArc w B P.a1 x.net.arcs
 types : RowAt rTy w B P.a2 x.types
 orders : RowAt rOrd w B P.a3 x.orders
 apart : RowAt (rPair rInt rInt) w B P.a4 x.apart
 before : RowAt (rPair rInt rInt) w B P.a5 x.before
 capT : x.types.length ≤ P.c2
 capO : x.orders.length ≤ P.c3
 capA : x.apart.length ≤ P.c4
 capB : x.before.length ≤ P.c5
theorem InAt.below {w w' : World} {B : Nat} {x : Ins} {P : InP} (h : InAt w B x P) (hb : Below B w w') : InAt w' B x P := ⟨h.1.below hb, h.2.below hb, h.3.below hb, h.4.below hb, h.5.below hb, h.6.below hb, h.7, h.8, h.9, h.10⟩
theorem InAt.more {w : World} {B B' : Nat} {x : Ins} {P : InP} (h : InAt w B x P) (hB : B ≤ B') : InAt w B' x P := ⟨h.1.more hB, h.2.more hB, h.3.more hB, h.4.more hB, h.5.more hB, h.6.more hB, h.7, h.8, h.9, h.10⟩
theorem InAt.go {w w' : World} {x : Ins} {P : InP} (h : InAt w w.heap.size x P) (hb : Below w.heap.size w w') : InAt w' w'.heap.size x P := (h.below hb).more hb.size
open lib rd typ eqg note
def ptEq (x y : Pt) : Bool := x.t == y.t && x.a == y.a
theorem ptEq_self (x : Pt) : ptEq x x = true := by unfold ptEq; simp
theorem ptcase (x y : Pt) : (Hid (ptEq x y = false) ∧ (x.t == y.t) = false ∧ (x.t != y.t) = true) ∨ (Hid (ptEq x y = false) ∧ x.t = y.t ∧ (x.a == y.a) = false) ∨ (Hid (ptEq x y = true) ∧ x.t = y.t ∧ x.a = y.a) := by
 by_cases h1 : x.t = y.t
 ·by_cases h2 : x.a = y.a
  ·exact .inr (.inr ⟨Lib.hid (by simp [ptEq, h1, h2]), h1, h2⟩)
  ·exact .inr (.inl ⟨Lib.hid (by simp [ptEq, h2]), h1, by simp [h2]⟩)
 ·exact .inl ⟨Lib.hid (by simp [ptEq, h1]), by simp [h1], by simp [h1]⟩
theorem two_run (x y : Int × Int) (w : World) : (Op.equalIn 10000 116 (.agg #[.int .i64 x.1, .int .i64 x.2]) (.agg #[.int .i64 y.1, .int .i64 y.2])).run Tryz.prog w = .ok (twoEq x y) w := by
 obtain ⟨i0, hi, _⟩ := info_parts int_info
 have h := arr.run_eq_ints (t := 116) w 9998 Tryz.underlying116 hi [x.1, x.2] [y.1, y.2] rfl rfl
 have e : decide ([x.1, x.2] = [y.1, y.2]) = twoEq x y := by
  unfold twoEq
  rw [Bool.eq_iff_iff]
  simp
 rw [e] at h
 exact h
set_option maxHeartbeats 1000000 in
theorem rpairs_any (A : Option Addr) (c : Nat) (a : List _) (n : Nat) (hn : a.length = n) (A' : Option Addr) (c' : Nat) (b : List _) (m : Nat) (hm : b.length = m) (w : World) (B B' : Nat) (hB : B ≤ w.heap.size) (hB' : B' ≤ w.heap.size) (ha : RowAt (rPair rInt rInt) w B A a) (hb : RowAt (rPair rInt rInt) w B' A' b) :
  Calls Tryz.prog 55 #[.slice A n c, .slice A' m c'] w fun e w' => e = .returned (.bool (eqL twoEq a b)) ∧ Below w.heap.size w w' := by
 have hlen := ha.len
 rw [hn] at hlen
 by_cases h : n = m
 ·subst h
  have HN := Lib.hid hn
  have HM := Lib.hid hm
  have HG := Lib.hid (eqL_go (p := twoEq) (hn.trans hm.symm))
  clear hn hm
  go_enter Tryz.func55, Tryz.ntmps55
  go_wp2
  go_loopw [5] (fun i wr => ∃ k : Nat, k ≤ n ∧ i = .int .i64 k ∧ Hid (eqL twoEq a b = eqGo twoEq (a.drop k) (b.drop k)) ∧ Below w.heap.size w wr) (fun i _ => n - (intOf i).toNat)
  case atStart => exact ⟨0, by omega, rfl, HG, Below.refl _ _⟩
  case round =>
   obtain ⟨k, hk, rfl, hr, hbel⟩ := hrel
   by_cases hlt : k < n
   ·obtain ⟨x, hx⟩ : ∃ x, a[k]? = some x := ⟨_, List.getElem?_eq_getElem (by rw [HN.out]; exact hlt)⟩
    obtain ⟨y, hy⟩ : ∃ y, b[k]? = some y := ⟨_, List.getElem?_eq_getElem (by rw [HM.out]; exact hlt)⟩
    obtain ⟨ad, rfl, hadb, ⟨m0, m1⟩, _⟩ := row_Two (ha.below (hbel.mono hB)) hx
    obtain ⟨ad', rfl, hadb', ⟨k0, k1⟩, _⟩ := row_Two (hb.below (hbel.mono hB')) hy
    have HX := Lib.hid (eqGo_step (p := twoEq) hx hy)
    have hk0 : (0 : Int) ≤ (k : Int) := by omega
    have hkn : (k : Int) < (n : Int) := by omega
    clear hx hy
    have heq := two_run x y
    obtain ⟨q, hq⟩ : ∃ q, twoEq x y = q := ⟨_, rfl⟩
    have HP := Lib.hid hq
    rw [hq] at heq
    clear hq
    cases q
    all_goals go_wp2
    all_goals go_quiet (fail)
    all_goals go_wp2
    all_goals first
     | (go_ret; exact ⟨ret_bool (by rw [hr.out, HX.out, HP.out]; rfl), zQ hbel _⟩)
     | skip
    go_roundw
    case rel => exact ⟨k + 1, by omega, by go_num, Lib.hid (by rw [hr.out, HX.out, HP.out, Bool.true_and]), zQ hbel _⟩
    case measure => simp [intOf]; omega
   ·have hkn : k = n := by omega
    subst hkn
    clear hlt
    go_wp2
    go_ret
    exact ⟨ret_bool (by rw [hr.out, eqGo_end (by rw [HN.out]; exact Nat.le_refl _)]), hbel⟩
 ·have hd2 : ((n : Int) == (m : Int)) = false := by simp; omega
  have hd3 : ((n : Int) != (m : Int)) = true := by simp; omega
  have HD : Hid (eqL twoEq a b = false) := Lib.hid (eqL_no (by omega))
  clear h hn hm
  go_enter Tryz.func55, Tryz.ntmps55
  go_wp2
  go_ret
  exact ⟨ret_bool (by rw [HD.out]), Below.refl _ _⟩
set_option maxHeartbeats 1000000 in
theorem rpoints_any (A : Option Addr) (c : Nat) (a : List _) (n : Nat) (hn : a.length = n) (A' : Option Addr) (c' : Nat) (b : List _) (m : Nat) (hm : b.length = m) (w : World) (B B' : Nat) (hB : B ≤ w.heap.size) (hB' : B' ≤ w.heap.size) (ha : RowAt rPt w B A a) (hb : RowAt rPt w B' A' b) :
  Calls Tryz.prog 112 #[.slice A n c, .slice A' m c'] w fun e w' => e = .returned (.bool (eqL ptEq a b)) ∧ Below w.heap.size w w' := by
 have hlen := ha.len
 rw [hn] at hlen
 by_cases h : n = m
 ·subst h
  have HN := Lib.hid hn
  have HM := Lib.hid hm
  have HG := Lib.hid (eqL_go (p := ptEq) (hn.trans hm.symm))
  clear hn hm
  go_enter Tryz.func112, Tryz.ntmps112
  go_wp2
  go_loopw [5] (fun i wr => ∃ k : Nat, k ≤ n ∧ i = .int .i64 k ∧ Hid (eqL ptEq a b = eqGo ptEq (a.drop k) (b.drop k)) ∧ Below w.heap.size w wr) (fun i _ => n - (intOf i).toNat)
  case atStart => exact ⟨0, by omega, rfl, HG, Below.refl _ _⟩
  case round =>
   obtain ⟨k, hk, rfl, hr, hbel⟩ := hrel
   by_cases hlt : k < n
   ·obtain ⟨x, hx⟩ : ∃ x, a[k]? = some x := ⟨_, List.getElem?_eq_getElem (by rw [HN.out]; exact hlt)⟩
    obtain ⟨y, hy⟩ : ∃ y, b[k]? = some y := ⟨_, List.getElem?_eq_getElem (by rw [HM.out]; exact hlt)⟩
    obtain ⟨ad, rfl, hadb, ⟨m0, m1⟩, _⟩ := row_Pt (ha.below (hbel.mono hB)) hx
    obtain ⟨ad', rfl, hadb', ⟨k0, k1⟩, _⟩ := row_Pt (hb.below (hbel.mono hB')) hy
    have HX := Lib.hid (eqGo_step (p := ptEq) hx hy)
    have hk0 : (0 : Int) ≤ (k : Int) := by omega
    have hkn : (k : Int) < (n : Int) := by omega
    clear hx hy
    rcases ptcase x y with ⟨HP, e1, e2⟩ | ⟨HP, e1, e2⟩ | ⟨HP, e1, e2⟩
    all_goals go_wp2
    all_goals go_quiet (fail)
    all_goals go_wp2
    all_goals first
     | (go_ret; exact ⟨ret_bool (by rw [hr.out, HX.out, HP.out]; rfl), zQ hbel _⟩)
     | skip
    go_roundw
    case rel => exact ⟨k + 1, by omega, by go_num, Lib.hid (by rw [hr.out, HX.out, HP.out, Bool.true_and]), zQ hbel _⟩
    case measure => simp [intOf]; omega
   ·have hkn : k = n := by omega
    subst hkn
    clear hlt
    go_wp2
    go_ret
    exact ⟨ret_bool (by rw [hr.out, eqGo_end (by rw [HN.out]; exact Nat.le_refl _)]), hbel⟩
 ·have hd2 : ((n : Int) == (m : Int)) = false := by simp; omega
  have hd3 : ((n : Int) != (m : Int)) = true := by simp; omega
  have HD : Hid (eqL ptEq a b = false) := Lib.hid (eqL_no (by omega))
  clear h hn hm
  go_enter Tryz.func112, Tryz.ntmps112
  go_wp2
  go_ret
  exact ⟨ret_bool (by rw [HD.out]), Below.refl _ _⟩
open lib rd typ eqg
def sameA (a b : Arc) : Bool := (a.frm == b.frm) && ((a.to == b.to) && ((a.profile == b.profile) && ((a.miles == b.miles) && (eqL ptEq a.travel b.travel && eqL ptEq a.slow b.slow))))
theorem sameA_self (a : Arc) : sameA a a = true := by unfold sameA; rw [eqL_self ptEq_self, eqL_self ptEq_self]; simp
theorem Ints.go {w w' : World} {B : Nat} {A : Option Addr} {l : List Int} (h : Ints w B A l) (hB : B ≤ w.heap.size) (hb : Below w.heap.size w w') : Ints w' w'.heap.size A l := ((h.more hB).below hb).more hb.size
open lib rd typ eqg ord
def sameI (a b : Ins) : Bool := eqL sameS a.net.places b.net.places && (eqL sameA a.net.arcs b.net.arcs && (eqL flt.sameT a.types b.types && (eqL ord.sameO a.orders b.orders && (eqL twoEq a.apart b.apart && (eqL twoEq a.before b.before)))))
open lib rd typ app els ren ord sets
theorem ord_elem : ElemOf 27 35 (.agg #[.string ⟨#[]⟩, .slice none 0 0, .int .i64 0, .int .i64 0, .int .i64 0, .int .i64 0, .int .i64 0, .int .i64 0, .int .i64 0, .int .i64 0, .int .i64 0, .int .i64 0, .int .i64 0, .int .i64 0, .int .i64 0, .bool false]) 16 152 := ⟨Tryz.underlying27, by kernel_rfl, rfl, by decide, by decide⟩
def nilI : Ins := ⟨⟨[], []⟩, [], [], [], []⟩
def nilP : InP := ⟨none, 0, none, 0, none, 0, none, 0, none, 0, none, 0⟩
def ordEl (o : Ord) : El := ⟨[.string o.name], o.load, [.int .i64 o.pick.place, .int .i64 o.pick.opn, .int .i64 o.pick.close, .int .i64 o.pick.service, .int .i64 o.drop.place, .int .i64 o.drop.opn, .int .i64 o.drop.close, .int .i64 o.drop.service, .int .i64 o.skills, .int .i64 o.penalty, .int .i64 o.split, .int .i64 o.last, .int .i64 o.now, .bool o.off]⟩
theorem own_len_cap {w : World} {base : Nat} {e : TypeId} {size n c : Nat} {A : Option Addr} {xs : List Value} (h : w.ownsRow base e size (.slice A n c) n xs) : n ≤ c := by
 rcases h.2 with ⟨h1, h2⟩ | ⟨g, cap, cur, h1, _, _, h3, _⟩
 ·omega
 ·injection h1 with _ _ h1
  omega
def SixAt (w : World) (k : Nat) (cs : List Value) : Prop := w.heap[k]? = some (.cells cs.toArray 30 (0, 0))
def insCs (x : Ins) (P : InP) : List Value := [.slice P.a0 x.net.places.length P.c0, .slice P.a1 x.net.arcs.length P.c1, .slice P.a2 x.types.length P.c2, .slice P.a3 x.orders.length P.c3, .slice P.a4 x.apart.length P.c4, .slice P.a5 x.before.length P.c5]
def nilCs : List Value := [.slice none 0 0, .slice none 0 0, .slice none 0 0, .slice none 0 0, .slice none 0 0, .slice none 0 0]
theorem SixAt.cell {w : World} {k : Nat} {cs : List Value} (h : SixAt w k cs) {j : Nat} {u : Value} (hu : cs[j]? = some u) : w.cell? ((⟨k, 0, none⟩ : Addr).add j) = some u := World.news_of_block (w := w) (B := k) h j u (by simpa using hu)
theorem SixAt.keep {w w' : World} {k : Nat} {cs : List Value} (h : SixAt w k cs) (e : w'.heap[k]? = w.heap[k]?) : SixAt w' k cs := e.trans h
theorem SixAt.below {w w' : World} {k : Nat} {cs : List Value} (h : SixAt w k cs) (hb : Below w.heap.size w w') : SixAt w' k cs := (hb.block k (Array.getElem?_eq_some_iff.1 h).1).trans h
theorem zR (o : Ord) (C : Option Addr) (c : Nat) : ∀ u ∈ zA o C c, u.oneCell' = true := fun u hu => by
 simp only [zA, List.mem_cons, List.not_mem_nil, or_false] at hu
 rcases hu with rfl | rfl | rfl | rfl | rfl | rfl | rfl | rfl | rfl | rfl | rfl | rfl | rfl | rfl | rfl | rfl <;> rfl
theorem ord_new (w : World) (o : Ord) (C : Option Addr) (c : Nat) (j : Nat) (u : Value) (h : (zA o C c)[j]? = some u) : (w.alloc (.cells (zA o C c).toArray 35)).cell? ((⟨w.heap.size, 0, none⟩ : Addr).add j) = some u :=
 World.news_of_block (w := w.alloc (.cells (zA o C c).toArray 35)) (B := w.heap.size) (heap_alloc_new w _) j u (by simpa using h)
structure OnlSt (H : Nat) (w : World) (bx : List Value) (ns : List Int) (os : List Ord) (wr : World) (B1 : Option Addr) (d1 : Nat) (B2 : Option Addr) (d2 : Nat) (cs : List Value) : Prop where
 own1 : wr.ownsRow (H + 1 + 1) 3 1 (.slice B1 ns.length d1) ns.length (ns.map (.int .i64))
 own2 : wr.ownsRow (H + 1 + 1) 35 16 (.slice B2 os.length d2) os.length cs
 els : ElsIn ordEl wr (· < H) cs os
 box : SixAt wr H bx
 res : SixAt wr (H + 1) nilCs
 bel : Below H w wr
 sz : H + 1 + 1 ≤ wr.heap.size
section
variable {H : Nat} {w : World} {bx : List Value} {ns : List Int} {os : List Ord} {wr wx : World} {B1 : Option Addr} {d1 : Nat} {B2 : Option Addr} {d2 : Nat} {cs : List Value}
theorem OnlSt.below (h : OnlSt H w bx ns os wr B1 d1 B2 d2 cs) (hb : Below wr.heap.size wr wx) : OnlSt H w bx ns os wx B1 d1 B2 d2 cs := by
 have := h.sz
 exact ⟨own_below h.own1 hb, own_below h.own2 hb, h.els.stay (row := none) (Stays.below hb) (fun b _ _ e => by cases e) (fun b _ hp => hp), h.box.below hb, h.res.below hb, h.bel.trans (hb.mono (by omega)), Nat.le_trans h.sz hb.size⟩
end
theorem yH (W : World) (b i : Nat) (v : Value) : W.grownBy (W.setCell ⟨b, i, none⟩ v) (some b) :=
 ⟨rfl, rfl, rfl, (KeepsWalks.setCell W _ v).size, fun k _ hk => Below.heap_setCell _ _ _ k (fun e => hk (by rw [e]))⟩
theorem SixAt.set {w : World} {k : Nat} {cs : List Value} (h : SixAt w k cs) (i : Nat) (u : Value) : SixAt (w.setCell ⟨k, i, none⟩ u) k (cs.set i u) := by
 have h1 := heap_setCell_same w k i cs.toArray 30 u h
 simpa [SixAt] using h1
theorem SixAt.frozen {w : World} {k : Nat} {cs : List Value} (h : SixAt w k cs) (i : Nat) : w.frozen? ⟨k, i, none⟩ = false := by simp [World.frozen?, show w.heap[k]? = _ from h]
section
variable {H : Nat} {w : World} {bx : List Value} {ns : List Int} {os : List Ord} {wr wx : World} {B1 : Option Addr} {d1 : Nat} {B2 : Option Addr} {d2 : Nat} {cs : List Value}
theorem OnlSt.store (h : OnlSt H w bx ns os wr B1 d1 B2 d2 cs) (i : Nat) (u : Value) : OnlSt H w (bx.set i u) ns os (wr.setCell ⟨H, i, none⟩ u) B1 d1 B2 d2 cs := by
 have hs := h.sz
 have hg := yH wr H i u
 refine ⟨ownsRow_setCell_below h.own1 (by show H < _; omega) u, ownsRow_setCell_below h.own2 (by show H < _; omega) u, h.els.stay (Stays.grown hg) (fun b _ hp e => ?_) (fun b _ hp => hp), h.box.set i u, h.res.keep (Below.heap_setCell _ _ _ _ (by show H + 1 ≠ H; omega)), h.bel.setCell (p := ⟨H, i, none⟩) (Nat.le_refl _) u, Nat.le_trans hs hg.size⟩
 have h2 : b < H := hp
 injection e with e
 omega
theorem OnlSt.ints (h : OnlSt H w bx ns os wr B1 d1 B2 d2 cs) (hl : ns.length ≤ 1000) : Ints wr wr.heap.size B1 ns := Ints.of_own h.own1 (by omega)
theorem OnlSt.orders (h : OnlSt H w bx ns os wr B1 d1 B2 d2 cs) (hl : os.length ≤ 1000) (hf : ∀ o ∈ os, yL o) : RowAt rOrd wr wr.heap.size B2 os :=
 h.els.row (r := rOrd) (fun o A c => rfl) h.own2 (fun o ho A c hi => rOrd_mk hi (hf o ho)) (by omega)
end
structure OnlT (H : Nat) (w : World) (ns : List Int) (os : List Ord) (ps qs : List (Int × Int)) (wr : World) (B1 : Option Addr) (d1 : Nat) (B2 : Option Addr) (d2 : Nat) (cs : List Value) (E1 : Option Addr) (f1 : Nat) (E2 : Option Addr) (f2 : Nat) : Prop where
 own1 : wr.ownsRow (H + 1 + 1) 3 1 (.slice B1 ns.length d1) ns.length (ns.map (.int .i64))
 own2 : wr.ownsRow (H + 1 + 1) 35 16 (.slice B2 os.length d2) os.length cs
 els : ElsIn ordEl wr (· < H) cs os
 own3 : wr.ownsRow (H + 1 + 1) 116 2 (.slice E1 ps.length f1) ps.length (tcs ps)
 own4 : wr.ownsRow (H + 1 + 1) 116 2 (.slice E2 qs.length f2) qs.length (tcs qs)
 bel : Below H w wr
 sz : H + 1 + 1 ≤ wr.heap.size
section
variable {H : Nat} {w : World} {bx : List Value} {ns : List Int} {os : List Ord} {ps qs : List (Int × Int)} {wr wx : World} {B1 : Option Addr} {d1 : Nat} {B2 : Option Addr} {d2 : Nat} {cs : List Value} {E1 : Option Addr} {f1 : Nat} {E2 : Option Addr} {f2 : Nat}
theorem OnlT.set (h : OnlT H w ns os ps qs wr B1 d1 B2 d2 cs E1 f1 E2 f2) {b : Nat} (hb1 : H ≤ b) (hb2 : b < H + 1 + 1) (i : Nat) (u : Value) : OnlT H w ns os ps qs (wr.setCell ⟨b, i, none⟩ u) B1 d1 B2 d2 cs E1 f1 E2 f2 := by
 have hs := h.sz
 have hg := yH wr b i u
 refine ⟨ownsRow_setCell_below h.own1 hb2 u, ownsRow_setCell_below h.own2 hb2 u, h.els.stay (Stays.grown hg) (fun b' _ hp e => ?_) (fun b _ hp => hp), ownsRow_setCell_below h.own3 hb2 u, ownsRow_setCell_below h.own4 hb2 u, h.bel.setCell (p := ⟨b, i, none⟩) hb1 u, Nat.le_trans hs hg.size⟩
 have h2 : b' < H := hp
 injection e with e
 omega
theorem OnlT.orders (h : OnlT H w ns os ps qs wr B1 d1 B2 d2 cs E1 f1 E2 f2) (hl : os.length ≤ 1000) (hf : ∀ o ∈ os, yL o) : RowAt rOrd wr wr.heap.size B2 os :=
 h.els.row (r := rOrd) (fun o A c => rfl) h.own2 (fun o ho A c hi => rOrd_mk hi (hf o ho)) (by omega)
end
end Go.Proofs.YtofabhenmplkoaaGreatDoor.ins
