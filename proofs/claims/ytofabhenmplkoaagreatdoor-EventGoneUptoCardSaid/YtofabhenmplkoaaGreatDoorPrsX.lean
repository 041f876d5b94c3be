/- Plain: the line of an event. -/
import Derived.Test.YtofabhenmplkoaaGreatDoorGenX
import Derived.Test.YtofabhenmplkoaaGreatDoorStrX
import Derived.Test.YtofabhenmplkoaaGreatDoorBase
import Derived.Test.YtofabhenmplkoaaGreatDoorBlkS
set_option linter.unusedVariables false
set_option linter.unusedSimpArgs false
namespace Go.Proofs.YtofabhenmplkoaaGreatDoor.evt
open Go Go.RowKit
open typ txt
def stpN (s : Stp) : List Int := [s.place, s.opn, s.close, s.service]
def numsF (e : Evt) : List Int := e.at_ :: (if e.kind = 3 then [e.a, e.b, e.n] else if e.kind = 5 then [e.a, e.n] else if e.kind = 4 ∨ e.kind = 2 then [e.a] else [])
def ordN (o : Ord) : List Int := (o.load.length : Int) :: (o.load ++ (stpN o.pick ++ (stpN o.drop ++ [o.skills, o.penalty, o.split, o.last, o.now])))
def partsF (e : Evt) : List By := (wordS e.kind).data.toList :: ((numsF e).map Lib.itoa ++ (if e.kind = 1 then e.order.name.data.toList :: (ordN e.order).map Lib.itoa else []))
def prtE (e : Evt) : Int := if ¬ (1 ≤ e.kind ∧ e.kind ≤ 5) then 8 else if ¬ yP e = true then 2 else if e.kind = 1 then (if e.order.off then 9 else if ¬ nameB e.order.name = true then 5 else if 3 < e.order.load.length then 4 else 0) else 0
def prtS (e : Evt) : By := if prtE e = 0 then joinS (partsF e) else []
def Evt64 (e : Evt) : Prop := yN e ∧ ∀ x ∈ e.order.load, in64 x
theorem nums64 {e : Evt} (h : yN e) : ∀ x ∈ numsF e, in64 x := by
 obtain ⟨h0, h1, h2, h3, h4, _⟩ := h
 intro x hx
 unfold numsF at hx
 unfold in64
 rw [List.mem_cons] at hx
 rcases hx with rfl | hx
 ·exact h0
 split at hx
 ·simp at hx; rcases hx with rfl | rfl | rfl <;> assumption
 split at hx
 ·simp at hx; rcases hx with rfl | rfl <;> assumption
 split at hx
 ·simp at hx; subst hx; assumption
 ·cases hx
theorem ord64 {o : Ord} (h : yL o) (hl : ∀ x ∈ o.load, in64 x) (hn : o.load.length ≤ 1000000) : ∀ x ∈ ordN o, in64 x := by
 obtain ⟨_, ⟨p0, p1, p2, p3⟩, ⟨d0, d1, d2, d3⟩, h1, h2, h3, h4, h5⟩ := h
 intro x hx
 unfold ordN stpN at hx
 rw [List.mem_cons, List.mem_append, List.mem_append, List.mem_append] at hx
 unfold in64
 rcases hx with rfl | hx | hx | hx | hx
 ·omega
 ·exact hl x hx
 ·simp at hx; rcases hx with rfl | rfl | rfl | rfl <;> assumption
 ·simp at hx; rcases hx with rfl | rfl | rfl | rfl <;> assumption
 ·simp at hx; rcases hx with rfl | rfl | rfl | rfl | rfl <;> assumption
end Go.Proofs.YtofabhenmplkoaaGreatDoor.evt
namespace Go.Proofs.YtofabhenmplkoaaGreatDoor.evt
open Go.RowKit
open lib rd app els typ big ins ord gen
open txt (in64 By)
theorem elemI : ElemOf 31 3 (.int .i64 0) 1 8 := ⟨Tryz.underlying31, by kernel_rfl, rfl, by decide, by decide⟩
theorem int_one : ∀ (l : List Int), ∀ u ∈ l.map (Value.int .i64), u.oneCell' = true := fun l u hu => by
 obtain ⟨x, _, rfl⟩ := List.mem_map.1 hu
 rfl
def IOwn (w : World) (base : Nat) (A : Option Addr) (c : Nat) (l : List Int) : Prop := w.ownsRow base 3 1 (.slice A l.length c) l.length (l.map (.int .i64))
theorem IOwn.ints {w : World} {base c : Nat} {A : Option Addr} {l : List Int} (h : IOwn w base A c l) (hl : l.length ≤ 1000000) : Ints w w.heap.size A l := Ints.of_own h (by omega)
theorem IOwn.below {w w' : World} {base c : Nat} {A : Option Addr} {l : List Int} (h : IOwn w base A c l) (hb : Below w.heap.size w w') : IOwn w' base A c l := own_below h hb
theorem IOwn.lit {w : World} {base : Nat} (l : List Int) (hb : base ≤ w.heap.size) (hm : l.length ≤ 1000) : IOwn (w.alloc (.cells (l.map (.int .i64)).toArray 3)) base (some ⟨w.heap.size, 0, none⟩) l.length l := by
 have h := World.ownsRow_lit (base := base) (e := 3) (size := 1) w (l.map (.int .i64)).toArray l.length hb (by unfold maxLen; omega) (by simp)
 exact h
theorem app_ints {ops : Array Oper} {rest : List Oper} {o : Oper} {a : Act} {Q : Exit → Act → World → Prop} {w : World} (hgd : o.guard = none) (s x : Operand)
  (ho : o.op = .call { callee := .builtin .append, args := #[s, x], argTypes := #[31, 31] })
  (base : Nat) (A : Option Addr) (n c : Nat) (l : List Int) (hn : n = l.length) (hs : a.eval s = .slice A n c) (hown : IOwn w base A c l) (B : Nat) (C : Option Addr) (m d : Nat) (k : List Int) (hmk : m = k.length) (hx : a.eval x = .slice C m d) (hk : Ints w B C k) (hlen : n + m ≤ 1000000) (hbase : base ≤ w.heap.size)
  (h : ∀ A' c' w', IOwn w' base A' c' (l ++ k) → Below base w w' → wpList Tryz.prog ops Q rest (a.put o.dst (.slice A' (n + m) c')) w') : wpList Tryz.prog ops Q (o :: rest) a w := by
 subst hn; subst hmk
 refine zX elemI s x ho base (.slice A l.length c) l.length (l.map (.int .i64)) hs hown B C k.length d (k.map (.int .i64)) hx hk.1 (int_one k) (by omega) hbase hgd ?_
 intro A' c' w1 h1 hg
 refine h A' c' w1 ?_ ((Below.refl base w).grown hg hbase (own_base hown))
 unfold IOwn
 rw [List.length_append, List.map_append]
 exact h1
theorem stop_any (s : Stp) (w : World) : Calls Tryz.prog 124 #[.agg (zF s).toArray] w fun e w' => ∃ A, e = .returned (.slice A 4 4) ∧ Below w.heap.size w w' ∧ Ints w' w'.heap.size A (stpN s) := by
 show Calls Tryz.prog 124 #[.agg #[.int .i64 s.place, .int .i64 s.opn, .int .i64 s.close, .int .i64 s.service]] w _
 go_enter Tryz.func124, Tryz.ntmps124
 go_wp2
 go_ret
 refine ⟨_, rfl, ?_, ?_⟩
 ·exact ((Below.refl _ w).alloc (Nat.le_refl _) _).alloc (by simp) _
 ·have h := Ints.lit (w.alloc (.cells #[.int .i64 s.place, .int .i64 s.opn, .int .i64 s.close, .int .i64 s.service] 33)) (stpN s) (by unfold stpN; simp)
  simpa [stpN] using h
def IRet (w : World) (l : List Int) (en : Ending) (w' : World) : Prop := ∃ A cc n, en = .returned (.slice A n cc) ∧ n = l.length ∧ Below w.heap.size w w' ∧ IOwn w' w.heap.size A cc l
set_option maxRecDepth 20000 in
theorem numbers_any (e : Evt) (C : Option Addr) (c : Nat) (w : World) : Calls Tryz.prog 64 #[.agg (z8 e C c).toArray] w (IRet w (numsF e)) := by
 show Calls Tryz.prog 64 #[.agg #[.int .i64 e.at_, .int .i64 e.kind, .int .i64 e.a, .int .i64 e.b, .int .i64 e.n, .string e.order.name, .slice C e.order.load.length c, .int .i64 e.order.pick.place, .int .i64 e.order.pick.opn, .int .i64 e.order.pick.close, .int .i64 e.order.pick.service, .int .i64 e.order.drop.place, .int .i64 e.order.drop.opn, .int .i64 e.order.drop.close, .int .i64 e.order.drop.service, .int .i64 e.order.skills, .int .i64 e.order.penalty, .int .i64 e.order.split, .int .i64 e.order.last, .int .i64 e.order.now, .bool e.order.off]] w _
 obtain ⟨W0, hW0⟩ : ∃ W0, w.alloc (.cells (z8 e C c).toArray 37) = W0 := ⟨_, rfl⟩
 have hB0 : Below w.heap.size w W0 := by rw [← hW0]; exact (Below.refl _ _).alloc (Nat.le_refl _) _
 have z0 := hB0.size
 have b0 : Blk W0 w.heap.size 37 (z8 e C c) := by rw [← hW0]; exact Blk.new w _ _
 have HE0 := Lib.hid b0
 have hW1 : w.alloc (.cells #[.int .i64 e.at_, .int .i64 e.kind, .int .i64 e.a, .int .i64 e.b, .int .i64 e.n, .string e.order.name, .slice C e.order.load.length c, .int .i64 e.order.pick.place, .int .i64 e.order.pick.opn, .int .i64 e.order.pick.close, .int .i64 e.order.pick.service, .int .i64 e.order.drop.place, .int .i64 e.order.drop.opn, .int .i64 e.order.drop.close, .int .i64 e.order.drop.service, .int .i64 e.order.skills, .int .i64 e.order.penalty, .int .i64 e.order.split, .int .i64 e.order.last, .int .i64 e.order.now, .bool e.order.off] 37) = W0 := hW0
 have HW1 := Lib.hid hW1
 have c0 := b0.cell (j := 0) rfl
 have c1 := b0.cell (j := 1) rfl
 have c2 := b0.cell (j := 2) rfl
 have c3 := b0.cell (j := 3) rfl
 have c4 := b0.cell (j := 4) rfl
 clear hW0 hW1 b0
 have zz : w.heap.size < W0.heap.size := Lib.lt_of_cell c0
 have HL : Hid (IOwn (W0.alloc (.cells #[.int .i64 e.at_] 3)) w.heap.size (some ⟨W0.heap.size, 0, none⟩) 1 [e.at_]) := Lib.hid (IOwn.lit (w := W0) (base := w.heap.size) [e.at_] z0 (by simp))
 go_enter Tryz.func64, Tryz.ntmps64
 go_upto_region 1 with fail
 rw [HW1.out]
 clear HW1
 have HB0 := Lib.hid hB0
 clear hB0
 by_cases k3 : e.kind = 3
 ·have HN : Hid (numsF e = [e.at_] ++ [e.a, e.b, e.n]) := Lib.hid (by unfold numsF; rw [if_pos k3]; rfl)
  have HK : Hid (Ints ((W0.alloc (.cells #[.int .i64 e.at_] 3)).alloc (.cells #[.int .i64 e.a, .int .i64 e.b, .int .i64 e.n] 3)) (W0.heap.size + 1 + 1) (some ⟨W0.heap.size + 1, 0, none⟩) [e.a, e.b, e.n]) := Lib.hid (by
   have h := Ints.lit (W0.alloc (.cells #[.int .i64 e.at_] 3)) [e.a, e.b, e.n] (by simp)
   simpa using h)
  go_wp2_with (at_builtin; refine app_ints rfl _ _ rfl w.heap.size (some ⟨W0.heap.size, 0, none⟩) 1 1 [e.at_] rfl rfl (HL.out.below ((Below.refl _ _).alloc (Nat.le_refl _) _)) _ _ 3 3 [e.a, e.b, e.n] rfl rfl HK.out (by omega) (by simp; omega) ?_; intro A' c' w1 hA hb1)
  go_ret
  refine ⟨A', c', 4, rfl, by rw [HN.out]; rfl, ((HB0.out.alloc z0 _).alloc (by simp; omega) _).trans hb1, ?_⟩
  rw [HN.out]; exact hA
 by_cases k5 : e.kind = 5
 ·have HN : Hid (numsF e = [e.at_] ++ [e.a, e.n]) := Lib.hid (by unfold numsF; rw [if_neg k3, if_pos k5]; rfl)
  have HK : Hid (Ints ((W0.alloc (.cells #[.int .i64 e.at_] 3)).alloc (.cells #[.int .i64 e.a, .int .i64 e.n] 3)) (W0.heap.size + 1 + 1) (some ⟨W0.heap.size + 1, 0, none⟩) [e.a, e.n]) := Lib.hid (by
   have h := Ints.lit (W0.alloc (.cells #[.int .i64 e.at_] 3)) [e.a, e.n] (by simp)
   simpa using h)
  go_wp2_with (at_builtin; refine app_ints rfl _ _ rfl w.heap.size (some ⟨W0.heap.size, 0, none⟩) 1 1 [e.at_] rfl rfl (HL.out.below ((Below.refl _ _).alloc (Nat.le_refl _) _)) _ _ 2 2 [e.a, e.n] rfl rfl HK.out (by omega) (by simp; omega) ?_; intro A' c' w1 hA hb1)
  go_ret
  refine ⟨A', c', 3, rfl, by rw [HN.out]; rfl, ((HB0.out.alloc z0 _).alloc (by simp; omega) _).trans hb1, ?_⟩
  rw [HN.out]; exact hA
 by_cases k4 : e.kind = 4 ∨ e.kind = 2
 ·have HN : Hid (numsF e = [e.at_] ++ [e.a]) := Lib.hid (by unfold numsF; rw [if_neg k3, if_neg k5, if_pos k4]; rfl)
  have HK : Hid (Ints ((W0.alloc (.cells #[.int .i64 e.at_] 3)).alloc (.cells #[.int .i64 e.a] 3)) (W0.heap.size + 1 + 1) (some ⟨W0.heap.size + 1, 0, none⟩) [e.a]) := Lib.hid (by
   have h := Ints.lit (W0.alloc (.cells #[.int .i64 e.at_] 3)) [e.a] (by simp)
   simpa using h)
  rcases k4 with k4 | k4
  all_goals
   go_wp2_with (at_builtin; refine app_ints rfl _ _ rfl w.heap.size (some ⟨W0.heap.size, 0, none⟩) 1 1 [e.at_] rfl rfl (HL.out.below ((Below.refl _ _).alloc (Nat.le_refl _) _)) _ _ 1 1 [e.a] rfl rfl HK.out (by omega) (by simp; omega) ?_; intro A' c' w1 hA hb1)
   go_ret
   refine ⟨A', c', 2, rfl, by rw [HN.out]; rfl, ((HB0.out.alloc z0 _).alloc (by simp; omega) _).trans hb1, ?_⟩
   rw [HN.out]; exact hA
 ·have HN : Hid (numsF e = [e.at_]) := Lib.hid (by unfold numsF; rw [if_neg k3, if_neg k5, if_neg k4])
  rw [not_or] at k4
  obtain ⟨k4, k2⟩ := k4
  go_wp2
  go_ret
  refine ⟨_, 1, 1, rfl, by rw [HN.out]; rfl, HB0.out.alloc z0 _, ?_⟩
  rw [HN.out]; exact HL.out
theorem ord_stp1 {w : World} {b : Nat} {o : Ord} {C : Option Addr} {c : Nat} (h : Blk w b 35 (zA o C c)) : CellsAt w ⟨b, 2, none⟩ (zF o.pick) := fun j u hu => by
 have hj : j < 4 := (List.getElem?_eq_some_iff.1 hu).1
 have h1 := h.cells (j + 2) u (by
  rw [← hu]
  show (zA o C c)[j + 2]? = (zF o.pick)[j]?
  match j, hj with
  | 0, _ => rfl
  | 1, _ => rfl
  | 2, _ => rfl
  | 3, _ => rfl)
 rw [Addr.add_mid] at h1 ⊢
 rw [show 2 + j = 0 + (j + 2) by omega]
 exact h1
theorem ord_stp2 {w : World} {b : Nat} {o : Ord} {C : Option Addr} {c : Nat} (h : Blk w b 35 (zA o C c)) : CellsAt w ⟨b, 6, none⟩ (zF o.drop) := fun j u hu => by
 have hj : j < 4 := (List.getElem?_eq_some_iff.1 hu).1
 have h1 := h.cells (j + 6) u (by
  rw [← hu]
  show (zA o C c)[j + 6]? = (zF o.drop)[j]?
  match j, hj with
  | 0, _ => rfl
  | 1, _ => rfl
  | 2, _ => rfl
  | 3, _ => rfl)
 rw [Addr.add_mid] at h1 ⊢
 rw [show 6 + j = 0 + (j + 6) by omega]
 exact h1
set_option maxRecDepth 20000 in
set_option maxHeartbeats 1000000 in
theorem order_any (o : Ord) (C : Option Addr) (c : Nat) (w : World) (hI : Ints w w.heap.size C o.load) (hn : o.load.length ≤ 1000) : Calls Tryz.prog 67 #[.agg (zA o C c).toArray] w (IRet w (ordN o)) := by
 show Calls Tryz.prog 67 #[.agg #[.string o.name, .slice C o.load.length c, .int .i64 o.pick.place, .int .i64 o.pick.opn, .int .i64 o.pick.close, .int .i64 o.pick.service, .int .i64 o.drop.place, .int .i64 o.drop.opn, .int .i64 o.drop.close, .int .i64 o.drop.service, .int .i64 o.skills, .int .i64 o.penalty, .int .i64 o.split, .int .i64 o.last, .int .i64 o.now, .bool o.off]] w _
 obtain ⟨W0, hW0⟩ : ∃ W0, w.alloc (.cells (zA o C c).toArray 35) = W0 := ⟨_, rfl⟩
 have hB0 : Below w.heap.size w W0 := by rw [← hW0]; exact (Below.refl _ _).alloc (Nat.le_refl _) _
 have z0 := hB0.size
 have b0 : Blk W0 w.heap.size 35 (zA o C c) := by rw [← hW0]; exact Blk.new w _ _
 have hW1 : w.alloc (.cells #[.string o.name, .slice C o.load.length c, .int .i64 o.pick.place, .int .i64 o.pick.opn, .int .i64 o.pick.close, .int .i64 o.pick.service, .int .i64 o.drop.place, .int .i64 o.drop.opn, .int .i64 o.drop.close, .int .i64 o.drop.service, .int .i64 o.skills, .int .i64 o.penalty, .int .i64 o.split, .int .i64 o.last, .int .i64 o.now, .bool o.off] 35) = W0 := hW0
 have HW1 := Lib.hid hW1
 have HO := Lib.hid b0
 have c1 := b0.cell (j := 1) rfl
 have zz : w.heap.size < W0.heap.size := Lib.lt_of_cell c1
 have HB0 := Lib.hid hB0
 have hI0 := Lib.hid (hI.below hB0)
 have HI : ∀ w', Below W0.heap.size W0 w' → Ints w' w.heap.size C o.load := fun w' h => hI0.out.below (h.mono z0)
 have HL : Hid (IOwn (W0.alloc (.cells #[.int .i64 (o.load.length : Int)] 3)) W0.heap.size (some ⟨W0.heap.size, 0, none⟩) 1 [(o.load.length : Int)]) := Lib.hid (IOwn.lit (w := W0) (base := W0.heap.size) [(o.load.length : Int)] (Nat.le_refl _) (by simp))
 have HB1 : Hid (Below W0.heap.size W0 (W0.alloc (.cells #[.int .i64 (o.load.length : Int)] 3))) := Lib.hid ((Below.refl _ _).alloc (Nat.le_refl _) _)
 clear hW0 hW1 b0 hB0 hI
 have hHI := Lib.hid HI
 clear HI
 go_enter Tryz.func67, Tryz.ntmps67
 go_upto_region 1 with fail
 rw [HW1.out]
 clear HW1
 have HB1z : Hid (W0.heap.size ≤ (W0.alloc (.cells #[.int .i64 (o.load.length : Int)] 3)).heap.size) := Lib.hid HB1.out.size
 go_upto_region 2 with (at_builtin; refine app_ints rfl _ _ rfl W0.heap.size (some ⟨W0.heap.size, 0, none⟩) 1 1 [(o.load.length : Int)] rfl rfl HL.out w.heap.size C o.load.length c o.load rfl rfl (hHI.out _ HB1.out) (by omega) HB1z.out ?_; intro A1 d1 w1 hA1 hb1)
 have B1 := HB1.out.trans hb1
 have z1 := B1.size
 have HO1 := Lib.hid (HO.out.below B1)
 have HA1 := Lib.hid hA1
 have HB2 := Lib.hid B1
 clear HL HB1 HB1z hA1 hb1 B1
 go_upto_region 3 with (first
  | ((with_reducible refine zH stStp _ rfl ⟨w.heap.size, 2, none⟩ (zF o.pick) ?_ ?_ ?_ ?_ ?_); exact rfl; exact rfl; exact ord_stp1 HO1.out; exact rfl)
  | (go_at_call 124; refine (stop_any o.pick _).mono ?_; rintro e2 w2 ⟨A2, rfl, hb2, hI2⟩; have y2 := hb2.size)
  | (at_builtin; refine app_ints rfl _ _ rfl W0.heap.size A1 (1 + o.load.length) d1 ([(o.load.length : Int)] ++ o.load) (by simp; omega) rfl (HA1.out.below hb2) _ _ 4 4 (stpN o.pick) rfl rfl hI2 (by omega) (by omega) ?_; intro A3 d3 w3 hA3 hb3))
 have B3 := HB2.out.trans ((hb2.mono z1).trans hb3)
 have z3 := B3.size
 have HO3 := Lib.hid (HO.out.below B3)
 have HA3 := Lib.hid hA3
 have HB3 := Lib.hid B3
 clear HA1 HB2 HO1 hA3 hb3 B3 hb2 hI2 y2
 go_upto_region 4 with (first
  | ((with_reducible refine zH stStp _ rfl ⟨w.heap.size, 6, none⟩ (zF o.drop) ?_ ?_ ?_ ?_ ?_); exact rfl; exact rfl; exact ord_stp2 HO3.out; exact rfl)
  | (go_at_call 124; refine (stop_any o.drop _).mono ?_; rintro e4 w4 ⟨A4, rfl, hb4, hI4⟩; have y4 := hb4.size)
  | (at_builtin; refine app_ints rfl _ _ rfl W0.heap.size A3 (1 + o.load.length + 4) d3 ([(o.load.length : Int)] ++ o.load ++ stpN o.pick) (by simp [stpN]; omega) rfl (HA3.out.below hb4) _ _ 4 4 (stpN o.drop) rfl rfl hI4 (by omega) (by omega) ?_; intro A5 d5 w5 hA5 hb5))
 have B5 := HB3.out.trans ((hb4.mono z3).trans hb5)
 have z5 := B5.size
 have b5 := HO.out.below B5
 have e0 := b5.cell (j := 10) rfl
 have e1 := b5.cell (j := 11) rfl
 have e2 := b5.cell (j := 12) rfl
 have e3 := b5.cell (j := 13) rfl
 have e4 := b5.cell (j := 14) rfl
 have y5 := b5.lt
 have HA5 := Lib.hid hA5
 have HB5 := Lib.hid B5
 have hk := Ints.lit w5 [o.skills, o.penalty, o.split, o.last, o.now] (by simp)
 have HK : Hid (Ints (w5.alloc (.cells #[.int .i64 o.skills, .int .i64 o.penalty, .int .i64 o.split, .int .i64 o.last, .int .i64 o.now] 3)) (w5.heap.size + 1) (some ⟨w5.heap.size, 0, none⟩) [o.skills, o.penalty, o.split, o.last, o.now]) := Lib.hid hk
 clear HA3 HB3 HO3 hA5 hb5 B5 hb4 hI4 y4 b5 hk
 go_wp2_with (at_builtin; refine app_ints rfl _ _ rfl W0.heap.size A5 (1 + o.load.length + 4 + 4) d5 ([(o.load.length : Int)] ++ o.load ++ stpN o.pick ++ stpN o.drop) (by simp [stpN]; omega) rfl (HA5.out.below ((Below.refl _ _).alloc (Nat.le_refl _) _)) _ _ 5 5 [o.skills, o.penalty, o.split, o.last, o.now] rfl rfl HK.out (by omega) (by simp; omega) ?_; intro A7 d7 w7 hA7 hb7)
 go_ret
 have hO : [(o.load.length : Int)] ++ o.load ++ stpN o.pick ++ stpN o.drop ++ [o.skills, o.penalty, o.split, o.last, o.now] = ordN o := by unfold ordN; simp
 rw [hO] at hA7
 refine ⟨A7, d7, _, rfl, by unfold ordN; simp [stpN]; omega, HB0.out.trans ((HB5.out.trans ((Below.alloc (Below.refl _ _) z5 _).trans hb7)).mono z0), ?_⟩
 exact zY hA7 z0
end Go.Proofs.YtofabhenmplkoaaGreatDoor.evt
namespace Go.Proofs.YtofabhenmplkoaaGreatDoor.evt
open Go.RowKit
open lib rd app els typ big ins ord gen
open txt (in64 By strV strV_of joinS decW decW_any Tabs elem_str nameB name_any yA)
theorem nDig_le : ∀ (k u : Nat), u < 10 ^ (k + 1) → Lib.nDigits u ≤ k + 1
 | 0, u, h => by rw [Lib.nDigits_small (by omega)]; omega
 | k + 1, u, h => by
  by_cases hu : u < 10
  ·rw [Lib.nDigits_small hu]; omega
  ·rw [Lib.nDigits_big hu]
   have := nDig_le k (u / 10) (by rw [Nat.pow_succ] at h; omega)
   omega
theorem itoa_len {n : Int} (h : in64 n) : (Lib.itoa n).length ≤ 20 := by
 obtain ⟨h0, h1⟩ := h
 unfold Lib.itoa
 split
 ·rw [List.length_cons, Lib.decDigits_length]
  have := nDig_le 18 n.natAbs (by omega)
  omega
 ·rw [Lib.decDigits_length]
  have := nDig_le 18 n.toNat (by omega)
  omega
theorem lens_le : ∀ (L : List By), (∀ x ∈ L, x.length ≤ 20) → Lib.lens L ≤ 20 * L.length
 | [], _ => by simp [Lib.lens]
 | x :: L, h => by
  have h1 := lens_le L fun y hy => h y (List.mem_cons_of_mem _ hy)
  have h2 := h x (List.mem_cons_self ..)
  simp only [Lib.lens, List.map_cons, List.sum_cons, List.length_cons] at h1 ⊢
  omega
theorem join_le {L : List By} (h : ∀ x ∈ L, x.length ≤ 20) (hn : L.length ≤ 100) : (joinS L).length ≤ 5000 := by
 unfold joinS
 cases L with
 | nil => simp [Lib.join_nil]
 | cons x r =>
  rw [Lib.join_length]
  have := lens_le (x :: r) h
  rw [List.length_cons] at hn this
  simp only [List.length_singleton]
  omega
theorem push_str {ops : Array Oper} {rest : List Oper} {o : Oper} {a : Act} {Q : Exit → Act → World → Prop} {w : World} (hgd : o.guard = none) (s x : Operand)
  (ho : o.op = .call { callee := .builtin .append, args := #[s, x], argTypes := #[22, 22] })
  (base g n c : Nat) (xs : List Value) (hs : a.eval s = .slice (some ⟨g, 0, none⟩) n c) (hown : w.ownsRow base 9 1 (.slice (some ⟨g, 0, none⟩) n c) n xs)
  (b : ByteArray) (hx : a.eval x = .slice (some ⟨w.heap.size, 0, none⟩) 1 1) (hn : n < 1000000000) (hbase : base ≤ w.heap.size)
  (h : ∀ g' c' w', w'.ownsRow base 9 1 (.slice (some ⟨g', 0, none⟩) (n + 1) c') (n + 1) (xs ++ [.string b]) → (w.alloc (.cells #[.string b] 9)).grownBy w' (some g) → (g' = g ∨ w.heap.size < g') → Below base w w' → wpList Tryz.prog ops Q rest (a.put o.dst (.slice (some ⟨g', 0, none⟩) (n + 1) c')) w') :
  wpList Tryz.prog ops Q (o :: rest) a (w.alloc (.cells #[.string b] 9)) := by
 refine zN elem_str s x ho base (some ⟨g, 0, none⟩) n c xs hs (hown.alloc _) ⟨w.heap.size, 0, none⟩ 1 [.string b] hx rfl (cell_one_new _ _ _) ?_ (by omega) (by simp; omega) hgd ?_
 ·intro v hv
  simp at hv
  subst hv
  rfl
 intro g' c' w1 hown' hg hor
 refine h g' c' w1 hown' hg ?_ (((Below.refl base w).alloc hbase _).grown hg (by simp; omega) (own_base hown))
 rcases hor with e | e
 ·left
  have e2 : some g = some g' := e
  exact (Option.some.inj e2).symm
 ·right
  simp at e
  omega
def PRel (W0 : World) (L0 : List By) (l : List Int) (m gN cN : Nat) (pv iv : Value) (wr : World) : Prop := Below W0.heap.size W0 wr ∧ ∃ (k g c n : Nat), k ≤ m ∧ iv = .int .i64 k ∧ pv = .slice (some ⟨g, 0, none⟩) n c ∧ Hid (n = L0.length + k) ∧ g ≠ gN ∧ gN < wr.heap.size ∧
 Hid (wr.ownsRow W0.heap.size 9 1 (.slice (some ⟨g, 0, none⟩) n c) n ((L0 ++ (l.take k).map Lib.itoa).map strV)) ∧ Hid (wr.ownsRow W0.heap.size 3 1 (.slice (some ⟨gN, 0, none⟩) m cN) m (l.map (.int .i64)))
theorem take_itoa {l : List Int} {k : Nat} {x : Int} (h : l[k]? = some x) (L0 : List By) : (L0 ++ (l.take (k + 1)).map Lib.itoa).map strV = (L0 ++ (l.take k).map Lib.itoa).map strV ++ [.string (decW x)] := by
 rw [List.take_add_one, h]
 simp [strV, decW]
def PrOut (w : World) (e : Evt) (en : Ending) (w' : World) : Prop := en = .returned (.tuple #[.string ⟨(prtS e).toArray⟩, .int .i64 (prtE e)]) ∧ Below w.heap.size w w'
end Go.Proofs.YtofabhenmplkoaaGreatDoor.evt
namespace Go.Proofs.YtofabhenmplkoaaGreatDoor.evt
open Go.RowKit
open lib rd app els typ big ins ord
open gen hiding zOrd bOrd
open txt (in64 By strV strV_of joinS decW decW_any Tabs elem_str nameB name_any yA)
theorem tjoin_any (L : List By) (g n c base : Nat) (w : World) (hn : n = L.length) (hown : w.ownsRow base 9 1 (.slice (some ⟨g, 0, none⟩) n c) n (L.map strV)) (h0 : 0 < n) (hn1 : n ≤ 100000) (hlen : (joinS L).length ≤ 140737488355328) :
  Calls Tryz.prog 68 #[.slice (some ⟨g, 0, none⟩) n c] w fun e w' => e = .returned (.string ⟨(joinS L).toArray⟩) ∧ Below w.heap.size w w' := by
 obtain ⟨xs, hxs⟩ : ∃ xs : List ByteArray, xs = L.map fun l => ⟨l.toArray⟩ := ⟨_, rfl⟩
 have hxl : xs.length = n := by rw [hxs, hn]; simp
 have hxm : xs.map (·.data.toList) = L := by rw [hxs, List.map_map]; exact List.map_id L
 have hcap : xs.length ≤ c := by
  rw [hxl]
  rcases hown.2 with ⟨h, hz⟩ | ⟨g0, cap0, cur, h, _, hg, hnc, _⟩
  ·cases h
  ·injection h with e1 e2 e3
   omega
 have hbk : g < w.heap.size := by
  obtain ⟨g1, c1, hv, _, hlt⟩ := hown.form h0
  injection hv with e1 e2 e3
  have e4 : g = g1 := congrArg Addr.block (Option.some.inj e1)
  omega
 have hcells : ∀ (j : Nat) x, xs[j]? = some x → w.cell? ⟨g, 0 + j, none⟩ = some (.string x) := by
  intro j x hx
  have hj : j < n := by rw [← hxl]; exact (List.getElem?_eq_some_iff.1 hx).1
  have h := hown.cellAt j (by omega)
  rw [Nat.zero_add, h, List.getElem?_map]
  rw [hxs, List.getElem?_map] at hx
  cases hL : L[j]? with
  | none => rw [hL] at hx; cases hx
  | some l =>
   rw [hL] at hx
   have hx2 := Option.some.inj hx
   show some (strV l) = some (Value.string x)
   rw [← hx2]; rfl
 have hc := Tryz.strings_Join g 0 c xs ⟨#[32]⟩ w hcells hbk (by omega) hcap (by rw [hxm]; exact hlen)
 rw [hxl, hxm] at hc
 have hc2 : Calls Tryz.prog 102 #[.slice (some ⟨g, 0, none⟩) n c, .string ⟨#[32]⟩] w fun e w' => e = .returned (.string ⟨(joinS L).toArray⟩) ∧ Below w.heap.size w w' := hc
 clear hc hcells hbk hcap hxm hxl hown hxs hlen hn
 go_enter Tryz.func68, Tryz.ntmps68
 go_wp2_with (go_at_call 102; refine hc2.mono ?_; rintro e w1 ⟨rfl, hb1⟩)
 go_ret
 exact ⟨rfl, hb1⟩
theorem word_len (k : Int) : (wordS k).data.toList.length ≤ 20 := by
 unfold wordS
 repeat (first | split | decide)
theorem word_ne {k : Int} (h : 1 ≤ k ∧ k ≤ 5) : ¬ (wordS k).toList = [] := by
 have hk : k = 1 ∨ k = 2 ∨ k = 3 ∨ k = 4 ∨ k = 5 := by omega
 rcases hk with rfl | rfl | rfl | rfl | rfl <;> (rw [yA]; decide)
theorem numsF_len (e : Evt) : (numsF e).length ≤ 4 ∧ 0 < (numsF e).length := by
 unfold numsF
 by_cases h3 : e.kind = 3
 ·rw [if_pos h3]; exact ⟨Nat.le_refl _, by simp⟩
 rw [if_neg h3]
 by_cases h5 : e.kind = 5
 ·rw [if_pos h5]; exact ⟨by simp, by simp⟩
 rw [if_neg h5]
 by_cases h4 : e.kind = 4 ∨ e.kind = 2
 ·rw [if_pos h4]; exact ⟨by simp, by simp⟩
 ·rw [if_neg h4]; exact ⟨by simp, by simp⟩
theorem parts_len {e : Evt} (he : Evt64 e) (h : prtE e = 0) : (joinS (partsF e)).length ≤ 5000 := by
 have hn := (numsF_len e).1
 have h64 := nums64 he.1
 unfold prtE at h
 by_cases hk : ¬ (1 ≤ e.kind ∧ e.kind ≤ 5)
 ·rw [if_pos hk] at h; omega
 rw [if_neg hk] at h
 by_cases hc : ¬ yP e = true
 ·rw [if_pos hc] at h; omega
 rw [if_neg hc] at h
 by_cases h1 : e.kind = 1
 ·rw [if_pos h1] at h
  by_cases ho : e.order.off = true
  ·rw [if_pos ho] at h; omega
  rw [if_neg ho] at h
  by_cases hnm : ¬ nameB e.order.name = true
  ·rw [if_pos hnm] at h; omega
  rw [if_neg hnm] at h
  by_cases hl : 3 < e.order.load.length
  ·rw [if_pos hl] at h; omega
  have hnm2 : nameB e.order.name = true := Decidable.not_not.1 hnm
  have hsz : e.order.name.size ≤ 16 := by
   unfold nameB at hnm2
   rw [Bool.and_eq_true, Bool.and_eq_true] at hnm2
   exact (of_decide_eq_true hnm2.1.1).2
  have ho64 := ord64 he.1.2.2.2.2.2 he.2 (by omega)
  refine join_le ?_ ?_
  ·intro x hx
   unfold partsF at hx
   rw [if_pos h1, List.mem_cons, List.mem_append, List.mem_cons] at hx
   rcases hx with rfl | hx | rfl | hx
   ·exact word_len _
   ·obtain ⟨y, hy, rfl⟩ := List.mem_map.1 hx; exact itoa_len (h64 y hy)
   ·simp; omega
   ·obtain ⟨y, hy, rfl⟩ := List.mem_map.1 hx; exact itoa_len (ho64 y hy)
  ·unfold partsF ordN stpN
   rw [if_pos h1]
   simp
   omega
 ·refine join_le ?_ ?_
  ·intro x hx
   unfold partsF at hx
   rw [if_neg h1, List.append_nil, List.mem_cons] at hx
   rcases hx with rfl | hx
   ·exact word_len _
   ·obtain ⟨y, hy, rfl⟩ := List.mem_map.1 hx; exact itoa_len (h64 y hy)
  ·unfold partsF
   rw [if_neg h1]
   simp
   omega
set_option maxRecDepth 20000 in
set_option maxHeartbeats 4000000 in
theorem print_any (e : Evt) (C : Option Addr) (c : Nat) (w : World) (ht : Tabs w) (he : Evt64 e) (hI : Ints w w.heap.size C e.order.load) (hnm : e.order.name.size ≤ 140737488351232) (hld : e.order.load.length ≤ 1000) :
  Calls Tryz.prog 22 #[.agg (z8 e C c).toArray] w (PrOut w e) := by
 show Calls Tryz.prog 22 #[.agg #[.int .i64 e.at_, .int .i64 e.kind, .int .i64 e.a, .int .i64 e.b, .int .i64 e.n, .string e.order.name, .slice C e.order.load.length c, .int .i64 e.order.pick.place, .int .i64 e.order.pick.opn, .int .i64 e.order.pick.close, .int .i64 e.order.pick.service, .int .i64 e.order.drop.place, .int .i64 e.order.drop.opn, .int .i64 e.order.drop.close, .int .i64 e.order.drop.service, .int .i64 e.order.skills, .int .i64 e.order.penalty, .int .i64 e.order.split, .int .i64 e.order.last, .int .i64 e.order.now, .bool e.order.off]] w _
 obtain ⟨W0, hW0⟩ : ∃ W0, w.alloc (.cells (z8 e C c).toArray 37) = W0 := ⟨_, rfl⟩
 have hB0 : Below w.heap.size w W0 := by rw [← hW0]; exact (Below.refl _ _).alloc (Nat.le_refl _) _
 have z0 := hB0.size
 have b0 : Blk W0 w.heap.size 37 (z8 e C c) := by rw [← hW0]; exact Blk.new w _ _
 have HE0 := Lib.hid b0
 have hW1 : w.alloc (.cells #[.int .i64 e.at_, .int .i64 e.kind, .int .i64 e.a, .int .i64 e.b, .int .i64 e.n, .string e.order.name, .slice C e.order.load.length c, .int .i64 e.order.pick.place, .int .i64 e.order.pick.opn, .int .i64 e.order.pick.close, .int .i64 e.order.pick.service, .int .i64 e.order.drop.place, .int .i64 e.order.drop.opn, .int .i64 e.order.drop.close, .int .i64 e.order.drop.service, .int .i64 e.order.skills, .int .i64 e.order.penalty, .int .i64 e.order.split, .int .i64 e.order.last, .int .i64 e.order.now, .bool e.order.off] 37) = W0 := hW0
 have HW1 := Lib.hid hW1
 have c0 := b0.cell (j := 0) rfl
 have c1 := b0.cell (j := 1) rfl
 have c2 := b0.cell (j := 2) rfl
 have c3 := b0.cell (j := 3) rfl
 have c4 := b0.cell (j := 4) rfl
 clear hW0 hW1 b0
 have zz : w.heap.size < W0.heap.size := Lib.lt_of_cell c0
 have HB0 := Lib.hid hB0
 have HT0 : Hid (∀ w', Below W0.heap.size W0 w' → Tabs w') := Lib.hid (fun w' h => ht.below (hB0.trans (h.mono z0)))
 have hI0 : Hid (∀ w', Below W0.heap.size W0 w' → Ints w' w.heap.size C e.order.load) := Lib.hid (fun w' h => (hI.below hB0).below (h.mono z0))
 have HQ : Hid (∀ (w' : World) (t : By) (n : Int), prtS e = t → prtE e = n → Below W0.heap.size W0 w' → PrOut w e (.returned (.tuple #[.string ⟨t.toArray⟩, .int .i64 n])) w') := Lib.hid (fun w' t n h1 h2 h3 => ⟨by rw [h1, h2], hB0.trans (h3.mono z0)⟩)
 have H64 := Lib.hid (nums64 he.1)
 have HEF := Lib.hid he
 clear hB0 ht hI he c0 c2 c3 c4
 go_enter Tryz.func22, Tryz.ntmps22
 go_upto_region 1 with fail
 rw [HW1.out]
 clear HW1
 go_upto_region 2 with (go_at_call 62; refine (Go.Proofs.YtofabhenmplkoaaGreatDoor.evt.word_any e.kind _).mono ?_; rintro e2 w1 ⟨rfl, hb1⟩)
 have HB1 := Lib.hid hb1
 have z1 := hb1.size
 by_cases hk : 1 ≤ e.kind ∧ e.kind ≤ 5
 case neg =>
  have hS : prtE e = 8 := by unfold prtE; rw [if_pos hk]
  have hS2 : prtS e = [] := by unfold prtS; rw [hS]; rfl
  have HR := Lib.hid (HQ.out w1 [] 8 hS2 hS hb1)
  have hw0 : wordS e.kind = ⟨#[]⟩ := by unfold wordS; rw [if_neg (by omega), if_neg (by omega), if_neg (by omega), if_neg (by omega), if_neg (by omega)]
  rw [hw0]
  clear hk hS hS2 hw0 hb1
  go_wp2
  refine bodyPost_ret (v := .tuple #[.string ⟨#[]⟩, .int .i64 8]) (by simp [results, Tryz.results22, go_sem]) rfl ?_
  exact HR.out
 obtain ⟨ws, hws⟩ : ∃ s, wordS e.kind = s := ⟨_, rfl⟩
 have hwn := word_ne hk
 have HWL : Hid (ws.data.toList.length ≤ 20) := Lib.hid (by rw [← hws]; exact word_len _)
 have HK := Lib.hid hk
 rw [hws] at hwn ⊢
 have hwn2 : ws.toList.isEmpty = false := by rw [List.isEmpty_eq_false_iff]; exact hwn
 have HWS := Lib.hid hws
 have HE1 := Lib.hid (HE0.out.below hb1)
 clear hws hk hb1
 cases hc : yP e
 case false =>
  have hS : prtE e = 2 := by unfold prtE; rw [if_neg (not_not_intro HK.out), if_pos (by rw [hc]; decide)]
  have hS2 : prtS e = [] := by unfold prtS; rw [hS]; rfl
  have HR : Hid (∀ w', Below w1.heap.size w1 w' → PrOut w e (.returned (.tuple #[.string ⟨#[]⟩, .int .i64 2])) w') := Lib.hid (fun w' h => HQ.out w' [] 2 hS2 hS (HB1.out.trans (h.mono z1)))
  have HC := Lib.hid hc
  clear hS hS2 hc
  go_wp2_with (first
   | ((with_reducible refine zH stEvt _ rfl ⟨w.heap.size, 0, none⟩ (z8 e C c) ?_ ?_ ?_ ?_ ?_); exact rfl; exact rfl; exact HE1.out.cells; exact rfl)
   | (go_at_call 63; refine (clean_any e C c _).mono ?_; rintro e3 w2 ⟨rfl, hb2⟩; rw [HC.out]))
  refine bodyPost_ret (v := .tuple #[.string ⟨#[]⟩, .int .i64 2]) (by simp [results, Tryz.results22, go_sem]) rfl ?_
  exact HR.out _ hb2
 have HC := Lib.hid hc
 clear hc
 go_upto_region 6 with (first
  | ((with_reducible refine zH stEvt _ rfl ⟨w.heap.size, 0, none⟩ (z8 e C c) ?_ ?_ ?_ ?_ ?_); exact rfl; exact rfl; exact HE1.out.cells; exact rfl)
  | (go_at_call 63; refine (clean_any e C c _).mono ?_; rintro e3 w2 ⟨rfl, hb2⟩; rw [HC.out]))
 have HB2 := Lib.hid (HB1.out.trans (hb2.mono z1))
 have z2 := HB2.out.size
 have HE2 := Lib.hid (HE0.out.below HB2.out)
 clear hb2 HE1 HB1 z1 hwn hwn2
 have HR0 : Hid ((w2.alloc (.cells #[.string ws] 9)).ownsRow W0.heap.size 9 1 (.slice (some ⟨w2.heap.size, 0, none⟩) 1 1) 1 ([ws.data.toList].map strV)) := Lib.hid (by
  have h := World.ownsRow_lit (base := W0.heap.size) (e := 9) (size := 1) w2 #[.string ws] 1 z2 (by unfold maxLen; omega) rfl
  rw [List.map_cons, ← strV_of]
  exact h)
 have HBA : Hid (Below w2.heap.size w2 (w2.alloc (.cells #[.string ws] 9))) := Lib.hid ((Below.refl _ _).alloc (Nat.le_refl _) _)
 have HE3 := Lib.hid (HE2.out.below HBA.out)
 go_upto_region 8 with (first
  | ((with_reducible refine zH stEvt _ rfl ⟨w.heap.size, 0, none⟩ (z8 e C c) ?_ ?_ ?_ ?_ ?_); exact rfl; exact rfl; exact HE3.out.cells; exact rfl)
  | (go_at_call 64; refine (numbers_any e C c _).mono ?_; rintro e3 w3 ⟨AN, cN, m, rfl, hm, hb3, hN⟩))
 have hNl := numsF_len e
 obtain ⟨l, hl⟩ : ∃ l, numsF e = l := ⟨_, rfl⟩
 rw [hl] at hm hN hNl ⊢
 rw [hl] at H64
 subst hm
 obtain ⟨m, hm0⟩ : ∃ m, l.length = m := ⟨_, rfl⟩
 have hm : m = l.length := hm0.symm
 rw [hm0] at hNl ⊢
 have hmb : m ≤ 1100 := by omega
 obtain ⟨gN, hAN, hgN1, hgN2⟩ : ∃ gN, AN = some ⟨gN, 0, none⟩ ∧ w2.heap.size < gN ∧ gN < w3.heap.size := by
  have hN' := hN
  unfold IOwn at hN'
  obtain ⟨g, cap, hv, _, hlt⟩ := World.ownsRow.form hN' (by omega)
  injection hv with e1 _ _
  subst e1
  refine ⟨g, rfl, ?_, hlt⟩
  have := own_base hN' g rfl
  simp at this
  omega
 subst hAN
 have HM : Hid (m = l.length) := Lib.hid hm
 have HLL : Hid (numsF e = l) := Lib.hid hl
 have HL0 : Hid ([ws.data.toList].length ≤ 1000) := Lib.hid (by simp)
 obtain ⟨L0, hL0⟩ : ∃ L0 : List By, [ws.data.toList] = L0 := ⟨_, rfl⟩
 rw [hL0] at HL0 HR0
 have HL1 := Lib.hid hL0
 have HP0 : Hid (PRel W0 L0 l m gN cN (.slice (some ⟨w2.heap.size, 0, none⟩) 1 1) (.int .i64 0) w3) := Lib.hid (by
  refine ⟨HB2.out.trans ((HBA.out.trans (hb3.mono HBA.out.size)).mono z2), 0, w2.heap.size, 1, 1, by omega, rfl, rfl, Lib.hid (by rw [← hL0]; rfl), by omega, hgN2, Lib.hid ?_, Lib.hid ?_⟩
  ·rw [List.take_zero, List.map_nil, List.append_nil]
   exact own_below HR0.out hb3
  ·have h := hN
   unfold IOwn at h
   rw [hm]
   exact zY h (by have := HBA.out.size; omega))
 clear hm hm0 hl hL0 hN hNl HR0 HBA HE3 hb3 HE2 hgN1 hgN2 HWL
 go_loopw [5, 26] (fun pv iv wr => PRel W0 L0 l m gN cN pv iv wr) (fun _ iv _ => m - (intOf iv).toNat)
 case atStart => exact HP0.out
 case round =>
  clear HP0
  obtain ⟨hb, k, g, c1, n, hk, rfl, rfl, hn, hg, hgN, HR, HN⟩ := hrel
  have hbz := hb.size
  by_cases hlt : k < m
  case pos =>
   obtain ⟨x, hx⟩ : ∃ x, l[k]? = some x := ⟨_, List.getElem?_eq_getElem (by rw [← HM.out]; exact hlt)⟩
   have hx64 := H64.out x (List.mem_of_getElem? hx)
   have hcell : wr.cell? ⟨gN, k, none⟩ = some (.int .i64 x) := by
    have h := HN.out.cellAt k (by omega)
    rw [h, List.getElem?_map, hx]; rfl
   have HX := Lib.hid hx
   have HT := Lib.hid (HT0.out wr hb)
   clear hx
   have hnb : n ≤ 3000 + k := by rw [hn.out]; have := HL0.out; omega
   go_wp2_with (first
    | (go_at_call 65; refine (decW_any x hx64 _ HT.out).mono ?_; rintro e2 w2 ⟨rfl, hb2⟩; have y2 := hb2.size)
    | (at_builtin; refine push_str rfl _ _ rfl W0.heap.size g n c1 _ rfl (own_below HR.out hb2) (decW x) rfl (by omega) (by omega) ?_; intro g3 c3 w3 hown3 hg3 hor3 hb3))
   go_roundw
   case rel =>
    refine ⟨hb.trans ((hb2.mono hbz).trans hb3), k + 1, g3, c3, n + 1, by omega, by go_num, rfl, Lib.hid (by rw [hn.out]; omega), by rcases hor3 with h | h <;> omega, by have := hb3.size; omega, Lib.hid (by rw [take_itoa HX.out L0]; exact hown3), Lib.hid ?_⟩
    exact own_grown ((own_below HN.out hb2).alloc _) hg3 (.inr (by show some gN ≠ some g; intro e; exact hg (Option.some.inj e).symm))
   case measure => simp [intOf]; omega
  case neg =>
   have hkm : k = m := by omega
   subst hkm
   have HB4 := Lib.hid hb
   have HE4 := Lib.hid (HE0.out.below hb)
   have e1 := HE4.out.cell (j := 1) rfl
   have y4 := HE4.out.lt
   have HR4 : Hid (wr.ownsRow W0.heap.size 9 1 (.slice (some ⟨g, 0, none⟩) n c1) n ((L0 ++ l.map Lib.itoa).map strV)) := Lib.hid (by
    have h := HR.out
    rw [HM.out, List.take_length] at h
    exact h)
   have HT4 := Lib.hid (HT0.out wr hb)
   have HI4 := Lib.hid (hI0.out wr hb)
   have HN4 : Hid (n = (L0 ++ l.map Lib.itoa).length) := Lib.hid (by rw [hn.out, HM.out]; simp)
   have hn9 : n ≤ 2200 := by rw [hn.out]; have := HL0.out; omega
   clear hb hk hn hg hgN HR HN hlt hmb
   by_cases hk1 : e.kind = 1
   case neg =>
    have hS : prtE e = 0 := by unfold prtE; rw [if_neg (not_not_intro HK.out), if_neg (not_not_intro HC.out), if_neg hk1]
    have hS2 : prtS e = joinS (L0 ++ l.map Lib.itoa) := by
     unfold prtS partsF
     rw [if_pos hS, if_neg hk1, List.append_nil, HLL.out, HWS.out, ← HL1.out]
     rfl
    have hJ : (joinS (L0 ++ l.map Lib.itoa)).length ≤ 140737488355328 := by
     have hp := parts_len HEF.out hS
     rw [← hS2]; unfold prtS; rw [if_pos hS]; omega
    have hn0 : 0 < n := by rw [HN4.out, ← HL1.out]; simp
    have HR5 : Hid (∀ w', Below wr.heap.size wr w' → PrOut w e (.returned (.tuple #[.string ⟨(joinS (L0 ++ l.map Lib.itoa)).toArray⟩, .int .i64 0])) w') := Lib.hid (fun w' h => HQ.out w' _ 0 hS2 hS (HB4.out.trans (h.mono hbz)))
    clear hS hS2
    go_wp2_with (go_at_call 68; refine (tjoin_any _ g n c1 W0.heap.size _ HN4.out HR4.out hn0 (by omega) hJ).mono ?_; rintro e5 w5 ⟨rfl, hb5⟩)
    refine bodyPost_ret (v := .tuple #[.string ⟨(joinS (L0 ++ l.map Lib.itoa)).toArray⟩, .int .i64 0]) (by simp [results, Tryz.results22, go_sem]) rfl ?_
    exact HR5.out _ hb5
   have HKK := Lib.hid hk1
   have hord := Lib.hid (ord_evt HE4.out)
   go_upto_region 14 with (first
    | ((with_reducible refine zH stOrd' _ rfl ⟨w.heap.size, 5, none⟩ (zA e.order C c) ?_ ?_ ?_ ?_ ?_); exact rfl; exact rfl; exact hord.out; exact rfl)
    | ((with_reducible refine zJ stOrd' rfl _ _ rfl wr.heap.size zOrd (zA e.order C c) ?_ ?_ ?_ ?_ ?_ (zR _ _ _) ?_); exact rfl; exact rfl; exact World.alloc_heap_new wr _; exact rfl; exact rfl; intro wq k1 k2 k3 k4; have K := lib.h4 k1 k2 k3 k4; clear k1 k2 k3 k4))
   have b6 : Below wr.heap.size wr wq := ((Below.refl _ _).alloc (Nat.le_refl _) _).trans K.out.2.2.2
   have z6 := b6.size
   have o6 : Blk wq wr.heap.size 35 (zA e.order C c) := K.out.1
   have f0 := o6.cell (j := 0) rfl
   have f1 := o6.cell (j := 1) rfl
   have f15 := o6.cell (j := 15) rfl
   have HE6 := Lib.hid (HE4.out.below b6)
   have HB6 := Lib.hid (HB4.out.trans (b6.mono hbz))
   have HR6 := Lib.hid (own_below HR4.out b6)
   have f5 := HE6.out.cell (j := 5) rfl
   have y6 := HE6.out.lt
   clear b6 o6 e1 HE4 HR4 hord HT4 HI4 K
   have hP : prtE e = if e.order.off = true then 9 else if ¬ nameB e.order.name = true then 5 else if 3 < e.order.load.length then 4 else 0 := by
    unfold prtE; rw [if_neg (not_not_intro HK.out), if_neg (not_not_intro HC.out), if_pos hk1]
   have HP := Lib.hid hP
   clear hP hk1
   have hZ : ∀ n : Int, n ≠ 0 → prtE e = n → Hid (PrOut w e (.returned (.tuple #[.string ⟨#[]⟩, .int .i64 n])) wq) := fun n h0 h => Lib.hid (HQ.out wq [] n (by unfold prtS; rw [h, if_neg h0]) h HB6.out)
   cases hoff : e.order.off
   case true =>
    have HR7 := hZ 9 (by decide) (by rw [HP.out, if_pos hoff])
    clear hZ
    go_wp2
    refine bodyPost_ret (v := .tuple #[.string ⟨#[]⟩, .int .i64 9]) (by simp [results, Tryz.results22, go_sem]) rfl ?_
    exact HR7.out
   have HO := Lib.hid hoff
   cases hnb : nameB e.order.name
   case false =>
    have HR7 := hZ 5 (by decide) (by rw [HP.out, if_neg (by rw [hoff]; decide), if_pos (by rw [hnb]; decide)])
    have HN := Lib.hid hnb
    clear hZ hnb
    go_wp2_with (go_at_call 66; refine (name_any e.order.name hnm _).mono ?_; rintro e5 w5 ⟨rfl, rfl⟩; rw [HN.out])
    refine bodyPost_ret (v := .tuple #[.string ⟨#[]⟩, .int .i64 5]) (by simp [results, Tryz.results22, go_sem]) rfl ?_
    exact HR7.out
   have HN := Lib.hid hnb
   clear hnb
   by_cases hl3 : 3 < e.order.load.length
   case pos =>
    have HR7 := hZ 4 (by decide) (by rw [HP.out, if_neg (by rw [hoff]; decide), if_neg (by rw [HN.out]; decide), if_pos hl3])
    have hl4 : (3 : Int) < (e.order.load.length : Int) := by omega
    clear hZ
    go_wp2_with (go_at_call 66; refine (name_any e.order.name hnm _).mono ?_; rintro e5 w5 ⟨rfl, rfl⟩; rw [HN.out])
    refine bodyPost_ret (v := .tuple #[.string ⟨#[]⟩, .int .i64 4]) (by simp [results, Tryz.results22, go_sem]) rfl ?_
    exact HR7.out
   have hS : prtE e = 0 := by rw [HP.out, if_neg (by rw [hoff]; decide), if_neg (by rw [HN.out]; decide), if_neg hl3]
   have HS := Lib.hid hS
   have hl4 : ¬ (3 : Int) < (e.order.load.length : Int) := by omega
   clear hZ hS HP
   go_upto_region 21 with (first
    | (go_at_call 66; refine (name_any e.order.name hnm _).mono ?_; rintro e5 w5 ⟨rfl, rfl⟩; rw [HN.out])
    | (at_builtin; refine push_str rfl _ _ rfl W0.heap.size g n c1 _ rfl HR6.out e.order.name rfl (by omega) (by omega) ?_; intro g7 c7 w7 hown7 hg7 hor7 hb7))
   have HB7 := Lib.hid (HB6.out.trans hb7)
   have z7 := HB7.out.size
   have HE7 := Lib.hid (HE0.out.below HB7.out)
   have hI7 := (hI0.out w7 HB7.out).more (show w.heap.size ≤ w7.heap.size by omega)
   have hord7 := Lib.hid (ord_evt HE7.out)
   obtain ⟨y7, hg7b⟩ : 0 < n + 1 ∧ g7 < w7.heap.size := ⟨by omega, by
    obtain ⟨g8, c8, hv, _, hlt⟩ := World.ownsRow.form hown7 (by omega)
    injection hv with q1 q2 q3
    have q4 : g7 = g8 := congrArg Addr.block (Option.some.inj q1)
    omega⟩
   have HO7 : Hid (w7.ownsRow W0.heap.size 9 1 (.slice (some ⟨g7, 0, none⟩) (n + 1) c7) (n + 1) ((L0 ++ l.map Lib.itoa ++ [e.order.name.data.toList]).map strV)) := Lib.hid (by
    rw [List.map_append (l₁ := L0 ++ l.map Lib.itoa)]
    rw [List.map_cons, List.map_nil, ← strV_of]
    exact hown7)
   clear hown7 hg7 hor7 hb7 f0 f1 f15 f5 HE6 y6 hoff
   go_upto_region 22 with (first
    | ((with_reducible refine zH stOrd' _ rfl ⟨w.heap.size, 5, none⟩ (zA e.order C c) ?_ ?_ ?_ ?_ ?_); exact rfl; exact rfl; exact hord7.out; exact rfl)
    | (go_at_call 67; refine (order_any e.order C c _ hI7 hld).mono ?_; rintro e8 w8 ⟨AM, cM, m2, rfl, hm2, hb8, hN8⟩))
   have hNl2 : (ordN e.order).length ≤ 1100 ∧ 0 < (ordN e.order).length := by
    unfold ordN stpN
    simp
    omega
   have H642 := Lib.hid (ord64 (o := e.order) HEF.out.1.2.2.2.2.2 HEF.out.2 (by omega))
   obtain ⟨l2, hl2⟩ : ∃ l2, ordN e.order = l2 := ⟨_, rfl⟩
   rw [hl2] at hm2 hN8 hNl2 H642 ⊢
   subst hm2
   obtain ⟨gM, hAM, hgM1, hgM2⟩ : ∃ gM, AM = some ⟨gM, 0, none⟩ ∧ w7.heap.size ≤ gM ∧ gM < w8.heap.size := by
    have hN' := hN8
    unfold IOwn at hN'
    obtain ⟨g, cap, hv, _, hlt⟩ := World.ownsRow.form hN' (by omega)
    injection hv with q1 _ _
    subst q1
    exact ⟨g, rfl, own_base hN' g rfl, hlt⟩
   subst hAM
   obtain ⟨m3, hm30⟩ : ∃ m, l2.length = m := ⟨_, rfl⟩
   have HM3 : Hid (m3 = l2.length) := Lib.hid hm30.symm
   obtain ⟨L3, hL3⟩ : ∃ L3 : List By, L0 ++ l.map Lib.itoa ++ [e.order.name.data.toList] = L3 := ⟨_, rfl⟩
   have hL3n : n + 1 = L3.length := by rw [← hL3, List.length_append, ← HN4.out]; rfl
   have HL30 : Hid (L3.length ≤ 2300) := Lib.hid (by omega)
   have HL31 := Lib.hid hL3
   have HLL3 := Lib.hid hl2
   have HP3 : Hid (PRel W0 L3 l2 m3 gM cM (.slice (some ⟨g7, 0, none⟩) (n + 1) c7) (.int .i64 0) w8) := Lib.hid (by
    refine ⟨HB7.out.trans (hb8.mono z7), 0, g7, c7, n + 1, by omega, rfl, rfl, Lib.hid hL3n, by omega, hgM2, Lib.hid ?_, Lib.hid ?_⟩
    ·rw [List.take_zero, List.map_nil, List.append_nil, ← hL3]
     exact own_below HO7.out hb8
    ·have h := hN8
     unfold IOwn at h
     rw [← hm30]
     exact zY h (by omega))
   rw [hm30] at hNl2 ⊢
   have HE9 := HEF
   clear hL3 hm30 hl2 hN8 hb8 HO7 hord7 hI7 HE7 HR6 HB6 HEF H64 HM HL0 hL3n hgM1 hgM2 hg7b HB7 HB4 y7 z7
   go_loopw [5, 64] (fun pv iv wr => PRel W0 L3 l2 m3 gM cM pv iv wr) (fun _ iv _ => m3 - (intOf iv).toNat)
   case atStart => exact HP3.out
   case round =>
    clear HP3
    obtain ⟨hb, k, g, c1, n, hk, rfl, rfl, hn, hg, hgM, HR, HN⟩ := hrel
    have hbz := hb.size
    by_cases hlt : k < m3
    case pos =>
     obtain ⟨x, hx⟩ : ∃ x, l2[k]? = some x := ⟨_, List.getElem?_eq_getElem (by rw [← HM3.out]; exact hlt)⟩
     have hx64 := H642.out x (List.mem_of_getElem? hx)
     have hcell : wr.cell? ⟨gM, k, none⟩ = some (.int .i64 x) := by
      have h := HN.out.cellAt k (by omega)
      rw [h, List.getElem?_map, hx]; rfl
     have HX := Lib.hid hx
     have HT := Lib.hid (HT0.out wr hb)
     clear hx
     have hnb : n ≤ 3000 + k := by rw [hn.out]; have := HL30.out; omega
     go_wp2_with (first
      | (go_at_call 65; refine (decW_any x hx64 _ HT.out).mono ?_; rintro e2 w2 ⟨rfl, hb2⟩; have y2 := hb2.size)
      | (at_builtin; refine push_str rfl _ _ rfl W0.heap.size g n c1 _ rfl (own_below HR.out hb2) (decW x) rfl (by omega) (by omega) ?_; intro g3 c3 w3 hown3 hg3 hor3 hb3))
     go_roundw
     case rel =>
      refine ⟨hb.trans ((hb2.mono hbz).trans hb3), k + 1, g3, c3, n + 1, by omega, by go_num, rfl, Lib.hid (by rw [hn.out]; omega), by rcases hor3 with h | h <;> omega, by have := hb3.size; omega, Lib.hid (by rw [take_itoa HX.out L3]; exact hown3), Lib.hid ?_⟩
      exact own_grown ((own_below HN.out hb2).alloc _) hg3 (.inr (by show some gM ≠ some g; intro e; exact hg (Option.some.inj e).symm))
     case measure => simp [intOf]; omega
    case neg =>
     have hkm : k = m3 := by omega
     subst hkm
     have HR9 : Hid (wr.ownsRow W0.heap.size 9 1 (.slice (some ⟨g, 0, none⟩) n c1) n ((L3 ++ l2.map Lib.itoa).map strV)) := Lib.hid (by
      have h := HR.out
      rw [HM3.out, List.take_length] at h
      exact h)
     have HN9 : Hid (n = (L3 ++ l2.map Lib.itoa).length) := Lib.hid (by rw [hn.out, HM3.out]; simp)
     have hnb : n ≤ 4000 := by rw [hn.out]; have := HL30.out; omega
     have hS2 : prtS e = joinS (L3 ++ l2.map Lib.itoa) := by
      unfold prtS partsF
      rw [if_pos HS.out, if_pos HKK.out, HLL.out, HWS.out, HLL3.out, ← HL31.out, ← HL1.out]
      simp
     have hJ : (joinS (L3 ++ l2.map Lib.itoa)).length ≤ 140737488355328 := by
      have hp := parts_len HE9.out HS.out
      rw [← hS2]; unfold prtS; rw [if_pos HS.out]; omega
     have hn0 : 0 < n := by rw [hn.out, ← HL31.out, List.length_append, List.length_singleton]; omega
     have HR5 : Hid (∀ w', Below wr.heap.size wr w' → PrOut w e (.returned (.tuple #[.string ⟨(joinS (L3 ++ l2.map Lib.itoa)).toArray⟩, .int .i64 0])) w') := Lib.hid (fun w' h => HQ.out w' _ 0 hS2 HS.out (hb.trans (h.mono hbz)))
     clear hS2 hb hk hn hg hgM HR HN hlt hNl2
     go_wp2_with (go_at_call 68; refine (tjoin_any _ g n c1 W0.heap.size _ HN9.out HR9.out hn0 (by omega) hJ).mono ?_; rintro e5 w5 ⟨rfl, hb5⟩)
     refine bodyPost_ret (v := .tuple #[.string ⟨(joinS (L3 ++ l2.map Lib.itoa)).toArray⟩, .int .i64 0]) (by simp [results, Tryz.results22, go_sem]) rfl ?_
     exact HR5.out _ hb5
end Go.Proofs.YtofabhenmplkoaaGreatDoor.evt
namespace Go.Proofs.YtofabhenmplkoaaGreatDoor.evt
open Go Go.RowKit
open typ txt
def readF : List By → Option (List Int)
 | [] => some []
 | x :: r => if (numL x).2 = 0 then (match readF r with | none => none | some l => some ((numL x).1 :: l)) else none
theorem numL_in (l : By) : in64 (numL l).1 ∧ 0 ≤ (numL l).2 ∧ (numL l).2 ≤ 4 := by
 unfold numL in64
 simp only []
 split
 ·exact ⟨by decide, by decide, by decide⟩
 split
 ·exact ⟨by decide, by decide, by decide⟩
 split
 ·split
  ·exact ⟨⟨by dsimp only; omega, by dsimp only; omega⟩, Int.le_refl 0, (by decide : (0 : Int) ≤ 4)⟩
  ·exact ⟨by decide, by decide, by decide⟩
 ·split
  ·exact ⟨⟨by dsimp only; omega, by dsimp only; omega⟩, Int.le_refl 0, (by decide : (0 : Int) ≤ 4)⟩
  ·exact ⟨by decide, by decide, by decide⟩
theorem readF_len : ∀ {L : List By} {l : List Int}, readF L = some l → l.length = L.length ∧ ∀ x ∈ l, in64 x
 | [], l, h => by
  obtain rfl := Option.some.inj h
  exact ⟨rfl, fun x hx => by cases hx⟩
 | x :: r, l, h => by
  unfold readF at h
  split at h
  ·split at h
   ·cases h
   ·rename_i l' hl'
    obtain rfl := Option.some.inj h
    obtain ⟨h1, h2⟩ := readF_len hl'
    refine ⟨by rw [List.length_cons, List.length_cons, h1], fun y hy => ?_⟩
    rcases List.mem_cons.1 hy with rfl | hy
    ·exact (numL_in x).1
    ·exact h2 y hy
  ·cases h
theorem readF_dec : ∀ {l : List Int}, (∀ x ∈ l, in64 x) → readF (l.map Lib.itoa) = some l
 | [], _ => rfl
 | x :: r, h => by
  have h1 := num_dec (h x (List.mem_cons_self ..))
  have h2 := readF_dec fun y hy => h y (List.mem_cons_of_mem _ hy)
  rw [List.map_cons]
  unfold readF
  rw [h1, h2]
  rfl
def kindF (x : By) : Int := if x = (wordS 5).data.toList then 5 else if x = (wordS 4).data.toList then 4 else if x = (wordS 3).data.toList then 3 else if x = (wordS 2).data.toList then 2 else if x = (wordS 1).data.toList then 1 else 0
def cntF (k : Int) : Nat := if k = 3 then 4 else if k = 5 then 3 else if k = 4 ∨ k = 2 then 2 else 1
theorem cntF_eq (e : Evt) : (numsF e).length = cntF e.kind := by
 unfold numsF cntF
 rw [List.length_cons]
 by_cases h3 : e.kind = 3
 ·rw [if_pos h3, if_pos h3]; rfl
 rw [if_neg h3, if_neg h3]
 by_cases h5 : e.kind = 5
 ·rw [if_pos h5, if_pos h5]; rfl
 rw [if_neg h5, if_neg h5]
 by_cases h4 : e.kind = 4 ∨ e.kind = 2
 ·rw [if_pos h4, if_pos h4]; rfl
 ·rw [if_neg h4, if_neg h4]; rfl
def stpO : Stp := ⟨0, 0, 0, 0⟩
def ordO : Ord := ⟨⟨#[]⟩, [], stpO, stpO, 0, 0, 0, 0, 0, false⟩
def ordM (nm : By) (k : Nat) (n : List Int) : Ord :=
 let g := fun j => n[k + 1 + j]?.getD 0
 ⟨⟨nm.toArray⟩, (n.drop 1).take k, ⟨g 0, g 1, g 2, g 3⟩, ⟨g 4, g 5, g 6, g 7⟩, g 8, g 9, g 10, g 11, g 12, false⟩
def readN (x : By) (n : List Int) : Option Ord := match n with
 | [] => none
 | c :: _ => if c < 0 ∨ 3 < c ∨ (n.length : Int) ≠ 1 + c + 13 then none else some (ordM x c.toNat n)
def readO (l : List By) : Option Ord := match l with
 | [] => none
 | x :: r => if r = [] then none else (readF r).bind (readN x)
theorem readO_cons (x : By) {r : List By} (h : r ≠ []) : readO (x :: r) = (readF r).bind (readN x) := if_neg h
def parse1 (x : By) (o : Ord) : Option Evt := if (numL x).2 = 0 then some ⟨(numL x).1, 1, 0, 0, 0, o⟩ else none
def evtM (k : Int) (n : List Int) : Evt :=
 let g := fun j => n[j]?.getD 0
 ⟨g 0, k, g 1, if k = 3 then g 2 else 0, if k = 3 then g 3 else if k = 5 then g 2 else 0, ordO⟩
def parse2 (k : Int) (n : List Int) : Option Evt := if k = 0 ∨ n.length ≠ cntF k then none else some (evtM k n)
def parseF (L : List By) : Option Evt := match L with
 | [] => none
 | x :: r => if r = [] then none
  else if kindF x = 1 then (readO (r.drop 1)).bind (parse1 (r.headD []))
  else (readF r).bind (parse2 (kindF x))
theorem parseF_cons (x : By) {r : List By} (h : r ≠ []) : parseF (x :: r) = if kindF x = 1 then (readO (r.drop 1)).bind (parse1 (r.headD [])) else (readF r).bind (parse2 (kindF x)) := if_neg h
end Go.Proofs.YtofabhenmplkoaaGreatDoor.evt
namespace Go.Proofs.YtofabhenmplkoaaGreatDoor.evt
open Go Go.RowKit
open typ txt
def LineOf (s : By) (e : Evt) : Prop := prtE e = 0 ∧ joinS (partsF e) = s ∧ Evt64 e ∧ e.order.load.length ≤ 1000000
theorem isD_isW {c : UInt8} (h : isD c = true) : isW c = true := by
 unfold isD at h
 rw [decide_eq_true_eq] at h
 unfold isW
 rw [decide_eq_true_eq]
 omega
theorem itoa_word (n : Int) : wordB (Lib.itoa n) = true := by
 have hd : ∀ u, (Lib.decDigits u).all isW = true := fun u => all_mono (fun c => isD_isW) (dec_all u)
 unfold wordB Lib.itoa
 rw [Bool.and_eq_true, decide_eq_true_eq]
 split
 ·refine ⟨by simp, ?_⟩
  rw [List.all_cons, Bool.and_eq_true]
  exact ⟨by decide, hd _⟩
 ·exact ⟨dec_ne _, hd _⟩
theorem name_word {s : ByteArray} (h : nameB s = true) : wordB s.data.toList = true := by
 unfold nameB at h
 rw [Bool.and_eq_true, Bool.and_eq_true, decide_eq_true_eq] at h
 unfold wordB
 rw [Bool.and_eq_true, decide_eq_true_eq]
 refine ⟨fun e => ?_, all_mono (fun c hc => ?_) h.2⟩
 ·have h1 := h.1.1.1
  have h2 : s.size = s.data.toList.length := by simp
  rw [e, show ([] : By).length = 0 from rfl] at h2
  omega
 ·unfold chrB letB digB at hc
  unfold isW
  rw [Bool.or_eq_true, decide_eq_true_eq, decide_eq_true_eq] at hc
  rw [decide_eq_true_eq]
  omega
theorem word_word {k : Int} (h : 1 ≤ k ∧ k ≤ 5) : wordB (wordS k).data.toList = true := by
 have hk : k = 1 ∨ k = 2 ∨ k = 3 ∨ k = 4 ∨ k = 5 := by omega
 rcases hk with rfl | rfl | rfl | rfl | rfl <;> decide
theorem kindF_word {k : Int} (h : 1 ≤ k ∧ k ≤ 5) : kindF (wordS k).data.toList = k := by
 have hk : k = 1 ∨ k = 2 ∨ k = 3 ∨ k = 4 ∨ k = 5 := by omega
 rcases hk with rfl | rfl | rfl | rfl | rfl <;> decide
theorem kindF_in (x : By) : 0 ≤ kindF x ∧ kindF x ≤ 5 := by
 unfold kindF
 repeat (first | split | decide)
theorem prt_kind {e : Evt} (h : prtE e = 0) : 1 ≤ e.kind ∧ e.kind ≤ 5 := by
 unfold prtE at h
 split at h
 ·exact absurd h (by decide)
 ·rename_i hk; exact Decidable.not_not.1 hk
theorem prt_clean {e : Evt} (h : prtE e = 0) : yP e = true := by
 unfold prtE at h
 split at h
 ·exact absurd h (by decide)
 split at h
 ·exact absurd h (by decide)
 ·rename_i hk; exact Decidable.not_not.1 hk
theorem prt_order {e : Evt} (h : prtE e = 0) (hk : e.kind = 1) : e.order.off = false ∧ nameB e.order.name = true ∧ e.order.load.length ≤ 3 := by
 unfold prtE at h
 split at h
 ·exact absurd h (by decide)
 split at h
 ·exact absurd h (by decide)
 split at h
 ·exact absurd h (by decide)
 split at h
 ·exact absurd h (by decide)
 split at h
 ·exact absurd h (by decide)
 ·rename_i h1 h2 h3
  exact ⟨by simpa using h1, Decidable.not_not.1 h2, by omega⟩
theorem parts_words {e : Evt} (h : prtE e = 0) : ∀ x ∈ partsF e, wordB x = true := by
 intro x hx
 unfold partsF at hx
 rw [List.mem_cons, List.mem_append] at hx
 rcases hx with rfl | hx | hx
 ·exact word_word (prt_kind h)
 ·obtain ⟨y, _, rfl⟩ := List.mem_map.1 hx; exact itoa_word y
 ·split at hx
  ·rename_i hk
   rw [List.mem_cons] at hx
   rcases hx with rfl | hx
   ·exact name_word (prt_order h hk).2.1
   ·obtain ⟨y, _, rfl⟩ := List.mem_map.1 hx; exact itoa_word y
  ·cases hx
theorem mk_data' (s : ByteArray) : (⟨s.data.toList.toArray⟩ : ByteArray) = s := by rw [Array.toArray_toList]
theorem stp_zero {s : Stp} (h : stpZ s = true) : s = stpO := by
 unfold stpZ at h
 simp only [Bool.and_eq_true, beq_iff_eq] at h
 obtain ⟨h1, h2, h3, h4⟩ := h
 cases s
 simp only at h1 h2 h3 h4
 subst h1; subst h2; subst h3; subst h4
 rfl
theorem blank_ord {o : Ord} (h : yQ o = true) : o = ordO := by
 unfold yQ at h
 simp only [Bool.and_eq_true, beq_iff_eq, decide_eq_true_eq, Bool.not_eq_true'] at h
 obtain ⟨h1, h2, h3, h4, h5, h6, h7, h8, h9, h10⟩ := h
 obtain ⟨nm, ld, pk, dr, sk, pe, sp, la, nw, off⟩ := o
 simp only at h1 h2 h3 h4 h5 h6 h7 h8 h9 h10
 have e1 : nm = ⟨#[]⟩ := by
  have hd : nm.data.toList = [] := by rw [← yA]; exact h1
  have := mk_data' nm
  rw [hd] at this
  exact this.symm
 have e2 : ld = [] := List.eq_nil_of_length_eq_zero (by omega)
 subst e1; subst e2; subst h5; subst h6; subst h7; subst h8; subst h9; subst h10
 rw [stp_zero h3, stp_zero h4]
 rfl
theorem get_app {l m : List Int} {j k : Nat} (h : l.length = k) : (l ++ m)[k + j]? = m[j]? := by
 rw [List.getElem?_append_right (by omega), h, Nat.add_sub_cancel_left]
theorem ordM_ord {o : Ord} (h : o.off = false) : ordM o.name.data.toList o.load.length (ordN o) = o := by
 obtain ⟨nm, ld, ⟨p0, p1, p2, p3⟩, ⟨d0, d1, d2, d3⟩, sk, pe, sp, la, nw, off⟩ := o
 simp only at h
 subst h
 unfold ordM ordN stpN
 have hg : ∀ j : Nat, (((ld.length : Int) :: (ld ++ ([p0, p1, p2, p3] ++ ([d0, d1, d2, d3] ++ [sk, pe, sp, la, nw])))))[ld.length + 1 + j]? = ([p0, p1, p2, p3] ++ ([d0, d1, d2, d3] ++ [sk, pe, sp, la, nw]))[j]? := fun j => by
  rw [show ld.length + 1 + j = (ld.length + j) + 1 by omega, List.getElem?_cons_succ]
  exact get_app rfl
 simp only [hg, List.drop_succ_cons, List.drop_zero, mk_data']
 rw [List.take_left' rfl]
 rfl
theorem readN_ord {o : Ord} (h : o.off = false) (hl : o.load.length ≤ 3) : readN o.name.data.toList (ordN o) = some o := by
 have hlen : (ordN o).length = 1 + o.load.length + 13 := by unfold ordN stpN; simp; omega
 have e : ordN o = (o.load.length : Int) :: (ordN o).drop 1 := rfl
 have e2 : readN o.name.data.toList (ordN o) = if (o.load.length : Int) < 0 ∨ 3 < (o.load.length : Int) ∨ ((ordN o).length : Int) ≠ 1 + (o.load.length : Int) + 13 then none else some (ordM o.name.data.toList (o.load.length : Int).toNat (ordN o)) := rfl
 rw [e2, if_neg (by rw [hlen]; omega), Int.toNat_natCast, ordM_ord h]
theorem parse_parts {e : Evt} (h : prtE e = 0) (h64 : Evt64 e) (hl : e.order.load.length ≤ 1000000) : parseF (partsF e) = some e := by
 have hk := prt_kind h
 have hc := prt_clean h
 obtain ⟨hf, hld⟩ := h64
 have hn := nums64 hf
 have hrd := readF_dec hn
 unfold partsF
 by_cases h1 : e.kind = 1
 ·obtain ⟨ho, hnm, hl3⟩ := prt_order h h1
  have e0 : numsF e = [e.at_] := by unfold numsF; rw [if_neg (by omega), if_neg (by omega), if_neg (by omega)]
  rw [if_pos h1, e0, List.map_cons, List.map_nil, parseF_cons _ (by simp), kindF_word hk, if_pos h1]
  show (readO (e.order.name.data.toList :: (ordN e.order).map Lib.itoa)).bind (parse1 (Lib.itoa e.at_)) = some e
  rw [readO_cons _ (by unfold ordN; simp), readF_dec (ord64 hf.2.2.2.2.2 hld hl)]
  show (readN e.order.name.data.toList (ordN e.order)).bind (parse1 (Lib.itoa e.at_)) = some e
  rw [readN_ord ho hl3]
  show parse1 (Lib.itoa e.at_) e.order = some e
  unfold parse1
  rw [num_dec hf.1]
  unfold yP at hc
  rw [if_pos h1] at hc
  simp only [Bool.and_eq_true, beq_iff_eq] at hc
  obtain ⟨at_, kd, a, b, n, o⟩ := e
  simp only at hc h1
  obtain ⟨c1, c2, c3⟩ := hc
  subst c1; subst c2; subst c3; subst h1
  rfl
 ·have hcnt := cntF_eq e
  rw [if_neg h1, List.append_nil, parseF_cons _ (by unfold numsF; simp), kindF_word hk, if_neg h1, hrd]
  show parse2 e.kind (numsF e) = some e
  unfold parse2
  rw [if_neg (by rw [hcnt]; omega)]
  unfold yP at hc
  rw [if_neg h1] at hc
  obtain ⟨at_, kd, a, b, n, o⟩ := e
  simp only at hc h1 hk
  have hk2 : kd = 2 ∨ kd = 3 ∨ kd = 4 ∨ kd = 5 := by omega
  rcases hk2 with rfl | rfl | rfl | rfl
  ·simp at hc
   obtain ⟨c1, c2, c3⟩ := hc
   subst c1; subst c2
   rw [blank_ord c3]
   rfl
  ·simp at hc
   rw [blank_ord hc]
   rfl
  ·simp at hc
   obtain ⟨c1, c2, c3⟩ := hc
   subst c1; subst c2
   rw [blank_ord c3]
   rfl
  ·simp at hc
   obtain ⟨c1, c2⟩ := hc
   subst c1
   rw [blank_ord c2]
   rfl
theorem LineOf.words {s : By} {e : Evt} {r : Option (List By)} (h : LineOf s e) (hr : WordsOk s r) : r = some (partsF e) :=
 hr.words (partsF e) (by unfold partsF; simp) (parts_words h.1) h.2.1.symm
theorem LineOf.parse {s : By} {e : Evt} (h : LineOf s e) : parseF (partsF e) = some e := parse_parts h.1 h.2.2.1 h.2.2.2
theorem joinS_inj : ∀ {M M' : List By}, M ≠ [] → M' ≠ [] → (∀ x ∈ M, wordB x = true) → (∀ x ∈ M', wordB x = true) → joinS M = joinS M' → M = M'
 | [], _, h, _, _, _, _ => absurd rfl h
 | x :: r, [], _, h, _, _, _ => absurd rfl h
 | x :: r, y :: t, _, _, hM, hM', e => by
  have h1 := (fst_join (r := r) (hM x (List.mem_cons_self ..))).1
  have h2 := (fst_join (r := t) (hM' y (List.mem_cons_self ..))).1
  rw [e, h2] at h1
  subst h1
  cases r with
  | nil =>
   cases t with
   | nil => rfl
   | cons z t =>
    rw [joinS_one, joinS_cons] at e
    have := congrArg List.length e
    simp at this
  | cons z r =>
   cases t with
   | nil =>
    rw [joinS_one, joinS_cons] at e
    have := congrArg List.length e
    simp at this
   | cons z' t =>
    rw [joinS_cons, joinS_cons] at e
    have e2 := List.append_cancel_left e
    injection e2 with _ e3
    rw [joinS_inj (by simp) (by simp) (fun x hx => hM x (List.mem_cons_of_mem _ hx)) (fun x hx => hM' x (List.mem_cons_of_mem _ hx)) e3]
theorem LineOf.one {s : By} {e e' : Evt} (h : LineOf s e) (h' : LineOf s e') : e = e' := by
 have hw : partsF e = partsF e' := joinS_inj (by unfold partsF; simp) (by unfold partsF; simp) (parts_words h.1) (parts_words h'.1) (h.2.1.trans h'.2.1.symm)
 have h1 := h.parse
 rw [hw, h'.parse] at h1
 exact (Option.some.inj h1).symm
theorem readN_some {x : By} {n : List Int} {o : Ord} (h : readN x n = some o) (hn : ∀ y ∈ n, in64 y) : ∃ k : Nat, k ≤ 3 ∧ n.length = k + 14 ∧ n.head? = some (k : Int) ∧ o = ordM x k n := by
 cases n with
 | nil => cases h
 | cons c r =>
  unfold readN at h
  dsimp only at h
  split at h
  ·cases h
  ·rename_i hc
   rw [not_or, not_or] at hc
   obtain ⟨h1, h2, h3⟩ := hc
   refine ⟨c.toNat, by omega, ?_, ?_, (Option.some.inj h).symm⟩
   ·have := Decidable.not_not.1 h3
    omega
   ·rw [List.head?_cons]
    congr 1
    omega
theorem get_in {n : List Int} (h : ∀ y ∈ n, in64 y) (j : Nat) : in64 (n[j]?.getD 0) := by
 cases hj : n[j]? with
 | none => exact ⟨by decide, by decide⟩
 | some y => exact h y (List.mem_of_getElem? hj)
theorem ordM_64 {x : By} {k : Nat} {n : List Int} (hx : x.length ≤ 100000) (hk : k ≤ 3) (hn : ∀ y ∈ n, in64 y) : yL (ordM x k n) ∧ (∀ y ∈ (ordM x k n).load, in64 y) ∧ (ordM x k n).load.length ≤ 3 := by
 have g := fun j => get_in hn (k + 1 + j)
 refine ⟨⟨?_, ⟨g 0, g 1, g 2, g 3⟩, ⟨g 4, g 5, g 6, g 7⟩, g 8, g 9, g 10, g 11, g 12⟩, fun y hy => ?_, ?_⟩
 ·show x.toArray.size ≤ _
  simp
  omega
 ·exact hn y (List.mem_of_mem_drop (List.mem_of_mem_take hy))
 ·show ((n.drop 1).take k).length ≤ 3
  rw [List.length_take]
  omega
theorem ordO_64 : yL ordO ∧ (∀ y ∈ ordO.load, in64 y) ∧ ordO.load.length ≤ 3 := by
 refine ⟨?_, fun y hy => (by cases hy), (by decide)⟩
 unfold yL StpFits
 decide
theorem evtM_64 {k : Int} {n : List Int} (hk : 0 ≤ k ∧ k ≤ 5) (hn : ∀ y ∈ n, in64 y) : Evt64 (evtM k n) ∧ (evtM k n).order.load.length ≤ 3 := by
 have g := get_in hn
 refine ⟨⟨⟨g 0, ⟨by show _ ≤ k; omega, by show k ≤ _; omega⟩, g 1, ?_, ?_, ordO_64.1⟩, ordO_64.2.1⟩, ordO_64.2.2⟩
 ·show in64 (if k = 3 then n[2]?.getD 0 else 0)
  split
  ·exact g 2
  ·exact ⟨by decide, by decide⟩
 ·show in64 (if k = 3 then n[3]?.getD 0 else if k = 5 then n[2]?.getD 0 else 0)
  split
  ·exact g 3
  ·split
   ·exact g 2
   ·exact ⟨by decide, by decide⟩
theorem zero64 : -9223372036854775808 ≤ (0 : Int) ∧ (0 : Int) ≤ 9223372036854775807 := by decide
theorem one64 : -9223372036854775808 ≤ (1 : Int) ∧ (1 : Int) ≤ 9223372036854775807 := by decide
theorem blank_O : yQ ordO = true := by unfold yQ stpZ; simp [ordO, stpO, yA]
theorem readO_64 {L : List By} {o : Ord} (h : readO L = some o) (hL : ∀ x ∈ L, x.length ≤ 100000) : yL o ∧ (∀ y ∈ o.load, in64 y) ∧ o.load.length ≤ 3 := by
 cases L with
 | nil => cases h
 | cons x r =>
  by_cases hr : r = []
  ·rw [show readO (x :: r) = none from if_pos hr] at h
   cases h
  ·rw [readO_cons x hr] at h
   obtain ⟨n, h1, h2⟩ := Option.bind_eq_some_iff.1 h
   have hn := (readF_len h1).2
   obtain ⟨k, hk, _, _, rfl⟩ := readN_some h2 hn
   exact ordM_64 (hL x (List.mem_cons_self ..)) hk hn
theorem parseF_64 {L : List By} {e : Evt} (h : parseF L = some e) (hL : ∀ x ∈ L, x.length ≤ 100000) : Evt64 e ∧ e.order.load.length ≤ 3 := by
 cases L with
 | nil => cases h
 | cons x r =>
  by_cases hr : r = []
  ·rw [show parseF (x :: r) = none from if_pos hr] at h
   cases h
  ·rw [parseF_cons x hr] at h
   split at h
   ·obtain ⟨o, h1, h2⟩ := Option.bind_eq_some_iff.1 h
    unfold parse1 at h2
    split at h2
    ·obtain rfl := Option.some.inj h2
     obtain ⟨h3, h4, h5⟩ := readO_64 h1 fun y hy => hL y (List.mem_cons_of_mem _ (List.mem_of_mem_drop hy))
     have h6 := (numL_in (r.headD [])).1
     exact ⟨⟨⟨h6, one64, zero64, zero64, zero64, h3⟩, h4⟩, h5⟩
    ·cases h2
   ·obtain ⟨n, h1, h2⟩ := Option.bind_eq_some_iff.1 h
    unfold parse2 at h2
    split at h2
    ·cases h2
    ·obtain rfl := Option.some.inj h2
     exact evtM_64 (kindF_in x) (readF_len h1).2
def ParseOk (s : By) (r : Option Evt) : Prop := (∀ e, r = some e → LineOf s e) ∧ (r = none → ∀ e, ¬ LineOf s e)
theorem ParseOk.one {s : By} {r r' : Option Evt} (h : ParseOk s r) (h' : ParseOk s r') : r = r' := by
 cases r with
 | none =>
  cases r' with
  | none => rfl
  | some e => exact absurd (h'.1 e rfl) (h.2 rfl e)
 | some e =>
  cases r' with
  | none => exact absurd (h.1 e rfl) (h'.2 rfl e)
  | some e' => rw [(h.1 e rfl).one (h'.1 e' rfl)]
def parseS (s : By) (r : Option (List By)) : Option Evt := (r.bind parseF).bind fun e => if prtE e = 0 ∧ joinS (partsF e) = s then some e else none
theorem ParseOk.prog {s : By} {r : Option (List By)} (h : WordsOk s r) (hl : ∀ L, r = some L → ∀ x ∈ L, x.length ≤ 100000) : ParseOk s (parseS s r) := by
 refine ⟨fun e he => ?_, fun hn e he => ?_⟩
 ·unfold parseS at he
  obtain ⟨e', h1, h2⟩ := Option.bind_eq_some_iff.1 he
  obtain ⟨L, h3, h4⟩ := Option.bind_eq_some_iff.1 h1
  split at h2
  ·rename_i hc
   obtain rfl := Option.some.inj h2
   obtain ⟨h5, h6⟩ := parseF_64 h4 (hl L h3)
   exact ⟨hc.1, hc.2, h5, by omega⟩
  ·cases h2
 ·have h1 := he.words h
  unfold parseS at hn
  rw [h1, show (some (partsF e)).bind parseF = parseF (partsF e) from rfl, he.parse] at hn
  have h2 : (if prtE e = 0 ∧ joinS (partsF e) = s then some e else none) = none := hn
  rw [if_pos ⟨he.1, he.2.1⟩] at h2
  cases h2
end Go.Proofs.YtofabhenmplkoaaGreatDoor.evt
namespace Go.Proofs.YtofabhenmplkoaaGreatDoor.evt
open Go.RowKit
open lib rd app els typ big ins ord gen
open txt (in64 By strV strV_of joinS decW decW_any Tabs elem_str nameB name_any yA Strs numL number_any ret_nn)
def RdOut (w : World) (L : List By) (en : Ending) (w' : World) : Prop := Below w.heap.size w w' ∧
 ((readF L = none ∧ en = .returned (.tuple #[.slice none 0 0, .bool false])) ∨ ∃ (l : List Int) (A : Option Addr) (c n : Nat), readF L = some l ∧ n = l.length ∧ en = .returned (.tuple #[.slice A n c, .bool true]) ∧ IOwn w' w.heap.size A c l)
theorem readF_drop {L : List By} {k : Nat} {x : By} (h : L[k]? = some x) : readF (L.drop k) = if (numL x).2 = 0 then (match readF (L.drop (k + 1)) with | none => none | some l => some ((numL x).1 :: l)) else none := by
 rw [drop_at' h]
 rfl
theorem push_i {ops : Array Oper} {rest : List Oper} {o : Oper} {a : Act} {Q : Exit → Act → World → Prop} {w : World} (hgd : o.guard = none) (s x : Operand)
  (ho : o.op = .call { callee := .builtin .append, args := #[s, x], argTypes := #[31, 31] })
  (base n c : Nat) (A : Option Addr) (l : List Int) (hn : n = l.length) (hs : a.eval s = .slice A n c) (hown : IOwn w base A c l)
  (u : Int) (hx : a.eval x = .slice (some ⟨w.heap.size, 0, none⟩) 1 1) (hl : n < 1000000) (hbase : base ≤ w.heap.size)
  (h : ∀ A' c' w', IOwn w' base A' c' (l ++ [u]) → Below base w w' → wpList Tryz.prog ops Q rest (a.put o.dst (.slice A' (n + 1) c')) w') :
  wpList Tryz.prog ops Q (o :: rest) a (w.alloc (.cells #[.int .i64 u] 3)) := by
 subst hn
 refine push_int hgd s x ho base (.slice A l.length c) l.length l hs hown u hx (by omega) hbase ?_
 intro A' c' w1 h1 h2 _
 refine h A' c' w1 ?_ h2
 unfold IOwn
 rw [List.length_append]
 exact h1
set_option maxRecDepth 20000 in
theorem read_any (L : List By) (A : Option Addr) (n c : Nat) (hn : n = L.length) (w : World) (hL : Strs w w.heap.size A L) (hm : ∀ x ∈ L, x.length ≤ 100000) (ht : Tabs w) : Calls Tryz.prog 130 #[.slice A n c] w (RdOut w L) := by
 have HL := Lib.hid hL
 have HM := Lib.hid hm
 have HN := Lib.hid hn
 have hnb : n ≤ 1000000 := by rw [hn]; exact hL.2
 have HT := Lib.hid ht
 clear hL hm hn ht
 go_enter Tryz.func130, Tryz.ntmps130
 go_upto_region 3 with fail
 go_loopw [4, 11] (fun ov iv wr => Below w.heap.size w wr ∧ ∃ (k d : Nat) (B : Option Addr) (l : List Int), k ≤ n ∧ iv = .int .i64 k ∧ ov = .slice B k d ∧ Hid (k = l.length) ∧ Hid (IOwn wr w.heap.size B d l) ∧ Hid (readF L = (readF (L.drop k)).map (l ++ ·))) (fun _ iv _ => n - (intOf iv).toNat)
 case atStart => exact ⟨Below.refl _ _, 0, 0, none, [], by omega, rfl, rfl, Lib.hid rfl, Lib.hid (World.ownsRow_nil _ _ _ _), Lib.hid (by rw [List.drop_zero]; cases readF L <;> simp)⟩
 case round =>
  obtain ⟨hb, k, d, B, l, hk, rfl, rfl, hkl, hO, hR⟩ := hrel
  have hbz := hb.size
  by_cases hlt : k < n
  ·obtain ⟨ad, x, hA, hadb, hx, hcell⟩ := (HL.out.below hb).at_ (k := k) (by rw [← HN.out]; exact hlt)
   subst hA
   have hxm : x.length ≤ 100000 := HM.out x (List.mem_of_getElem? hx)
   have HX := Lib.hid hx
   have HT1 := Lib.hid (HT.out.below hb)
   have hst := Lib.hid (readF_drop hx)
   clear hx
   obtain ⟨v, hv⟩ : ∃ v, (numL x).1 = v := ⟨_, rfl⟩
   obtain ⟨f, hf⟩ : ∃ f, (numL x).2 = f := ⟨_, rfl⟩
   have HV := Lib.hid hv
   have HF := Lib.hid hf
   have hnum : ∀ w', Tabs w' → Calls Tryz.prog 128 #[.string ⟨x.toArray⟩] w' fun e w'' => e = .returned (.tuple #[.int .i64 v, .int .i64 f]) ∧ Below w'.heap.size w' w'' := fun w' h => by
    have h1 := number_any ⟨x.toArray⟩ (by show x.toArray.size ≤ _; simp; omega) w' h
    have e : (⟨x.toArray⟩ : ByteArray).data.toList = x := rfl
    rw [e, hv, hf] at h1
    exact h1
   clear hv hf
   by_cases hf0 : f = 0
   ·subst hf0
    have HR2 : Hid (readF L = (readF (L.drop (k + 1))).map ((l ++ [v]) ++ ·)) := Lib.hid (by
     rw [hR.out, hst.out, if_pos HF.out, HV.out]
     cases readF (L.drop (k + 1)) <;> simp)
    clear hR
    go_wp2_with (first
     | (go_at_call 128; refine (hnum _ HT1.out).mono ?_; rintro e2 w2 ⟨rfl, hb2⟩; have y2 := hb2.size)
     | (at_builtin; refine push_i rfl _ _ rfl w.heap.size k d B l hkl.out rfl (hO.out.below hb2) v rfl (by omega) (by omega) ?_; intro B3 d3 w3 hO3 hb3))
    go_roundw
    case rel => exact ⟨hb.trans ((hb2.mono hbz).trans hb3), k + 1, d3, B3, l ++ [v], by omega, by go_num, rfl, Lib.hid (by rw [List.length_append, ← hkl.out]; rfl), Lib.hid hO3, HR2⟩
    case measure => simp [intOf]; omega
   ·have hf1 : (f != 0) = true := by simpa using hf0
    have HR2 : Hid (readF L = none) := Lib.hid (by rw [hR.out, hst.out, if_neg (by rw [HF.out]; exact hf0)]; rfl)
    go_wp2_with (go_at_call 128; refine (hnum _ HT1.out).mono ?_; rintro e2 w2 ⟨rfl, hb2⟩)
    refine bodyPost_ret (v := .tuple #[.slice none 0 0, .bool false]) (by simp [results, Tryz.results130, go_sem]) rfl ?_
    exact ⟨hb.trans (hb2.mono hbz), .inl ⟨HR2.out, rfl⟩⟩
  ·have HR2 : Hid (readF L = some l) := Lib.hid (by
    rw [hR.out, List.drop_of_length_le (by rw [← HN.out]; omega)]
    simp [readF])
   go_wp2
   refine bodyPost_ret (v := .tuple #[.slice B k d, .bool true]) (by simp [results, Tryz.results130, go_sem]) rfl ?_
   exact ⟨hb, .inr ⟨l, B, d, k, HR2.out, hkl.out, rfl, hO.out⟩⟩
end Go.Proofs.YtofabhenmplkoaaGreatDoor.evt
namespace Go.Proofs.YtofabhenmplkoaaGreatDoor.evt
open Go.RowKit
open lib rd app els typ big ins ord
open gen hiding zOrd bOrd
open off (setM yF yJ)
open txt (in64 By strV strV_of joinS decW decW_any Tabs elem_str nameB name_any yA Strs numL number_any own_cap)
def nmCells (nm : ByteArray) (v : Value) : List Value := [.string nm, v, .int .i64 0, .int .i64 0, .int .i64 0, .int .i64 0, .int .i64 0, .int .i64 0, .int .i64 0, .int .i64 0, .int .i64 0, .int .i64 0, .int .i64 0, .int .i64 0, .int .i64 0, .bool false]
theorem nm_fill (nm : ByteArray) : Instr.fill ((#[(0, 1), (1, 1), (2, 4), (6, 4), (10, 1), (11, 1), (12, 1), (13, 1), (14, 1), (15, 1)] : Array (Nat × Nat))[·]?) (Value.agg zOrd.toArray).cells [(0, .string nm)] = some (nmCells nm (.slice none 0 0)).toArray := by kernel_rfl
theorem nm_one (nm : ByteArray) : ∀ u ∈ nmCells nm (.slice none 0 0), u.oneCell' = true := by
 intro u hu
 simp [nmCells] at hu
 rcases hu with rfl | rfl | rfl | rfl <;> rfl
def RoOut (w : World) (L : List By) (en : Ending) (w' : World) : Prop := Below w.heap.size w w' ∧
 ((readO L = none ∧ en = .returned (.tuple #[.agg zOrd.toArray, .bool false])) ∨ ∃ (o : Ord) (C : Option Addr) (c : Nat), readO L = some o ∧ en = .returned (.tuple #[.agg (zA o C c).toArray, .bool true]) ∧ yM w' (fun b => w.heap.size ≤ b) C o.load)
theorem Strs.drop {w : World} {B : Nat} {A : Option Addr} {L : List By} (h : Strs w B A L) (k : Nat) (hk : k < L.length) : ∃ ad, A = some ad ∧ Strs w B (some (ad.add k)) (L.drop k) := by
 obtain ⟨⟨h1, h2⟩, h3⟩ := h
 obtain ⟨ad, e, hb, hc⟩ := h2 (by omega)
 refine ⟨ad, e, ⟨by simp, fun _ => ⟨_, rfl, by rw [block_of_add]; exact hb, fun j u hu => ?_⟩⟩, by rw [List.length_drop]; omega⟩
 rw [add_of_add]
 refine hc (k + j) u ?_
 rw [List.map_drop, List.getElem?_drop] at hu
 exact hu
set_option maxRecDepth 20000 in
set_option maxHeartbeats 4000000 in
theorem readOrder_any (L : List By) (A : Option Addr) (n c : Nat) (hn : n = L.length) (hnc : n ≤ c) (w : World) (hL : Strs w w.heap.size A L) (hm : ∀ x ∈ L, x.length ≤ 100000) (ht : Tabs w) : Calls Tryz.prog 129 #[.slice A n c] w (RoOut w L) := by
 obtain ⟨W0, hW0⟩ : ∃ W0, w.alloc (.cells zOrd.toArray 35) = W0 := ⟨_, rfl⟩
 have hB0 : Below w.heap.size w W0 := by rw [← hW0]; exact (Below.refl _ _).alloc (Nat.le_refl _) _
 have z0 := hB0.size
 have b0 : Blk W0 w.heap.size 35 zOrd := by rw [← hW0]; exact Blk.new w _ _
 have HR0 := Lib.hid b0
 obtain ⟨rb, hrb0⟩ : ∃ b, w.heap.size = b := ⟨_, rfl⟩
 have hrb : w.heap.size ≤ rb := by omega
 have zz : rb < W0.heap.size := by rw [← hrb0]; exact b0.lt
 have HB0 := Lib.hid hB0
 have HL := Lib.hid (hL.below hB0)
 have HM := Lib.hid hm
 have HN := Lib.hid hn
 have HT := Lib.hid (ht.below hB0)
 have HW0 := Lib.hid (show w.alloc (.cells #[.string ⟨#[]⟩, .slice none 0 0, .int .i64 0, .int .i64 0, .int .i64 0, .int .i64 0, .int .i64 0, .int .i64 0, .int .i64 0, .int .i64 0, .int .i64 0, .int .i64 0, .int .i64 0, .int .i64 0, .int .i64 0, .bool false] 35) = W0 from hW0)
 clear hL hm hn ht b0 hB0 hW0
 go_enter Tryz.func129, Tryz.ntmps129
 go_upto_region 1 with fail
 rw [HW0.out]
 rw [hrb0] at HR0
 have HR0w := HR0
 clear HW0
 by_cases h2 : n < 2
 ·have HEE : Hid (readO L = none) := Lib.hid (by
   have := HN.out
   unfold readO
   cases L with
   | nil => rfl
   | cons x r =>
    cases r with
    | nil => rfl
    | cons y r => simp at this; omega)
  have h2' : (n : Int) < 2 := by omega
  have HBX : Hid (Below W0.heap.size W0 W0) := Lib.hid (Below.refl _ _)
  go_wp2_with (first
   | fail
   | ((with_reducible refine zP bOrd rfl _ rfl _ zOrd ?_ (by kernel_rfl) ?_); exact rfl)
   | ((with_reducible refine zJ stOrd' rfl _ _ rfl rb zOrd zOrd ?_ ?_ ?_ ?_ ?_ (by decide) ?_); exact rfl; exact rfl; exact HR0.out; exact rfl; exact rfl; intro wz k1 k2 k3 k4; have K := lib.h4 k1 k2 k3 k4; clear k1 k2 k3 k4))
  have HRz : Blk wz rb 35 zOrd := K.out.1
  refine bodyPost_ret (v := .tuple #[.agg zOrd.toArray, .bool false]) (big.zK stOrd' Tryz.results129 rfl rfl HRz.cells rfl) rfl ?_
  exact ⟨HB0.out.trans ((HBX.out.mono z0).trans (K.out.2.2.2.mono hrb)), .inl ⟨HEE.out, rfl⟩⟩
 obtain ⟨ad, hA, hL1⟩ := Strs.drop HL.out 1 (by rw [← HN.out]; omega)
 obtain ⟨ad0, x0, hA0, hadb0, hx0, hcell0⟩ := HL.out.at_ (k := 0) (by rw [← HN.out]; omega)
 subst hA
 obtain rfl : ad = ad0 := Option.some.inj hA0
 obtain ⟨r, hLr⟩ : ∃ r, L = x0 :: r := by
  cases L with
  | nil => cases hx0
  | cons y r => exact ⟨r, by rw [show y = x0 from Option.some.inj hx0]⟩
 have hrl : r.length = n - 1 := by rw [HN.out, hLr]; rfl
 rw [show L.drop 1 = r by rw [hLr]; rfl] at hL1
 have HL1 := Lib.hid hL1
 have hrm : ∀ x ∈ r, x.length ≤ 100000 := fun x hx => HM.out x (by rw [hLr]; exact List.mem_cons_of_mem _ hx)
 have HRM := Lib.hid hrm
 have HRL := Lib.hid hrl.symm
 have HLR := Lib.hid hLr
 have h21 : (1 : Int) ≤ (n : Int) := by omega
 have HRW := Lib.hid (HL1.out.more (show w.heap.size ≤ W0.heap.size by omega))
 clear hx0 hLr hrl hA0 hL1 hrm
 have hread : Calls Tryz.prog 130 #[.slice (some (ad.add 1)) (n - 1) (c - 1)] W0 (RdOut W0 r) := read_any r _ _ _ HRL.out _ HRW.out HRM.out HT.out
 have hsl : (some (ad.add 1) : Option Addr) = some ⟨ad.block, ad.off + 1, none⟩ := rfl
 rw [hsl] at hread
 have hRO : Hid (readO L = (readF r).bind (readN x0)) := Lib.hid (by
  rw [HLR.out, readO_cons x0 (by intro e; have h := HRL.out; rw [e] at h; simp at h; omega)])
 cases hrd : readF r with
 | none =>
  have HEE : Hid (readO L = none) := Lib.hid (by rw [hRO.out, hrd]; rfl)
  have hread2 : Calls Tryz.prog 130 #[.slice (some ⟨ad.block, ad.off + 1, none⟩) (n - 1) (c - 1)] W0 fun e w' => e = .returned (.tuple #[.slice none 0 0, .bool false]) ∧ Below W0.heap.size W0 w' := hread.mono (by
   rintro e w' ⟨hb, ⟨_, h⟩ | ⟨l, A, c, n, h, _⟩⟩
   ·exact ⟨h, hb⟩
   ·rw [hrd] at h; cases h)
  clear hread hrd hRO
  go_upto_region 4 with (go_at_call 130; refine hread2.mono ?_; rintro e1 w1 ⟨rfl, hb1⟩)
  have HR1 := Lib.hid (HR0.out.below hb1)
  have HBX := Lib.hid hb1
  clear hread2 hb1 HR0
  have HR0 := HR1
  go_wp2_with (first
   | fail
   | ((with_reducible refine zP bOrd rfl _ rfl _ zOrd ?_ (by kernel_rfl) ?_); exact rfl)
   | ((with_reducible refine zJ stOrd' rfl _ _ rfl rb zOrd zOrd ?_ ?_ ?_ ?_ ?_ (by decide) ?_); exact rfl; exact rfl; exact HR0.out; exact rfl; exact rfl; intro wz k1 k2 k3 k4; have K := lib.h4 k1 k2 k3 k4; clear k1 k2 k3 k4))
  have HRz : Blk wz rb 35 zOrd := K.out.1
  refine bodyPost_ret (v := .tuple #[.agg zOrd.toArray, .bool false]) (big.zK stOrd' Tryz.results129 rfl rfl HRz.cells rfl) rfl ?_
  exact ⟨HB0.out.trans ((HBX.out.mono z0).trans (K.out.2.2.2.mono hrb)), .inl ⟨HEE.out, rfl⟩⟩
 | some ns =>
  obtain ⟨hnl, hn64⟩ := readF_len hrd
  have hread2 : Calls Tryz.prog 130 #[.slice (some ⟨ad.block, ad.off + 1, none⟩) (n - 1) (c - 1)] W0 fun e w' => ∃ (A1 : Option Addr) (c1 : Nat), e = .returned (.tuple #[.slice A1 ns.length c1, .bool true]) ∧ Below W0.heap.size W0 w' ∧ IOwn w' W0.heap.size A1 c1 ns := hread.mono (by
   rintro e w' ⟨hb, ⟨h, _⟩ | ⟨l, A, c, n, h, hn, he, ho⟩⟩
   ·rw [hrd] at h; cases h
   ·rw [hrd] at h
    obtain rfl := Option.some.inj h
    subst hn
    exact ⟨A, c, he, hb, ho⟩)
  have HRO : Hid (readO L = readN x0 ns) := Lib.hid (by rw [hRO.out, hrd]; rfl)
  have HN64 := Lib.hid hn64
  have HNL := Lib.hid hnl
  clear hread hrd hRO hn64 hnl
  obtain ⟨k1, hk1⟩ : ∃ k, ns.length = k := ⟨_, rfl⟩
  rw [hk1] at hread2
  go_upto_region 4 with (go_at_call 130; refine hread2.mono ?_; rintro e1 w1 ⟨A1, c1, rfl, hb1, hO1⟩)
  have HB1 := Lib.hid hb1
  have z1 := hb1.size
  have hk10 : 0 < k1 := by rw [← hk1, HNL.out, ← HRL.out]; omega
  obtain ⟨g1, hA1, hg1a, hg1b⟩ : ∃ g, A1 = some ⟨g, 0, none⟩ ∧ W0.heap.size ≤ g ∧ g < w1.heap.size := by
   have h := hO1
   unfold IOwn at h
   obtain ⟨g, cap, hv, _, hlt⟩ := World.ownsRow.form h (by omega)
   injection hv with q1 _ _
   subst q1
   exact ⟨g, rfl, own_base h g rfl, hlt⟩
  subst hA1
  have hk1c : k1 ≤ c1 := by have h := own_cap hO1; omega
  have HC1 : Hid (∀ j x, ns[j]? = some x → w1.cell? ⟨g1, j, none⟩ = some (.int .i64 x)) := Lib.hid (fun j x hx => by
   have hj := (List.getElem?_eq_some_iff.1 hx).1
   have h := World.ownsRow.cellAt hO1 j (by omega)
   rw [h, List.getElem?_map, hx]; rfl)
  have HK1 := Lib.hid hk1
  obtain ⟨c0, tl, hns⟩ : ∃ c0 tl, ns = c0 :: tl := by
   cases ns with
   | nil => simp at hk1; omega
   | cons a b => exact ⟨a, b, rfl⟩
  have f0 : w1.cell? ⟨g1, 0, none⟩ = some (.int .i64 c0) := HC1.out 0 c0 (by rw [hns]; rfl)
  have HNS := Lib.hid hns
  have hRN : Hid (readO L = if c0 < 0 ∨ 3 < c0 ∨ (k1 : Int) ≠ 1 + c0 + 13 then none else some (ordM x0 c0.toNat ns)) := Lib.hid (by
   rw [HRO.out, ← HK1.out, HNS.out]; rfl)
  have hc64 : in64 c0 := HN64.out c0 (by rw [hns]; exact List.mem_cons_self ..)
  unfold in64 at hc64
  obtain ⟨hc64a, hc64b⟩ := hc64
  have HRX := Lib.hid (HR0.out.below hb1)
  have HBX := Lib.hid hb1
  clear hns hk1 hb1 hread2 HRO HR0
  have HR0 := HRX; clear HRX
  by_cases t1 : c0 < 0
  ·have HEE : Hid (readO L = none) := Lib.hid (by rw [hRN.out, if_pos (.inl t1)])
   go_wp2_with (first
    | fail
    | ((with_reducible refine zP bOrd rfl _ rfl _ zOrd ?_ (by kernel_rfl) ?_); exact rfl)
    | ((with_reducible refine zJ stOrd' rfl _ _ rfl rb zOrd zOrd ?_ ?_ ?_ ?_ ?_ (by decide) ?_); exact rfl; exact rfl; exact HR0.out; exact rfl; exact rfl; intro wz k1 k2 k3 k4; have K := lib.h4 k1 k2 k3 k4; clear k1 k2 k3 k4))
   have HRz : Blk wz rb 35 zOrd := K.out.1
   refine bodyPost_ret (v := .tuple #[.agg zOrd.toArray, .bool false]) (big.zK stOrd' Tryz.results129 rfl rfl HRz.cells rfl) rfl ?_
   exact ⟨HB0.out.trans ((HBX.out.mono z0).trans (K.out.2.2.2.mono hrb)), .inl ⟨HEE.out, rfl⟩⟩
  by_cases t2 : 3 < c0
  ·have HEE : Hid (readO L = none) := Lib.hid (by rw [hRN.out, if_pos (.inr (.inl t2))])
   go_wp2_with (first
    | fail
    | ((with_reducible refine zP bOrd rfl _ rfl _ zOrd ?_ (by kernel_rfl) ?_); exact rfl)
    | ((with_reducible refine zJ stOrd' rfl _ _ rfl rb zOrd zOrd ?_ ?_ ?_ ?_ ?_ (by decide) ?_); exact rfl; exact rfl; exact HR0.out; exact rfl; exact rfl; intro wz k1 k2 k3 k4; have K := lib.h4 k1 k2 k3 k4; clear k1 k2 k3 k4))
   have HRz : Blk wz rb 35 zOrd := K.out.1
   refine bodyPost_ret (v := .tuple #[.agg zOrd.toArray, .bool false]) (big.zK stOrd' Tryz.results129 rfl rfl HRz.cells rfl) rfl ?_
   exact ⟨HB0.out.trans ((HBX.out.mono z0).trans (K.out.2.2.2.mono hrb)), .inl ⟨HEE.out, rfl⟩⟩
  by_cases t3 : (k1 : Int) ≠ 1 + c0 + 13
  ·have HEE : Hid (readO L = none) := Lib.hid (by rw [hRN.out, if_pos (.inr (.inr t3))])
   go_wp2_with (first
    | fail
    | ((with_reducible refine zP bOrd rfl _ rfl _ zOrd ?_ (by kernel_rfl) ?_); exact rfl)
    | ((with_reducible refine zJ stOrd' rfl _ _ rfl rb zOrd zOrd ?_ ?_ ?_ ?_ ?_ (by decide) ?_); exact rfl; exact rfl; exact HR0.out; exact rfl; exact rfl; intro wz k1 k2 k3 k4; have K := lib.h4 k1 k2 k3 k4; clear k1 k2 k3 k4))
   have HRz : Blk wz rb 35 zOrd := K.out.1
   refine bodyPost_ret (v := .tuple #[.agg zOrd.toArray, .bool false]) (big.zK stOrd' Tryz.results129 rfl rfl HRz.cells rfl) rfl ?_
   exact ⟨HB0.out.trans ((HBX.out.mono z0).trans (K.out.2.2.2.mono hrb)), .inl ⟨HEE.out, rfl⟩⟩
  have HRS : Hid (readO L = some (ordM x0 c0.toNat ns)) := Lib.hid (by rw [hRN.out, if_neg (by rw [not_or, not_or]; exact ⟨t1, t2, t3⟩)])
  obtain ⟨k, rfl⟩ : ∃ k : Nat, c0 = k := ⟨c0.toNat, by omega⟩
  have hk3 : k ≤ 3 := by omega
  have hk14 : k1 = k + 14 := by omega
  subst hk14
  clear hRN hc64a hc64b t1 t2
  have e0 : w1.cell? ad = some (.string ⟨x0.toArray⟩) := by
   have h := (HB1.out.cell (p := ad.add 0) (by rw [block_of_add]; omega)).trans hcell0
   exact h
  have hx0b : ad.block < w1.heap.size := by omega
  have q1 : ¬ (k : Int) < 0 := by omega
  have q2 : ¬ 3 < (k : Int) := by omega
  have q3 : ((k : Int) + 14 != 1 + (k : Int) + 13) = false := by simp; omega
  clear t3
  go_upto_region 7 with (first
   | ((with_reducible refine zP bOrd rfl _ rfl [(0, .string ⟨x0.toArray⟩)] (nmCells ⟨x0.toArray⟩ (.slice none 0 0)) ?_ (nm_fill _) ?_); exact rfl)
   | ((with_reducible refine zJ stOrd' rfl _ _ rfl w1.heap.size zOrd (nmCells ⟨x0.toArray⟩ (.slice none 0 0)) ?_ ?_ ?_ ?_ ?_ (nm_one _) ?_); exact rfl; exact rfl; exact World.alloc_heap_new w1 _; exact rfl; exact rfl; intro w2 k1 k2 k3 k4; have K := lib.h4 k1 k2 k3 k4; clear k1 k2 k3 k4))
  have b12 : Below w1.heap.size w1 w2 := ((Below.refl _ _).alloc (Nat.le_refl _) _).trans K.out.2.2.2
  have z2 : w1.heap.size < w2.heap.size := by rw [K.out.2.2.1]; simp
  obtain ⟨ob, hob⟩ : ∃ b, w1.heap.size = b := ⟨_, rfl⟩
  have o2 : Blk w2 ob 35 (nmCells ⟨x0.toArray⟩ (.slice none 0 0)) := by rw [← hob]; exact K.out.1
  have HC2 : Hid (∀ j x, ns[j]? = some x → w2.cell? ⟨g1, j, none⟩ = some (.int .i64 x)) := Lib.hid (fun j x hx => (b12.cell (p := ⟨g1, j, none⟩) hg1b).trans (HC1.out j x hx))
  have f2 : w2.cell? ⟨g1, 0, none⟩ = some (.int .i64 (k : Int)) := HC2.out 0 _ (by rw [HNS.out]; rfl)
  have HB2 := Lib.hid (HB1.out.trans (b12.mono z1))
  rw [hob] at z2 hg1b ⊢
  have g0 := o2.cell (j := 1) rfl
  have g2 := o2.frozen 1
  have HO2 := Lib.hid o2
  clear o2 K b12 e0 f0 hob hO1 HR0 HBX
  go_upto_if 49 with fail
  go_cut [6] (fun v wx => v = .pointer (some ⟨ob, 0, none⟩) ∧ ∃ C cc, Blk wx ob 35 (nmCells ⟨x0.toArray⟩ (.slice C k cc)) ∧ Below ob w2 wx ∧ (k = 0 ∧ C = none ∨ C = some ⟨g1, 1, none⟩))
  case first => as_aux_lemma =>
   by_cases hk0 : k = 0
   ·subst hk0
    go_wp2
    go_meet
    exact ⟨rfl, none, 0, HO2.out, Below.refl _ _, by simp⟩
   ·have hk1 : 0 < (k : Int) := by omega
    have hk2 : 1 + (k : Int) ≤ (c1 : Int) := by omega
    go_wp2
    go_meet
    exact ⟨rfl, some ⟨g1, 1, none⟩, c1 - 1, HO2.out.set 1 _, Below.setCell (p := ⟨ob, 1, none⟩) (Below.refl _ _) (Nat.le_refl _) _, .inr rfl⟩
  obtain ⟨h6, C, cc, hO3, hb3, hC⟩ := hcut
  subst h6
  have HC3 : Hid (∀ j x, ns[j]? = some x → wc.cell? ⟨g1, j, none⟩ = some (.int .i64 x)) := Lib.hid (fun j x hx => (hb3.cell (p := ⟨g1, j, none⟩) hg1b).trans (HC2.out j x hx))
  have f3 : wc.cell? ⟨g1, 0, none⟩ = some (.int .i64 (k : Int)) := HC3.out 0 _ (by rw [HNS.out]; rfl)
  have HO3 := Lib.hid hO3
  have HB3 := Lib.hid (HB2.out.trans (hb3.mono (by omega)))
  have z3 := hb3.size
  have hk2 : 1 + (k : Int) ≤ (k : Int) + 14 := by omega
  clear f2 g0 g2 HO2 HB2 hO3 hb3
  go_upto_region 10 with fail
  rw [show k + 14 - (1 + k) = 13 by omega]
  obtain ⟨y0, hy0⟩ : ∃ y, ns[1 + k + 0]? = some y := ⟨_, List.getElem?_eq_getElem (by rw [HK1.out]; omega)⟩
  have HY0 := Lib.hid hy0
  obtain ⟨y1, hy1⟩ : ∃ y, ns[1 + k + 1]? = some y := ⟨_, List.getElem?_eq_getElem (by rw [HK1.out]; omega)⟩
  have HY1 := Lib.hid hy1
  obtain ⟨y2, hy2⟩ : ∃ y, ns[1 + k + 2]? = some y := ⟨_, List.getElem?_eq_getElem (by rw [HK1.out]; omega)⟩
  have HY2 := Lib.hid hy2
  obtain ⟨y3, hy3⟩ : ∃ y, ns[1 + k + 3]? = some y := ⟨_, List.getElem?_eq_getElem (by rw [HK1.out]; omega)⟩
  have HY3 := Lib.hid hy3
  obtain ⟨y4, hy4⟩ : ∃ y, ns[1 + k + 4]? = some y := ⟨_, List.getElem?_eq_getElem (by rw [HK1.out]; omega)⟩
  have HY4 := Lib.hid hy4
  obtain ⟨y5, hy5⟩ : ∃ y, ns[1 + k + 5]? = some y := ⟨_, List.getElem?_eq_getElem (by rw [HK1.out]; omega)⟩
  have HY5 := Lib.hid hy5
  obtain ⟨y6, hy6⟩ : ∃ y, ns[1 + k + 6]? = some y := ⟨_, List.getElem?_eq_getElem (by rw [HK1.out]; omega)⟩
  have HY6 := Lib.hid hy6
  obtain ⟨y7, hy7⟩ : ∃ y, ns[1 + k + 7]? = some y := ⟨_, List.getElem?_eq_getElem (by rw [HK1.out]; omega)⟩
  have HY7 := Lib.hid hy7
  obtain ⟨y8, hy8⟩ : ∃ y, ns[1 + k + 8]? = some y := ⟨_, List.getElem?_eq_getElem (by rw [HK1.out]; omega)⟩
  have HY8 := Lib.hid hy8
  obtain ⟨y9, hy9⟩ : ∃ y, ns[1 + k + 9]? = some y := ⟨_, List.getElem?_eq_getElem (by rw [HK1.out]; omega)⟩
  have HY9 := Lib.hid hy9
  obtain ⟨y10, hy10⟩ : ∃ y, ns[1 + k + 10]? = some y := ⟨_, List.getElem?_eq_getElem (by rw [HK1.out]; omega)⟩
  have HY10 := Lib.hid hy10
  obtain ⟨y11, hy11⟩ : ∃ y, ns[1 + k + 11]? = some y := ⟨_, List.getElem?_eq_getElem (by rw [HK1.out]; omega)⟩
  have HY11 := Lib.hid hy11
  obtain ⟨y12, hy12⟩ : ∃ y, ns[1 + k + 12]? = some y := ⟨_, List.getElem?_eq_getElem (by rw [HK1.out]; omega)⟩
  have HY12 := Lib.hid hy12
  have HS : Hid (∀ wx, Below ob wc wx → ∀ j y, ns[1 + k + j]? = some y → wx.cell? ⟨g1, 1 + k + j, none⟩ = some (.int .i64 y)) := Lib.hid (fun wx hb j y h => (hb.cell (p := ⟨g1, 1 + k + j, none⟩) hg1b).trans (HC3.out _ _ h))
  clear hy0 hy1 hy2 hy3 hy4 hy5 hy6 hy7 hy8 hy9 hy10 hy11 hy12 f3
  have HW : Hid (Blk wc ob 35 (nmCells ⟨x0.toArray⟩ (.slice C k cc)) ∧ Below ob wc wc) := Lib.hid ⟨HO3.out, Below.refl _ _⟩
  (refine wp_region_held_drew (S := (fun w' => w'.cell? ⟨g1, 1 + k, none⟩ = some (.int .i64 y0) ∧ w'.cell? ⟨g1, 1 + k+ 1, none⟩ = some (.int .i64 y1) ∧ w'.cell? ⟨g1, 1 + k+ 2, none⟩ = some (.int .i64 y2) ∧ w'.cell? ⟨g1, 1 + k+ 3, none⟩ = some (.int .i64 y3))) (by kernel_rfl) ?_ (fun hHeld => ?_))
  ·exact ⟨HS.out _ HW.out.2 0 _ HY0.out, HS.out _ HW.out.2 1 _ HY1.out, HS.out _ HW.out.2 2 _ HY2.out, HS.out _ HW.out.2 3 _ HY3.out⟩
  (refine lib.tk 0 ?_ rfl (by kernel_rfl) (fun _ _ _ h => h) ?_ (by assumption) ?_; rotate_left; (focus (intro w hSw; (try dsimp only at hSw); go_simp; all_goals with_reducible rfl)); (try simp only [lib.hly]))
  (refine lib.tk 1 ?_ rfl (by kernel_rfl) (fun _ _ _ h => h) ?_ (by assumption) ?_; rotate_left; (focus (intro w hSw; (try dsimp only at hSw); go_simp; all_goals with_reducible rfl)); (try simp only [lib.hly]))
  (refine lib.tk 2 ?_ rfl (by kernel_rfl) (fun _ _ _ h => h) ?_ (by assumption) ?_; rotate_left; (focus (intro w hSw; (try dsimp only at hSw); go_simp; all_goals with_reducible rfl)); (try simp only [lib.hly]))
  (refine lib.tk 3 ?_ rfl (by kernel_rfl) (fun _ _ _ h => h) ?_ (by assumption) ?_; rotate_left; (focus (intro w hSw; (try dsimp only at hSw); go_simp; all_goals with_reducible rfl)); (try simp only [lib.hly]))
  (refine lib.tk 4 ?_ rfl (by kernel_rfl) (fun _ _ _ h => h) ?_ (by assumption) ?_; rotate_left; (focus (intro w hSw; (try dsimp only at hSw); go_simp; all_goals with_reducible rfl)); (try simp only [lib.hly]))
  (refine lib.tk 5 ?_ rfl (by kernel_rfl) (fun _ _ _ h => h) ?_ (by assumption) ?_; rotate_left; (focus (intro w hSw; (try dsimp only at hSw); go_simp; all_goals with_reducible rfl)); (try simp only [lib.hly]))
  (refine lib.tk 6 ?_ rfl (by kernel_rfl) (fun _ _ _ h => h) ?_ (by assumption) ?_; rotate_left; (focus (intro w hSw; (try dsimp only at hSw); go_simp; all_goals with_reducible rfl)); (try simp only [lib.hly]))
  (refine lib.tk 7 ?_ rfl (by kernel_rfl) (fun _ _ _ h => h) ?_ (by assumption) ?_; rotate_left; (focus (intro w hSw; (try dsimp only at hSw); go_simp; all_goals with_reducible rfl)); (try simp only [lib.hly]))
  (refine lib.tk 8 ?_ rfl (by kernel_rfl) (fun _ _ _ h => h) ?_ (by assumption) ?_; rotate_left; (focus (intro w hSw; (try dsimp only at hSw); go_simp; all_goals with_reducible rfl)); (try simp only [lib.hly]))
  (refine lib.tk 9 ?_ rfl (by kernel_rfl) (fun _ _ _ h => h) ?_ (by assumption) ?_; rotate_left; (focus (intro w hSw; (try dsimp only at hSw); go_simp; all_goals with_reducible rfl)); (try simp only [lib.hly]))
  (refine lib.tk 10 ?_ rfl (by kernel_rfl) (fun _ _ _ h => h) ?_ (by assumption) ?_; rotate_left; (focus (intro w hSw; (try dsimp only at hSw); go_simp; all_goals with_reducible rfl)); (try simp only [lib.hly]))
  (refine lib.tk 11 ?_ rfl (by kernel_rfl) (fun _ _ _ h => h) ?_ (by assumption) ?_; rotate_left; (focus (intro w hSw; (try dsimp only at hSw); go_simp; all_goals with_reducible rfl)); (try simp only [lib.hly]))
  (refine lib.tk 12 ?_ rfl (by kernel_rfl) (fun _ _ _ h => h) ?_ (by assumption) ?_; rotate_left; (focus (intro w hSw; (try dsimp only at hSw); go_simp; all_goals with_reducible rfl)); (try simp only [lib.hly]))
  (refine lib.tk 13 ?_ rfl (by kernel_rfl) (fun _ _ _ h => h) ?_ (by assumption) ?_; rotate_left; (focus (intro w hSw; (try dsimp only at hSw); go_simp; all_goals with_reducible rfl)); (try simp only [lib.hly]))
  (refine wpAnyH_ready (rs := [14]) (by kernel_rfl) (by simp) ?_; refine AllReadyH.cons rfl (fun K hK => ?_) AllReadyH.nil)
  have hO4 : Blk wc.drew ob 35 (nmCells ⟨x0.toArray⟩ (.slice C k cc)) := HW.out.1
  have hst : Blk (wc.drew.setCells ob 2 (zF ⟨y0, y1, y2, y3⟩)) ob 35 (setM (nmCells ⟨x0.toArray⟩ (.slice C k cc)) 2 (zF ⟨y0, y1, y2, y3⟩)) ∧ Below ob wc.drew (wc.drew.setCells ob 2 (zF ⟨y0, y1, y2, y3⟩)) := blk_setCells _ _ _ _ hO4
  refine yF stStp rfl _ _ rfl ob 2 (zF ⟨y0, y1, y2, y3⟩) rfl rfl (blk_there hO4 (by simp [nmCells, setM, zF])) rfl (by simp [zF]; exact ⟨rfl, rfl, rfl, rfl⟩) ?_
  obtain ⟨w4, hw4⟩ : ∃ W, wc.drew.setCells ob 2 (zF ⟨y0, y1, y2, y3⟩) = W := ⟨_, rfl⟩
  rw [hw4] at hst ⊢
  have HW2 : Hid (Blk w4 ob 35 (setM (nmCells ⟨x0.toArray⟩ (.slice C k cc)) 2 (zF ⟨y0, y1, y2, y3⟩)) ∧ Below ob wc w4) := Lib.hid ⟨hst.1, HW.out.2.drew.trans hst.2⟩
  refine hK.out _ _ (⟨HS.out _ HW2.out.2 0 _ HY0.out, HS.out _ HW2.out.2 1 _ HY1.out, HS.out _ HW2.out.2 2 _ HY2.out, HS.out _ HW2.out.2 3 _ HY3.out⟩) (fun hHeld => ?_)
  clear hK K
  (try simp only [lib.hly])
  (refine wpAnyH_done (by kernel_rfl) ?_ _)
  have HW := HW2
  clear HW2 hO4 hst hw4
  go_upto_region 11 with fail
  (refine wp_region_held_drew (S := (fun w' => w'.cell? ⟨g1, 1 + k+ 4, none⟩ = some (.int .i64 y4) ∧ w'.cell? ⟨g1, 1 + k+ 5, none⟩ = some (.int .i64 y5) ∧ w'.cell? ⟨g1, 1 + k+ 6, none⟩ = some (.int .i64 y6) ∧ w'.cell? ⟨g1, 1 + k+ 7, none⟩ = some (.int .i64 y7))) (by kernel_rfl) ?_ (fun hHeld => ?_))
  ·exact ⟨HS.out _ HW.out.2 4 _ HY4.out, HS.out _ HW.out.2 5 _ HY5.out, HS.out _ HW.out.2 6 _ HY6.out, HS.out _ HW.out.2 7 _ HY7.out⟩
  (refine lib.tk 0 ?_ rfl (by kernel_rfl) (fun _ _ _ h => h) ?_ (by assumption) ?_; rotate_left; (focus (intro w hSw; (try dsimp only at hSw); go_simp; all_goals with_reducible rfl)); (try simp only [lib.hly]))
  (refine lib.tk 1 ?_ rfl (by kernel_rfl) (fun _ _ _ h => h) ?_ (by assumption) ?_; rotate_left; (focus (intro w hSw; (try dsimp only at hSw); go_simp; all_goals with_reducible rfl)); (try simp only [lib.hly]))
  (refine lib.tk 2 ?_ rfl (by kernel_rfl) (fun _ _ _ h => h) ?_ (by assumption) ?_; rotate_left; (focus (intro w hSw; (try dsimp only at hSw); go_simp; all_goals with_reducible rfl)); (try simp only [lib.hly]))
  (refine lib.tk 3 ?_ rfl (by kernel_rfl) (fun _ _ _ h => h) ?_ (by assumption) ?_; rotate_left; (focus (intro w hSw; (try dsimp only at hSw); go_simp; all_goals with_reducible rfl)); (try simp only [lib.hly]))
  (refine lib.tk 4 ?_ rfl (by kernel_rfl) (fun _ _ _ h => h) ?_ (by assumption) ?_; rotate_left; (focus (intro w hSw; (try dsimp only at hSw); go_simp; all_goals with_reducible rfl)); (try simp only [lib.hly]))
  (refine lib.tk 5 ?_ rfl (by kernel_rfl) (fun _ _ _ h => h) ?_ (by assumption) ?_; rotate_left; (focus (intro w hSw; (try dsimp only at hSw); go_simp; all_goals with_reducible rfl)); (try simp only [lib.hly]))
  (refine lib.tk 6 ?_ rfl (by kernel_rfl) (fun _ _ _ h => h) ?_ (by assumption) ?_; rotate_left; (focus (intro w hSw; (try dsimp only at hSw); go_simp; all_goals with_reducible rfl)); (try simp only [lib.hly]))
  (refine lib.tk 7 ?_ rfl (by kernel_rfl) (fun _ _ _ h => h) ?_ (by assumption) ?_; rotate_left; (focus (intro w hSw; (try dsimp only at hSw); go_simp; all_goals with_reducible rfl)); (try simp only [lib.hly]))
  (refine lib.tk 8 ?_ rfl (by kernel_rfl) (fun _ _ _ h => h) ?_ (by assumption) ?_; rotate_left; (focus (intro w hSw; (try dsimp only at hSw); go_simp; all_goals with_reducible rfl)); (try simp only [lib.hly]))
  (refine lib.tk 9 ?_ rfl (by kernel_rfl) (fun _ _ _ h => h) ?_ (by assumption) ?_; rotate_left; (focus (intro w hSw; (try dsimp only at hSw); go_simp; all_goals with_reducible rfl)); (try simp only [lib.hly]))
  (refine lib.tk 10 ?_ rfl (by kernel_rfl) (fun _ _ _ h => h) ?_ (by assumption) ?_; rotate_left; (focus (intro w hSw; (try dsimp only at hSw); go_simp; all_goals with_reducible rfl)); (try simp only [lib.hly]))
  (refine lib.tk 11 ?_ rfl (by kernel_rfl) (fun _ _ _ h => h) ?_ (by assumption) ?_; rotate_left; (focus (intro w hSw; (try dsimp only at hSw); go_simp; all_goals with_reducible rfl)); (try simp only [lib.hly]))
  (refine lib.tk 12 ?_ rfl (by kernel_rfl) (fun _ _ _ h => h) ?_ (by assumption) ?_; rotate_left; (focus (intro w hSw; (try dsimp only at hSw); go_simp; all_goals with_reducible rfl)); (try simp only [lib.hly]))
  (refine lib.tk 13 ?_ rfl (by kernel_rfl) (fun _ _ _ h => h) ?_ (by assumption) ?_; rotate_left; (focus (intro w hSw; (try dsimp only at hSw); go_simp; all_goals with_reducible rfl)); (try simp only [lib.hly]))
  (refine wpAnyH_ready (rs := [14]) (by kernel_rfl) (by simp) ?_; refine AllReadyH.cons rfl (fun K hK => ?_) AllReadyH.nil)
  have hO4 : Blk w4.drew ob 35 (setM (nmCells ⟨x0.toArray⟩ (.slice C k cc)) 2 (zF ⟨y0, y1, y2, y3⟩)) := HW.out.1
  have hst : Blk (w4.drew.setCells ob 6 (zF ⟨y4, y5, y6, y7⟩)) ob 35 (setM (setM (nmCells ⟨x0.toArray⟩ (.slice C k cc)) 2 (zF ⟨y0, y1, y2, y3⟩)) 6 (zF ⟨y4, y5, y6, y7⟩)) ∧ Below ob w4.drew (w4.drew.setCells ob 6 (zF ⟨y4, y5, y6, y7⟩)) := blk_setCells _ _ _ _ hO4
  refine yF stStp rfl _ _ rfl ob 6 (zF ⟨y4, y5, y6, y7⟩) rfl rfl (blk_there hO4 (by simp [nmCells, setM, zF])) rfl (by simp [zF]; exact ⟨rfl, rfl, rfl, rfl⟩) ?_
  obtain ⟨w5, hw5⟩ : ∃ W, w4.drew.setCells ob 6 (zF ⟨y4, y5, y6, y7⟩) = W := ⟨_, rfl⟩
  rw [hw5] at hst ⊢
  have HW2 : Hid (Blk w5 ob 35 (setM (setM (nmCells ⟨x0.toArray⟩ (.slice C k cc)) 2 (zF ⟨y0, y1, y2, y3⟩)) 6 (zF ⟨y4, y5, y6, y7⟩)) ∧ Below ob wc w5) := Lib.hid ⟨hst.1, HW.out.2.drew.trans hst.2⟩
  refine hK.out _ _ (⟨HS.out _ HW2.out.2 4 _ HY4.out, HS.out _ HW2.out.2 5 _ HY5.out, HS.out _ HW2.out.2 6 _ HY6.out, HS.out _ HW2.out.2 7 _ HY7.out⟩) (fun hHeld => ?_)
  clear hK K
  (try simp only [lib.hly])
  (refine wpAnyH_done (by kernel_rfl) ?_ _)
  have HW := HW2
  clear HW2 hO4 hst hw5
  obtain ⟨c12, hc12⟩ : ∃ cs, setM (setM (nmCells ⟨x0.toArray⟩ (.slice C k cc)) 2 (zF ⟨y0, y1, y2, y3⟩)) 6 (zF ⟨y4, y5, y6, y7⟩) = cs := ⟨_, rfl⟩
  have hc12' : c12 = [.string ⟨x0.toArray⟩, .slice C k cc, .int .i64 y0, .int .i64 y1, .int .i64 y2, .int .i64 y3, .int .i64 y4, .int .i64 y5, .int .i64 y6, .int .i64 y7, .int .i64 0, .int .i64 0, .int .i64 0, .int .i64 0, .int .i64 0, .bool false] := by rw [← hc12]; rfl
  rw [hc12, hc12'] at HW
  clear hc12 hc12'
  go_upto_region 12 with fail
  (refine wp_region_held_drew (S := (fun w' => w'.cell? ⟨g1, 1 + k + 8, none⟩ = some (.int .i64 y8) ∧ w'.cell? ⟨g1, 1 + k + 9, none⟩ = some (.int .i64 y9) ∧ w'.cell? ⟨g1, 1 + k + 10, none⟩ = some (.int .i64 y10) ∧ w'.cell? ⟨g1, 1 + k + 11, none⟩ = some (.int .i64 y11) ∧ w'.cell? ⟨g1, 1 + k + 12, none⟩ = some (.int .i64 y12))) (by kernel_rfl) ?_ (fun hHeld => ?_))
  ·exact ⟨HS.out _ HW.out.2 8 _ HY8.out, HS.out _ HW.out.2 9 _ HY9.out, HS.out _ HW.out.2 10 _ HY10.out, HS.out _ HW.out.2 11 _ HY11.out, HS.out _ HW.out.2 12 _ HY12.out⟩
  obtain ⟨w6, hw6⟩ : ∃ W, w5.drew = W := ⟨_, rfl⟩
  have HWd : Hid (Blk w6 ob 35 [.string ⟨x0.toArray⟩, .slice C k cc, .int .i64 y0, .int .i64 y1, .int .i64 y2, .int .i64 y3, .int .i64 y4, .int .i64 y5, .int .i64 y6, .int .i64 y7, .int .i64 0, .int .i64 0, .int .i64 0, .int .i64 0, .int .i64 0, .bool false] ∧ Below ob wc w6) := Lib.hid (by rw [← hw6]; exact ⟨HW.out.1, HW.out.2.drew⟩)
  rw [hw6] at hHeld ⊢
  have HW := HWd
  clear HWd hw6
  (refine lib.tk 0 ?_ rfl (by kernel_rfl) (fun _ _ _ h => h) ?_ (by assumption) ?_; rotate_left; (focus (intro w hSw; (try dsimp only at hSw); go_simp; all_goals with_reducible rfl)); (try simp only [lib.hly]))
  (refine lib.tk 1 ?_ rfl (by kernel_rfl) (fun _ _ _ h => h) ?_ (by assumption) ?_; rotate_left; (focus (intro w hSw; (try dsimp only at hSw); go_simp; all_goals with_reducible rfl)); (try simp only [lib.hly]))
  (refine lib.tk 2 ?_ rfl (by kernel_rfl) (fun _ _ _ h => h) ?_ (by assumption) ?_; rotate_left; (focus (intro w hSw; (try dsimp only at hSw); go_simp; all_goals with_reducible rfl)); (try simp only [lib.hly]))
  (refine lib.tk 3 ?_ rfl (by kernel_rfl) (fun _ _ _ h => h) ?_ (by assumption) ?_; rotate_left; (focus (intro w hSw; (try dsimp only at hSw); go_simp; all_goals with_reducible rfl)); (try simp only [lib.hly]))
  (refine lib.tk 4 ?_ rfl (by kernel_rfl) (fun _ _ _ h => h) ?_ (by assumption) ?_; rotate_left; (focus (intro w hSw; (try dsimp only at hSw); go_simp; all_goals with_reducible rfl)); (try simp only [lib.hly]))
  (refine lib.tk 5 ?_ rfl (by kernel_rfl) (fun _ _ _ h => h) ?_ (by assumption) ?_; rotate_left; (focus (intro w hSw; (try dsimp only at hSw); go_simp; all_goals with_reducible rfl)); (try simp only [lib.hly]))
  (refine lib.tk 6 ?_ rfl (by kernel_rfl) (fun _ _ _ h => h) ?_ (by assumption) ?_; rotate_left; (focus (intro w hSw; (try dsimp only at hSw); go_simp; all_goals with_reducible rfl)); (try simp only [lib.hly]))
  (refine lib.tk 7 ?_ rfl (by kernel_rfl) (fun _ _ _ h => h) ?_ (by assumption) ?_; rotate_left; (focus (intro w hSw; (try dsimp only at hSw); go_simp; all_goals with_reducible rfl)); (try simp only [lib.hly]))
  (refine lib.tk 8 ?_ rfl (by kernel_rfl) (fun _ _ _ h => h) ?_ (by assumption) ?_; rotate_left; (focus (intro w hSw; (try dsimp only at hSw); go_simp; all_goals with_reducible rfl)); (try simp only [lib.hly]))
  (refine lib.tk 9 ?_ rfl (by kernel_rfl) (fun _ _ _ h => h) ?_ (by assumption) ?_; rotate_left; (focus (intro w hSw; (try dsimp only at hSw); go_simp; all_goals with_reducible rfl)); (try simp only [lib.hly]))
  (refine lib.tk 10 ?_ rfl (by kernel_rfl) (fun _ _ _ h => h) ?_ (by assumption) ?_; rotate_left; (focus (intro w hSw; (try dsimp only at hSw); go_simp; all_goals with_reducible rfl)); (try simp only [lib.hly]))
  (refine lib.tk 11 ?_ rfl (by kernel_rfl) (fun _ _ _ h => h) ?_ (by assumption) ?_; rotate_left; (focus (intro w hSw; (try dsimp only at hSw); go_simp; all_goals with_reducible rfl)); (try simp only [lib.hly]))
  (refine lib.tk 12 ?_ rfl (by kernel_rfl) (fun _ _ _ h => h) ?_ (by assumption) ?_; rotate_left; (focus (intro w hSw; (try dsimp only at hSw); go_simp; all_goals with_reducible rfl)); (try simp only [lib.hly]))
  (refine lib.tk 13 ?_ rfl (by kernel_rfl) (fun _ _ _ h => h) ?_ (by assumption) ?_; rotate_left; (focus (intro w hSw; (try dsimp only at hSw); go_simp; all_goals with_reducible rfl)); (try simp only [lib.hly]))
  (refine lib.tk 14 ?_ rfl (by kernel_rfl) (fun _ _ _ h => h) ?_ (by assumption) ?_; rotate_left; (focus (intro w hSw; (try dsimp only at hSw); go_simp; all_goals with_reducible rfl)); (try simp only [lib.hly]))
  (refine lib.tk 15 ?_ rfl (by kernel_rfl) (fun _ _ _ h => h) ?_ (by assumption) ?_; rotate_left; (focus (intro w hSw; (try dsimp only at hSw); go_simp; all_goals with_reducible rfl)); (try simp only [lib.hly]))
  have fc := HW.out.1.cell (j := 10) rfl
  have ff := HW.out.1.frozen 10
  (refine wpAnyH_ready (rs := [16]) (by kernel_rfl) (by simp) ?_; refine AllReadyH.cons rfl (fun K hK => ?_) AllReadyH.nil)
  go_simp
  clear fc ff
  obtain ⟨w7, hw7⟩ : ∃ W, w6.setCell ⟨ob, 10, none⟩ (.int .i64 y8) = W := ⟨_, rfl⟩
  rw [hw7]
  have HW2 : Hid (Blk w7 ob 35 (List.set ([.string ⟨x0.toArray⟩, .slice C k cc, .int .i64 y0, .int .i64 y1, .int .i64 y2, .int .i64 y3, .int .i64 y4, .int .i64 y5, .int .i64 y6, .int .i64 y7, .int .i64 0, .int .i64 0, .int .i64 0, .int .i64 0, .int .i64 0, .bool false]) 10 (.int .i64 y8)) ∧ Below ob wc w7) := Lib.hid (by rw [← hw7]; exact ⟨HW.out.1.set _ _, HW.out.2.setCell (p := ⟨ob, 10, none⟩) (Nat.le_refl _) _⟩)
  have HW := HW2
  clear HW2 hw7
  refine hK.out _ _ (⟨HS.out _ HW.out.2 8 _ HY8.out, HS.out _ HW.out.2 9 _ HY9.out, HS.out _ HW.out.2 10 _ HY10.out, HS.out _ HW.out.2 11 _ HY11.out, HS.out _ HW.out.2 12 _ HY12.out⟩) (fun hHeld => ?_)
  clear hK K
  (try simp only [lib.hly])
  (refine lib.tk 17 ?_ rfl (by kernel_rfl) (fun _ _ _ h => h) ?_ (by assumption) ?_; rotate_left; (focus (intro w hSw; (try dsimp only at hSw); go_simp; all_goals with_reducible rfl)); (try simp only [lib.hly]))
  have fc := HW.out.1.cell (j := 11) rfl
  have ff := HW.out.1.frozen 11
  (refine wpAnyH_ready (rs := [18]) (by kernel_rfl) (by simp) ?_; refine AllReadyH.cons rfl (fun K hK => ?_) AllReadyH.nil)
  go_simp
  clear fc ff
  obtain ⟨w8, hw8⟩ : ∃ W, w7.setCell ⟨ob, 11, none⟩ (.int .i64 y9) = W := ⟨_, rfl⟩
  rw [hw8]
  have HW2 : Hid (Blk w8 ob 35 (List.set ([.string ⟨x0.toArray⟩, .slice C k cc, .int .i64 y0, .int .i64 y1, .int .i64 y2, .int .i64 y3, .int .i64 y4, .int .i64 y5, .int .i64 y6, .int .i64 y7, .int .i64 y8, .int .i64 0, .int .i64 0, .int .i64 0, .int .i64 0, .bool false]) 11 (.int .i64 y9)) ∧ Below ob wc w8) := Lib.hid (by rw [← hw8]; exact ⟨HW.out.1.set _ _, HW.out.2.setCell (p := ⟨ob, 11, none⟩) (Nat.le_refl _) _⟩)
  have HW := HW2
  clear HW2 hw8
  refine hK.out _ _ (⟨HS.out _ HW.out.2 8 _ HY8.out, HS.out _ HW.out.2 9 _ HY9.out, HS.out _ HW.out.2 10 _ HY10.out, HS.out _ HW.out.2 11 _ HY11.out, HS.out _ HW.out.2 12 _ HY12.out⟩) (fun hHeld => ?_)
  clear hK K
  (try simp only [lib.hly])
  (refine lib.tk 19 ?_ rfl (by kernel_rfl) (fun _ _ _ h => h) ?_ (by assumption) ?_; rotate_left; (focus (intro w hSw; (try dsimp only at hSw); go_simp; all_goals with_reducible rfl)); (try simp only [lib.hly]))
  have fc := HW.out.1.cell (j := 12) rfl
  have ff := HW.out.1.frozen 12
  (refine wpAnyH_ready (rs := [20]) (by kernel_rfl) (by simp) ?_; refine AllReadyH.cons rfl (fun K hK => ?_) AllReadyH.nil)
  go_simp
  clear fc ff
  obtain ⟨w9, hw9⟩ : ∃ W, w8.setCell ⟨ob, 12, none⟩ (.int .i64 y10) = W := ⟨_, rfl⟩
  rw [hw9]
  have HW2 : Hid (Blk w9 ob 35 (List.set ([.string ⟨x0.toArray⟩, .slice C k cc, .int .i64 y0, .int .i64 y1, .int .i64 y2, .int .i64 y3, .int .i64 y4, .int .i64 y5, .int .i64 y6, .int .i64 y7, .int .i64 y8, .int .i64 y9, .int .i64 0, .int .i64 0, .int .i64 0, .bool false]) 12 (.int .i64 y10)) ∧ Below ob wc w9) := Lib.hid (by rw [← hw9]; exact ⟨HW.out.1.set _ _, HW.out.2.setCell (p := ⟨ob, 12, none⟩) (Nat.le_refl _) _⟩)
  have HW := HW2
  clear HW2 hw9
  refine hK.out _ _ (⟨HS.out _ HW.out.2 8 _ HY8.out, HS.out _ HW.out.2 9 _ HY9.out, HS.out _ HW.out.2 10 _ HY10.out, HS.out _ HW.out.2 11 _ HY11.out, HS.out _ HW.out.2 12 _ HY12.out⟩) (fun hHeld => ?_)
  clear hK K
  (try simp only [lib.hly])
  (refine lib.tk 21 ?_ rfl (by kernel_rfl) (fun _ _ _ h => h) ?_ (by assumption) ?_; rotate_left; (focus (intro w hSw; (try dsimp only at hSw); go_simp; all_goals with_reducible rfl)); (try simp only [lib.hly]))
  have fc := HW.out.1.cell (j := 13) rfl
  have ff := HW.out.1.frozen 13
  (refine wpAnyH_ready (rs := [22]) (by kernel_rfl) (by simp) ?_; refine AllReadyH.cons rfl (fun K hK => ?_) AllReadyH.nil)
  go_simp
  clear fc ff
  obtain ⟨w10, hw10⟩ : ∃ W, w9.setCell ⟨ob, 13, none⟩ (.int .i64 y11) = W := ⟨_, rfl⟩
  rw [hw10]
  have HW2 : Hid (Blk w10 ob 35 (List.set ([.string ⟨x0.toArray⟩, .slice C k cc, .int .i64 y0, .int .i64 y1, .int .i64 y2, .int .i64 y3, .int .i64 y4, .int .i64 y5, .int .i64 y6, .int .i64 y7, .int .i64 y8, .int .i64 y9, .int .i64 y10, .int .i64 0, .int .i64 0, .bool false]) 13 (.int .i64 y11)) ∧ Below ob wc w10) := Lib.hid (by rw [← hw10]; exact ⟨HW.out.1.set _ _, HW.out.2.setCell (p := ⟨ob, 13, none⟩) (Nat.le_refl _) _⟩)
  have HW := HW2
  clear HW2 hw10
  refine hK.out _ _ (⟨HS.out _ HW.out.2 8 _ HY8.out, HS.out _ HW.out.2 9 _ HY9.out, HS.out _ HW.out.2 10 _ HY10.out, HS.out _ HW.out.2 11 _ HY11.out, HS.out _ HW.out.2 12 _ HY12.out⟩) (fun hHeld => ?_)
  clear hK K
  (try simp only [lib.hly])
  (refine lib.tk 23 ?_ rfl (by kernel_rfl) (fun _ _ _ h => h) ?_ (by assumption) ?_; rotate_left; (focus (intro w hSw; (try dsimp only at hSw); go_simp; all_goals with_reducible rfl)); (try simp only [lib.hly]))
  have fc := HW.out.1.cell (j := 14) rfl
  have ff := HW.out.1.frozen 14
  (refine wpAnyH_ready (rs := [24]) (by kernel_rfl) (by simp) ?_; refine AllReadyH.cons rfl (fun K hK => ?_) AllReadyH.nil)
  go_simp
  clear fc ff
  obtain ⟨w11, hw11⟩ : ∃ W, w10.setCell ⟨ob, 14, none⟩ (.int .i64 y12) = W := ⟨_, rfl⟩
  rw [hw11]
  have HW2 : Hid (Blk w11 ob 35 (List.set ([.string ⟨x0.toArray⟩, .slice C k cc, .int .i64 y0, .int .i64 y1, .int .i64 y2, .int .i64 y3, .int .i64 y4, .int .i64 y5, .int .i64 y6, .int .i64 y7, .int .i64 y8, .int .i64 y9, .int .i64 y10, .int .i64 y11, .int .i64 0, .bool false]) 14 (.int .i64 y12)) ∧ Below ob wc w11) := Lib.hid (by rw [← hw11]; exact ⟨HW.out.1.set _ _, HW.out.2.setCell (p := ⟨ob, 14, none⟩) (Nat.le_refl _) _⟩)
  have HW := HW2
  clear HW2 hw11
  refine hK.out _ _ (⟨HS.out _ HW.out.2 8 _ HY8.out, HS.out _ HW.out.2 9 _ HY9.out, HS.out _ HW.out.2 10 _ HY10.out, HS.out _ HW.out.2 11 _ HY11.out, HS.out _ HW.out.2 12 _ HY12.out⟩) (fun hHeld => ?_)
  clear hK K
  (try simp only [lib.hly])
  (refine wpAnyH_done (by kernel_rfl) ?_ _)
  obtain ⟨o, ho⟩ : ∃ o, ordM x0 (k : Int).toNat ns = o := ⟨_, rfl⟩
  have hcs : [.string ⟨x0.toArray⟩, .slice C k cc, .int .i64 y0, .int .i64 y1, .int .i64 y2, .int .i64 y3, .int .i64 y4, .int .i64 y5, .int .i64 y6, .int .i64 y7, .int .i64 y8, .int .i64 y9, .int .i64 y10, .int .i64 y11, .int .i64 y12, .bool false] = zA o C cc ∧ o.load = (ns.drop 1).take k := by
   have hg : ∀ (j : Nat) (y : Int), ns[1 + k + j]? = some y → ns[k + 1 + j]?.getD 0 = y := fun j y h => by rw [show k + 1 + j = 1 + k + j by omega, h]; rfl
   have hl : ((ns.drop 1).take k).length = k := by rw [List.length_take, List.length_drop, HK1.out]; omega
   rw [← ho, Int.toNat_natCast]
   unfold ordM
   simp only [hg 0 _ HY0.out, hg 1 _ HY1.out, hg 2 _ HY2.out, hg 3 _ HY3.out, hg 4 _ HY4.out, hg 5 _ HY5.out, hg 6 _ HY6.out, hg 7 _ HY7.out, hg 8 _ HY8.out, hg 9 _ HY9.out, hg 10 _ HY10.out, hg 11 _ HY11.out, hg 12 _ HY12.out, zA, hl, and_true]
  rw [ho] at HRS
  have HOL := Lib.hid hcs.2
  have HW3 : Hid (Blk w11 ob 35 (zA o C cc) ∧ Below ob wc w11) := Lib.hid (by rw [← hcs.1]; exact HW.out)
  have HR9 : Hid (Blk w11 rb 35 zOrd) := Lib.hid ((HW3.out.2.block rb (by omega)).trans ((HB3.out.block rb zz).trans HR0w.out))
  clear ho hcs HW
  go_wp2_with (first
   | ((with_reducible refine zH stOrd' _ rfl ⟨ob, 0, none⟩ (zA o C cc) ?_ ?_ ?_ ?_ ?_); exact rfl; exact rfl; exact HW3.out.1.cells; exact rfl)
   | ((with_reducible refine zJ stOrd' rfl _ _ rfl rb zOrd (zA o C cc) ?_ ?_ ?_ ?_ ?_ (zR _ _ _) ?_); exact rfl; exact rfl; exact HR9.out; exact rfl; exact rfl; intro wz k1 k2 k3 k4; have K := lib.h4 k1 k2 k3 k4; clear k1 k2 k3 k4))
  have HRz : Blk wz rb 35 (zA o C cc) := K.out.1
  refine bodyPost_ret (v := .tuple #[.agg (zA o C cc).toArray, .bool true]) (big.zK stOrd' Tryz.results129 rfl rfl HRz.cells rfl) rfl ?_
  have hbw : Below w.heap.size w w11 := HB0.out.trans ((HB3.out.mono z0).trans (HW3.out.2.mono (by omega)))
  have hbz : Below w.heap.size w wz := hbw.trans (K.out.2.2.2.mono hrb)
  refine ⟨hbz, .inr ⟨o, C, cc, HRS.out, rfl, ?_⟩⟩
  have hgz : ∀ j, wz.cell? ⟨g1, j, none⟩ = wc.cell? ⟨g1, j, none⟩ := fun j => (World.cell?_of_block (K.out.2.1 g1 (by omega))).trans (HW3.out.2.cell (p := ⟨g1, j, none⟩) hg1b)
  have hll : o.load.length = k := by rw [HOL.out, List.length_take, List.length_drop, HK1.out]; omega
  refine ⟨⟨⟨by simp, fun h0 => ?_⟩, by omega⟩, fun h0 => ?_⟩
  rotate_left
  ·rcases hC with ⟨hk0, _⟩ | hC
   ·omega
   ·exact ⟨_, hC, by show w.heap.size ≤ g1; omega⟩
  rcases hC with ⟨hk0, _⟩ | hC
  ·omega
  ·refine ⟨_, hC, ?_, fun j u hu => ?_⟩
   ·have h1 := hbz.size
    show g1 < wz.heap.size
    have h2 := K.out.2.2.1
    have h3 := HW3.out.2.size
    omega
   ·rw [List.getElem?_map, HOL.out] at hu
    have hj : j < k := by
     rcases Nat.lt_or_ge j k with h | h
     ·exact h
     ·rw [List.getElem?_eq_none (by rw [List.length_take]; omega)] at hu; cases hu
    rw [List.getElem?_take, if_pos hj, List.getElem?_drop] at hu
    obtain ⟨y, hy, rfl⟩ := Option.map_eq_some_iff.1 hu
    show wz.cell? (Addr.add ⟨g1, 1, none⟩ j) = _
    rw [Addr.add_mid, hgz]
    exact HC3.out _ _ hy
end Go.Proofs.YtofabhenmplkoaaGreatDoor.evt
namespace Go.Proofs.YtofabhenmplkoaaGreatDoor.evt
open Go.RowKit
open lib rd app els typ big ins ord
open gen hiding zOrd bOrd
open off (setM yF yJ zU)
open txt (in64 By strV strV_of joinS decW decW_any Tabs elem_str nameB name_any yA Strs numL number_any own_cap)
def zE : Evt := ⟨0, 0, 0, 0, 0, ordO⟩
def evZ (k : Int) : Evt := ⟨0, k, 0, 0, 0, ordO⟩
theorem bEvt : BuildOf 37 (.agg (z8 zE none 0).toArray) #[(0, 1), (1, 1), (2, 1), (3, 1), (4, 1), (5, 16)] := ⟨⟨_, Tryz.underlying37, fun w => by kernel_rfl⟩, fun w => by kernel_rfl⟩
theorem evt_fill0 : Instr.fill ((#[(0, 1), (1, 1), (2, 1), (3, 1), (4, 1), (5, 16)] : Array (Nat × Nat))[·]?) (Value.agg (z8 zE none 0).toArray).cells [] = some (z8 zE none 0).toArray := by kernel_rfl
theorem evt_fill1 (k : Int) : Instr.fill ((#[(0, 1), (1, 1), (2, 1), (3, 1), (4, 1), (5, 16)] : Array (Nat × Nat))[·]?) (Value.agg (z8 zE none 0).toArray).cells [(1, .int .i64 k)] = some (z8 (evZ k) none 0).toArray := by kernel_rfl
theorem yB (e : Evt) (C : Option Addr) (c : Nat) : ∀ u ∈ z8 e C c, u.oneCell' = true := fun u hu => by
 simp only [z8, List.mem_cons, List.not_mem_nil, or_false] at hu
 rcases hu with rfl | rfl | rfl | rfl | rfl | rfl | rfl | rfl | rfl | rfl | rfl | rfl | rfl | rfl | rfl | rfl | rfl | rfl | rfl | rfl | rfl <;> rfl
def kTo (x : By) : Nat → Int
 | 0 => 0
 | k + 1 => if x = (wordS ((k + 1 : Nat) : Int)).data.toList then ((k + 1 : Nat) : Int) else kTo x k
theorem kTo_five (x : By) : kTo x 5 = kindF x := rfl
theorem Strs.dropS {w : World} {B : Nat} {ad : Addr} {L : List By} (h : Strs w B (some ad) L) (k : Nat) (hk : k ≤ L.length) : Strs w B (some (ad.add k)) (L.drop k) := by
 obtain ⟨⟨h1, h2⟩, h3⟩ := h
 refine ⟨⟨by simp, fun h0 => ?_⟩, by rw [List.length_drop]; omega⟩
 rw [List.length_drop] at h0
 obtain ⟨ad', e, hb, hc⟩ := h2 (by omega)
 obtain rfl := Option.some.inj e
 refine ⟨_, rfl, by rw [block_of_add]; exact hb, fun j u hu => ?_⟩
 rw [add_of_add]
 refine hc (k + j) u ?_
 rw [List.map_drop, List.getElem?_drop] at hu
 exact hu
theorem own_ints {w : World} {base c : Nat} {A : Option Addr} {l : List Int} (h : IOwn w base A c l) (h0 : 0 < l.length) : ∃ g, A = some ⟨g, 0, none⟩ ∧ base ≤ g ∧ g < w.heap.size ∧ ∀ (j : Nat) x, l[j]? = some x → w.cell? ⟨g, j, none⟩ = some (.int .i64 x) := by
 have h' := h
 unfold IOwn at h'
 obtain ⟨g, cap, hv, _, hlt⟩ := World.ownsRow.form h' h0
 injection hv with q1 _ _
 subst q1
 refine ⟨g, rfl, own_base h' g rfl, hlt, fun j x hx => ?_⟩
 have hj := (List.getElem?_eq_some_iff.1 hx).1
 have h2 := World.ownsRow.cellAt h' j (by omega)
 rw [h2, List.getElem?_map, hx]; rfl
theorem setM_one : ∀ {vs : List Value} {cs : List Value} (o : Nat), (∀ u ∈ cs, u.oneCell' = true) → (∀ u ∈ vs, u.oneCell' = true) → ∀ u ∈ setM cs o vs, u.oneCell' = true
 | [], cs, o, h, _ => h
 | v :: r, cs, o, h, h2 => setM_one (o + 1) (fun u hu => by
   rcases List.mem_or_eq_of_mem_set hu with h3 | rfl
   ·exact h u h3
   ·exact h2 _ (List.mem_cons_self ..)) (fun u hu => h2 u (List.mem_cons_of_mem _ hu))
theorem set_evt {k a : Int} {o : Ord} {C : Option Addr} {c : Nat} : setM ((z8 (evZ k) none 0).set 0 (.int .i64 a)) 5 (zA o C c) = z8 ⟨a, k, 0, 0, 0, o⟩ C c := by simp [setM, z8, zA, evZ]
def PaOut (w : World) (L : List By) (en : Ending) (w' : World) : Prop := Below w.heap.size w w' ∧
 ((parseF L = none ∧ ∃ cs : List Value, cs.length = 21 ∧ (∀ u ∈ cs, u.oneCell' = true) ∧ en = .returned (.tuple #[.agg cs.toArray, .bool false])) ∨ ∃ (e : Evt) (C : Option Addr) (c : Nat), parseF L = some e ∧ en = .returned (.tuple #[.agg (z8 e C c).toArray, .bool true]) ∧ yM w' (fun b => w.heap.size ≤ b) C e.order.load)
set_option maxRecDepth 20000 in
set_option maxHeartbeats 8000000 in
theorem parse_any (L : List By) (A : Option Addr) (n c : Nat) (hn : n = L.length) (hnc : n ≤ c) (w : World) (hL : Strs w w.heap.size A L) (hm : ∀ x ∈ L, x.length ≤ 100000) (ht : Tabs w) : Calls Tryz.prog 74 #[.slice A n c] w (PaOut w L) := by
 obtain ⟨W0, hW0⟩ : ∃ W0, w.alloc (.cells (z8 zE none 0).toArray 37) = W0 := ⟨_, rfl⟩
 have hB0 : Below w.heap.size w W0 := by rw [← hW0]; exact (Below.refl _ _).alloc (Nat.le_refl _) _
 have z0 := hB0.size
 have b0 : Blk W0 w.heap.size 37 (z8 zE none 0) := by rw [← hW0]; exact Blk.new w _ _
 obtain ⟨rb, hrb0⟩ : ∃ b, w.heap.size = b := ⟨_, rfl⟩
 have hrb : w.heap.size ≤ rb := by omega
 have zz : rb < W0.heap.size := by rw [← hrb0]; exact b0.lt
 have HB0 := Lib.hid hB0
 have HR0 := Lib.hid b0
 have HL := Lib.hid (hL.below hB0)
 have HM := Lib.hid hm
 have HN := Lib.hid hn
 have HT := Lib.hid (ht.below hB0)
 have HW0 := Lib.hid (show w.alloc (.cells #[.int .i64 0, .int .i64 0, .int .i64 0, .int .i64 0, .int .i64 0, .string ⟨#[]⟩, .slice none 0 0, .int .i64 0, .int .i64 0, .int .i64 0, .int .i64 0, .int .i64 0, .int .i64 0, .int .i64 0, .int .i64 0, .int .i64 0, .int .i64 0, .int .i64 0, .int .i64 0, .int .i64 0, .bool false] 37) = W0 from hW0)
 clear hL hm hn ht b0 hB0 hW0
 go_enter Tryz.func74, Tryz.ntmps74
 go_upto_region 1 with fail
 rw [HW0.out]
 rw [hrb0] at HR0
 clear HW0
 by_cases h2 : n < 2
 ·have HEE : Hid (parseF L = none) := Lib.hid (by
   have := HN.out
   cases L with
   | nil => rfl
   | cons x r =>
    cases r with
    | nil => rfl
    | cons y r => simp at this; omega)
  have h2' : (n : Int) < 2 := by omega
  go_wp2_with (first
   | ((with_reducible refine zP bEvt rfl [] rfl [] (z8 zE none 0) ?_ evt_fill0 ?_); exact rfl)
   | ((with_reducible refine zJ stEvt rfl _ _ rfl (rb) (z8 zE none 0) (z8 zE none 0) ?_ ?_ ?_ ?_ ?_ (yB _ _ _) ?_); exact rfl; exact rfl; exact (HR0.out); exact rfl; exact rfl; intro wz k1 k2 k3 k4; have K := lib.h4 k1 k2 k3 k4; clear k1 k2 k3 k4))
  have HRz : Blk wz rb 37 (z8 zE none 0) := K.out.1
  refine bodyPost_ret (v := .tuple #[.agg (z8 zE none 0).toArray, .bool false]) (big.zK stEvt Tryz.results74 rfl rfl HRz.cells rfl) rfl ?_
  exact ⟨(HB0.out).trans (K.out.2.2.2.mono hrb), .inl ⟨HEE.out, _, rfl, yB _ _ _, rfl⟩⟩
 obtain ⟨ad, x0, hA, hadb, hx0, hcell0⟩ := HL.out.at_ (k := 0) (by rw [← HN.out]; omega)
 obtain ⟨ad1, x1, hA1, _, hx1, hcell1⟩ := HL.out.at_ (k := 1) (by rw [← HN.out]; omega)
 subst hA
 obtain rfl : ad = ad1 := Option.some.inj hA1
 obtain ⟨r, hLr⟩ : ∃ r, L = x0 :: x1 :: r := by
  cases L with
  | nil => cases hx0
  | cons y q =>
   cases q with
   | nil => cases hx1
   | cons z r => exact ⟨r, by rw [show y = x0 from Option.some.inj hx0, show z = x1 from Option.some.inj hx1]⟩
 have HLR := Lib.hid hLr
 have HC0 : Hid (∀ w', Below W0.heap.size W0 w' → w'.cell? ad = some (.string ⟨x0.toArray⟩) ∧ w'.cell? ⟨ad.block, ad.off + 1, none⟩ = some (.string ⟨x1.toArray⟩)) := Lib.hid (fun w' h => by
  refine ⟨?_, ?_⟩
  ·exact (h.cell (p := ad.add 0) (by rw [block_of_add]; omega)).trans hcell0
  ·exact (h.cell (p := ad.add 1) (by rw [block_of_add]; omega)).trans hcell1)
 have hn2 : ¬ (n : Int) < 2 := by omega
 have hn0 : 0 < n := by omega
 have hn1 : 1 < n := by omega
 clear hx0 hx1 hcell0 hcell1 hA1 hLr
 go_upto_region 5 with fail
 go_loopw [4, 5] (fun kv iv wr => ∃ k : Nat, k ≤ 5 ∧ iv = .int .i64 ((k + 1 : Nat) : Int) ∧ kv = .int .i64 (kTo x0 k) ∧ Below W0.heap.size W0 wr) (fun _ iv _ => 6 - (intOf iv).toNat)
 case atStart => exact ⟨0, by omega, rfl, rfl, Below.refl _ _⟩
 case round =>
  obtain ⟨k, hk, rfl, rfl, hbw⟩ := hrel
  have hbz := hbw.size
  by_cases hlt : k < 5
  ·have h5 : ((k + 1 : Nat) : Int) ≤ 5 := by omega
   go_upto_region 7 with fail
   (refine wp_region_held_drew (S := (fun w' => w'.cell? ad = some (.string ⟨x0.toArray⟩))) (by kernel_rfl) ?_ (fun hHeld => ?_))
   ·exact (HC0.out _ hbw.drew).1
   (refine lib.tk 2 ?_ rfl (by kernel_rfl) (fun _ _ _ h => h) ?_ (by assumption) ?_; rotate_left; (focus (intro w hSw; (try dsimp only at hSw); go_simp; all_goals with_reducible rfl)); (try simp only [lib.hly]))
   (refine lib.tk 3 ?_ rfl (by kernel_rfl) (fun _ _ _ h => h) ?_ (by assumption) ?_; rotate_left; (focus (intro w hSw; (try dsimp only at hSw); go_simp; all_goals with_reducible rfl)); (try simp only [lib.hly]))
   (refine lib.tk 4 ?_ rfl (by kernel_rfl) (fun _ _ _ h => h) ?_ (by assumption) ?_; rotate_left; (focus (intro w hSw; (try dsimp only at hSw); go_simp; all_goals with_reducible rfl)); (try simp only [lib.hly]))
   (refine lib.tk 0 ?_ rfl (by kernel_rfl) (fun _ _ _ h => h) ?_ (by assumption) ?_; rotate_left; (focus (intro w hSw; (try dsimp only at hSw); go_simp; all_goals with_reducible rfl)); (try simp only [lib.hly]))
   (refine wpAnyH_ready (rs := [1]) (by kernel_rfl) (by simp) ?_; refine AllReadyH.cons rfl (fun K hK => ?_) AllReadyH.nil)
   go_simp
   go_at_call 62
   refine (Go.Proofs.YtofabhenmplkoaaGreatDoor.evt.word_any ((k + 1 : Nat) : Int) _).mono ?_
   rintro e2 w2 ⟨rfl, hb2⟩
   have hbw2 : Below W0.heap.size W0 w2 := hbw.drew.trans (hb2.mono hbz)
   refine hK.out _ _ ((HC0.out _ hbw2).1) (fun hHeld => ?_)
   clear hK K
   (try simp only [lib.hly])
   (refine lib.tk 5 ?_ rfl (by kernel_rfl) (fun _ _ _ h => h) ?_ (by assumption) ?_; rotate_left; (focus (intro w hSw; (try dsimp only at hSw); go_simp; all_goals with_reducible rfl)); (try simp only [lib.hly]))
   (refine wpAnyH_done (by kernel_rfl) ?_ _)
   obtain ⟨bq, hbq⟩ : ∃ b, ((wordS ((k : Int) + 1)).toList == x0) = b := ⟨_, rfl⟩
   have HKN : Hid (kTo x0 (k + 1) = if bq = true then ((k + 1 : Nat) : Int) else kTo x0 k) := Lib.hid (by
    rw [kTo, ← hbq, yA]
    by_cases he : x0 = (wordS ((k + 1 : Nat) : Int)).data.toList
    ·rw [if_pos he, if_pos]
     rw [beq_iff_eq]; exact he.symm
    ·rw [if_neg he, if_neg]
     rw [beq_iff_eq]; exact fun h => he h.symm)
   rw [hbq]
   clear hbq hbw hb2
   cases bq
   ·go_wp2_with fail
    exact ⟨⟨k + 1, by omega, by go_num, by rw [HKN.out]; rfl, hbw2⟩, by simp [intOf]; omega⟩
   ·go_wp2_with fail
    exact ⟨⟨k + 1, by omega, by go_num, by rw [HKN.out]; rfl, hbw2⟩, by simp [intOf]; omega⟩
  ·have hk5 : k = 5 := by omega
   subst hk5
   rw [kTo_five]
   obtain ⟨kd, hK⟩ : ∃ K, kindF x0 = K := ⟨_, rfl⟩
   have hKi := kindF_in x0
   rw [hK] at hKi ⊢
   have HKD := Lib.hid hK
   clear hK hlt hk
   have HBW := Lib.hid hbw
   go_upto_region 10 with (first
    | ((with_reducible refine zP bEvt rfl [(1, .tmp 28)] rfl [(1, .int .i64 kd)] (z8 (evZ kd) none 0) ?_ (evt_fill1 kd) ?_); exact rfl)
    | ((with_reducible refine zJ stEvt rfl _ _ rfl (wr.heap.size) (z8 zE none 0) (z8 (evZ kd) none 0) ?_ ?_ ?_ ?_ ?_ (yB _ _ _) ?_); exact rfl; exact rfl; exact Blk.new wr _ _; exact rfl; exact rfl; intro wz k1 k2 k3 k4; have K := lib.h4 k1 k2 k3 k4; clear k1 k2 k3 k4))
   have b1 : Below wr.heap.size wr wz := ((Below.refl _ _).alloc (Nat.le_refl _) _).trans K.out.2.2.2
   have HE1 : Hid (Blk wz wr.heap.size 37 (z8 (evZ kd) none 0)) := Lib.hid K.out.1
   obtain ⟨w1, hw1⟩ : ∃ W, wz = W := ⟨_, rfl⟩
   rw [hw1] at b1 HE1 ⊢
   obtain ⟨eb, heb⟩ : ∃ q, wr.heap.size = q := ⟨_, rfl⟩
   have hebz : W0.heap.size ≤ eb := by omega
   have HB1 : Hid (Below W0.heap.size W0 w1) := Lib.hid (hbw.trans (b1.mono hbz))
   rw [heb] at HE1 ⊢
   have z1 : eb < w1.heap.size := HE1.out.lt
   clear K hw1 b1 heb HBW hbw hbz
   have hL3 : Hid (∀ w', Below W0.heap.size W0 w' → Strs w' w'.heap.size (some ⟨ad.block, ad.off + 1, none⟩) (x1 :: r)) := Lib.hid (fun w' h => by
    have h1 := Strs.dropS HL.out 1 (by rw [← HN.out]; omega)
    rw [HLR.out] at h1
    exact (h1.below (h.mono z0)).more (Nat.le_trans z0 h.size))
   have hL4 : Hid (∀ w', Below W0.heap.size W0 w' → Strs w' w'.heap.size (if c = 2 then some ad else some ⟨ad.block, ad.off + 2, none⟩) r) := Lib.hid (fun w' h => by
    by_cases hc2 : c = 2
    ·have hr0 : r = [] := by
      have h5 := HN.out
      rw [HLR.out] at h5
      simp at h5
      exact List.eq_nil_of_length_eq_zero (by omega)
     rw [if_pos hc2, hr0]
     exact ⟨⟨rfl, fun h => absurd h (by decide)⟩, by simp⟩
    rw [if_neg hc2]
    have h1 := Strs.dropS HL.out 2 (by rw [← HN.out]; omega)
    rw [HLR.out] at h1
    exact (h1.below (h.mono z0)).more (Nat.le_trans z0 h.size))
   have hM1 : ∀ x ∈ (x1 :: r), x.length ≤ 100000 := fun x hx => HM.out x (by rw [HLR.out]; exact List.mem_cons_of_mem _ hx)
   have hM2 : ∀ x ∈ r, x.length ≤ 100000 := fun x hx => hM1 x (List.mem_cons_of_mem _ hx)
   have HM1 := Lib.hid (And.intro hM1 hM2)
   have hnr : n = r.length + 2 := by rw [HN.out, HLR.out]; rfl
   have HNR := Lib.hid hnr
   have HPF : Hid (parseF L = if kd = 1 then (readO r).bind (parse1 x1) else (readF (x1 :: r)).bind (parse2 kd)) := Lib.hid (by
    rw [HLR.out, parseF_cons x0 (by simp), HKD.out]; rfl)
   clear hM1 hM2 hnr
   by_cases hk1 : kd = 1
   case pos =>
    subst hk1
    have HP1 : Hid (parseF L = (readO r).bind (parse1 x1)) := Lib.hid (by rw [HPF.out, if_pos rfl])
    have e1 := (HC0.out _ HB1.out).2
    obtain ⟨v, hv⟩ : ∃ v, (numL x1).1 = v := ⟨_, rfl⟩
    obtain ⟨f, hf⟩ : ∃ f, (numL x1).2 = f := ⟨_, rfl⟩
    have HVF := Lib.hid (And.intro hv hf)
    have hnum : Calls Tryz.prog 128 #[.string ⟨x1.toArray⟩] w1 fun e w'' => e = .returned (.tuple #[.int .i64 v, .int .i64 f]) ∧ Below w1.heap.size w1 w'' := by
     have h1 := number_any ⟨x1.toArray⟩ (by show x1.toArray.size ≤ _; have := HM1.out.1 x1 (List.mem_cons_self ..); simp; omega) w1 (HT.out.below (HB1.out))
     have e : (⟨x1.toArray⟩ : ByteArray).data.toList = x1 := rfl
     rw [e, hv, hf] at h1
     exact h1
    clear hv hf HPF
    go_upto_region 12 with (go_at_call 128; refine hnum.mono ?_; rintro e2 w2 ⟨rfl, hb2⟩)
    have HB2 := Lib.hid (HB1.out.trans (hb2.mono (by omega)))
    have HE2 := Lib.hid (HE1.out.below hb2)
    have z2 := hb2.size
    clear hb2 hnum e1 HE1
    have hro : Calls Tryz.prog 129 #[.slice (if c = 2 then some ad else some ⟨ad.block, ad.off + 2, none⟩) (n - 2) (c - 2)] w2 (RoOut w2 r) := readOrder_any r _ _ _ (by have := HNR.out; omega) (by omega) w2 (hL4.out _ HB2.out) HM1.out.2 (HT.out.below HB2.out)
    have hn2' : (2 : Int) ≤ (n : Int) := by omega
    have hro2 : Calls Tryz.prog 129 #[.slice (if c = 2 then some ad else some ⟨ad.block, ad.off + 2, none⟩) (n - 2) (c - 2)] w2 fun e w' => ∃ (oc : List Value) (ok : Bool), e = .returned (.tuple #[.agg oc.toArray, .bool ok]) ∧ Below w2.heap.size w2 w' ∧ oc.length = 16 ∧ (∀ u ∈ oc, u.oneCell' = true) ∧ (ok = false → readO r = none) ∧ (ok = true → ∃ o C cc, readO r = some o ∧ oc = zA o C cc ∧ yM w' (fun b => w2.heap.size ≤ b) C o.load) := hro.mono (by
     rintro e w' ⟨hb, ⟨h, rfl⟩ | ⟨o, C, cc, h, rfl, hi⟩⟩
     ·exact ⟨ins.zOrd, false, rfl, hb, rfl, by decide, fun _ => h, fun e => (by cases e)⟩
     ·exact ⟨zA o C cc, true, rfl, hb, rfl, zR _ _ _, fun e => (by cases e), fun _ => ⟨o, C, cc, h, rfl, hi⟩⟩)
    clear hro
    go_upto_region 13 with (first
     | (go_at_call 129; refine hro2.mono ?_; rintro e3 w3 ⟨oc, ok, rfl, hb3, h9⟩; have HOO := Lib.hid h9; clear h9)
     | ((with_reducible refine zJ stOrd' rfl _ _ rfl w3.heap.size ins.zOrd oc ?_ ?_ ?_ ?_ ?_ HOO.out.2.1 ?_); exact rfl; exact rfl; exact Blk.new w3 _ _; exact rfl; exact HOO.out.1; intro wz k1 k2 k3 k4; have K := lib.h4 k1 k2 k3 k4; clear k1 k2 k3 k4))
    obtain ⟨A2, hA2⟩ : ∃ A2, (if c = 2 then some ad else some ⟨ad.block, ad.off + 2, none⟩ : Option Addr) = A2 := ⟨_, rfl⟩
    rw [hA2]
    clear hA2
    obtain ⟨w4, hw4⟩ : ∃ W, wz = W := ⟨_, rfl⟩
    have b34 : Below w3.heap.size w3 w4 := by rw [← hw4]; exact ((Below.refl _ _).alloc (Nat.le_refl _) _).trans K.out.2.2.2
    have HO4 : Hid (Blk w4 w3.heap.size 35 oc) := Lib.hid (by rw [← hw4]; exact K.out.1)
    rw [hw4]
    obtain ⟨qb, hqb⟩ : ∃ q, w3.heap.size = q := ⟨_, rfl⟩
    have HE4 := Lib.hid ((HE2.out.below hb3).below b34)
    have z3 := hb3.size
    have HB4 := Lib.hid (HB2.out.trans ((hb3.trans (b34.mono z3)).mono (by omega)))
    have HI4 : Hid (ok = true → ∃ o C cc, readO r = some o ∧ oc = zA o C cc ∧ yM w4 (fun b => eb < b) C o.load) := Lib.hid (fun h => by
     obtain ⟨o, C, cc, h1, h2, h3⟩ := HOO.out.2.2.2 h
     exact ⟨o, C, cc, h1, h2, zU h3 b34.size (fun b hb hp => ⟨by have h9 : w2.heap.size ≤ b := hp; omega, b34.block b hb⟩)⟩)
    have hebq : eb < qb := by omega
    rw [hqb] at HO4 ⊢
    have HO5 := Lib.hid (And.intro HOO.out.1 (And.intro HOO.out.2.1 HOO.out.2.2.1))
    clear K hw4 b34 hqb hb3 hro2 HOO HE2 z3
    (refine wp_region_held_drew (S := (fun w' => CellsAt w' ⟨qb, 0, none⟩ oc)) (by kernel_rfl) ?_ (fun hHeld => ?_))
    ·exact HO4.out.cells
    obtain ⟨wd, hwd⟩ : ∃ W, w4.drew = W := ⟨_, rfl⟩
    have HWD : Hid (Blk wd eb 37 (z8 (evZ 1) none 0) ∧ Blk wd qb 35 oc ∧ Below eb w4 wd ∧ (∀ b, b < w4.heap.size → wd.heap[b]? = w4.heap[b]?)) := Lib.hid (by rw [← hwd]; exact ⟨HE4.out, HO4.out, (Below.refl _ _).drew, fun b _ => rfl⟩)
    rw [hwd] at hHeld ⊢
    clear hwd
    (refine lib.tk 0 ?_ rfl (by kernel_rfl) (fun _ _ _ h => h) ?_ (by assumption) ?_; rotate_left; (focus (intro w hSw; (try dsimp only at hSw); go_simp; all_goals with_reducible rfl)); (try simp only [lib.hly]))
    (refine lib.tk 1 _ rfl (by kernel_rfl) (fun _ _ _ h => h) (fun _ hSw => yG stOrd' rfl rfl hSw HO5.out.1) (by assumption) ?_; (try simp only [lib.hly]))
    (refine lib.tk 2 ?_ rfl (by kernel_rfl) (fun _ _ _ h => h) ?_ (by assumption) ?_; rotate_left; (focus (intro w hSw; (try dsimp only at hSw); go_simp; all_goals with_reducible rfl)); (try simp only [lib.hly]))
    have hEd := HWD.out.1
    have fc := hEd.cell (j := 0) rfl
    have ff := hEd.frozen 0
    (refine wpAnyH_ready (rs := [3]) (by kernel_rfl) (by simp) ?_; refine AllReadyH.cons rfl (fun K hK => ?_) AllReadyH.nil)
    go_simp
    clear fc ff
    obtain ⟨w5, hw5⟩ : ∃ W, wd.setCell ⟨eb, 0, none⟩ (.int .i64 v) = W := ⟨_, rfl⟩
    rw [hw5]
    have HE5 : Hid (Blk w5 eb 37 ((z8 (evZ 1) none 0).set 0 (.int .i64 v)) ∧ Below eb w4 w5 ∧ (∀ k, k ≠ eb → w5.heap[k]? = wd.heap[k]?)) := Lib.hid (by rw [← hw5]; exact ⟨hEd.set 0 _, HWD.out.2.2.1.setCell (p := ⟨eb, 0, none⟩) (Nat.le_refl _) _, fun k hk => Below.heap_setCell wd ⟨eb, 0, none⟩ _ k hk⟩)
    have HO6 : Hid (Blk w5 qb 35 oc) := Lib.hid ((HE5.out.2.2 qb (by omega)).trans HWD.out.2.1)
    clear hw5 hEd
    refine hK.out _ _ (HO6.out.cells) (fun hHeld => ?_)
    clear hK K
    (try simp only [lib.hly])
    (refine lib.tk 4 ?_ rfl (by kernel_rfl) (fun _ _ _ h => h) ?_ (by assumption) ?_; rotate_left; (focus (intro w hSw; (try dsimp only at hSw); go_simp; all_goals with_reducible rfl)); (try simp only [lib.hly]))
    (refine wpAnyH_ready (rs := [5]) (by kernel_rfl) (by simp) ?_; refine AllReadyH.cons rfl (fun K hK => ?_) AllReadyH.nil)
    have hst := blk_setCells oc 5 _ _ HE5.out.1
    have hso := fun k h => setCells_other (b := eb) oc 5 w5 k h
    refine yF stOrd' rfl _ _ rfl eb 5 oc rfl rfl (blk_there HE5.out.1 (by rw [List.length_set]; decide)) HO5.out.1 HO5.out.2.1 ?_
    obtain ⟨w6, hw6⟩ : ∃ W, w5.setCells eb 5 oc = W := ⟨_, rfl⟩
    rw [hw6] at hst hso ⊢
    refine hK.out _ _ (Blk.cells (show Blk w6 qb 35 oc from (hso qb (by omega)).trans HO6.out)) (fun hHeld => ?_)
    clear hK K
    (try simp only [lib.hly])
    (refine wpAnyH_done (by kernel_rfl) ?_ _)
    have HB6 : Hid (Below w.heap.size w w6) := Lib.hid (HB0.out.trans ((HB4.out.trans ((HE5.out.2.1.trans hst.2).mono hebz)).mono z0))
    have HR6 : Hid (Blk w6 rb 37 (z8 zE none 0)) := Lib.hid ((hst.2.block rb (by omega)).trans ((HE5.out.2.1.block rb (by omega)).trans ((HB4.out.block rb zz).trans HR0.out)))
    have hlen : (setM ((z8 (evZ 1) none 0).set 0 (.int .i64 v)) 5 oc).length = 21 := by rw [off.setM_len, List.length_set]; rfl
    have hone : ∀ u ∈ setM ((z8 (evZ 1) none 0).set 0 (.int .i64 v)) 5 oc, u.oneCell' = true := setM_one _ (fun u hu => by
     rcases List.mem_or_eq_of_mem_set hu with h | rfl
     ·exact yB _ _ _ u h
     ·rfl) HO5.out.2.1
    obtain ⟨CE, hCE⟩ : ∃ CE, setM ((z8 (evZ 1) none 0).set 0 (.int .i64 v)) 5 oc = CE := ⟨_, rfl⟩
    have HI6 : Hid (ok = true → ∃ o C cc, readO r = some o ∧ CE = z8 ⟨v, 1, 0, 0, 0, o⟩ C cc ∧ yM w6 (fun b => eb < b) C o.load) := Lib.hid (fun h => by
     obtain ⟨o, C, cc, h1, h2, h3⟩ := HI4.out h
     exact ⟨o, C, cc, h1, by rw [← hCE, h2, set_evt], zU h3 (Nat.le_trans HE5.out.2.1.size hst.2.size) (fun b hb hp => ⟨hp, (hso b (by have h9 : eb < b := hp; omega)).trans ((HE5.out.2.2 b (by have h9 : eb < b := hp; omega)).trans (HWD.out.2.2.2 b hb))⟩)⟩)
    rw [hCE] at hlen hone hst
    have HCE := Lib.hid (And.intro hlen hone)
    have HE6 := Lib.hid hst.1
    have HP6 : Hid (¬ (ok = true ∧ f = 0) → parseF L = none) := Lib.hid (fun h => by
     rw [HP1.out]
     cases ok
     ·rw [HO5.out.2.2 rfl]; rfl
     ·obtain ⟨o, C, cc, h1, _⟩ := HI6.out rfl
      rw [h1]
      show parse1 x1 o = none
      unfold parse1
      rw [HVF.out.2, if_neg (fun e => h ⟨rfl, e⟩)])
    clear hlen hone hst hso hCE hw6 HE5 HO6 HWD HI4 HO4 HE4 HB4 HO5 HP1 hHeld
    cases ok
    ·have HEE := Lib.hid (HP6.out (by simp))
     go_wp2_with (first
      | ((with_reducible refine zH stEvt _ rfl ⟨eb, 0, none⟩ (CE) ?_ ?_ ?_ ?_ ?_); exact rfl; exact rfl; exact (HE6.out).cells; exact (HCE.out.1))
      | ((with_reducible refine zJ stEvt rfl _ _ rfl rb (z8 zE none 0) (CE) ?_ ?_ ?_ ?_ ?_ (HCE.out.2) ?_); exact rfl; exact rfl; exact (HR6.out); exact rfl; exact (HCE.out.1); intro wz k1 k2 k3 k4; have K := lib.h4 k1 k2 k3 k4; clear k1 k2 k3 k4))
     have HRz : Blk wz rb 37 (CE) := K.out.1
     have hbz : Below w.heap.size w wz := (HB6.out).trans (K.out.2.2.2.mono hrb)
     refine bodyPost_ret (v := .tuple #[.agg (CE).toArray, .bool false]) (big.zK stEvt Tryz.results74 rfl rfl HRz.cells (HCE.out.1)) rfl ?_
     exact ⟨hbz, .inl ⟨HEE.out, _, HCE.out.1, HCE.out.2, rfl⟩⟩
    by_cases hf0 : f = 0
    ·subst hf0
     obtain ⟨o, C, cc, ho1, ho2, ho3⟩ := HI6.out rfl
     have HPO : Hid (parseF L = some ⟨v, 1, 0, 0, 0, o⟩ ∧ CE = z8 ⟨v, 1, 0, 0, 0, o⟩ C cc ∧ yM w6 (fun b => eb < b) C o.load) := Lib.hid ⟨by
      rw [HLR.out, parseF_cons x0 (by simp), HKD.out, if_pos rfl]
      show (readO r).bind (parse1 x1) = _
      rw [ho1]
      show parse1 x1 o = _
      unfold parse1
      rw [HVF.out.1, HVF.out.2, if_pos rfl], ho2, ho3⟩
     clear ho1 ho2 ho3 HI6 HP6
     go_wp2_with (first
      | ((with_reducible refine zH stEvt _ rfl ⟨eb, 0, none⟩ (CE) ?_ ?_ ?_ ?_ ?_); exact rfl; exact rfl; exact (HE6.out).cells; exact (HCE.out.1))
      | ((with_reducible refine zJ stEvt rfl _ _ rfl rb (z8 zE none 0) (CE) ?_ ?_ ?_ ?_ ?_ (HCE.out.2) ?_); exact rfl; exact rfl; exact (HR6.out); exact rfl; exact (HCE.out.1); intro wz k1 k2 k3 k4; have K := lib.h4 k1 k2 k3 k4; clear k1 k2 k3 k4))
     have HRz : Blk wz rb 37 (CE) := K.out.1
     have hbz : Below w.heap.size w wz := (HB6.out).trans (K.out.2.2.2.mono hrb)
     refine bodyPost_ret (v := .tuple #[.agg (CE).toArray, .bool true]) (big.zK stEvt Tryz.results74 rfl rfl HRz.cells (HCE.out.1)) rfl ?_
     exact ⟨hbz, .inr ⟨_, C, cc, HPO.out.1, by rw [← HPO.out.2.1], zU HPO.out.2.2 (by rw [K.out.2.2.1]; exact Nat.le_refl _) (fun b hb hp => ⟨by have h9 : eb < b := hp; show w.heap.size ≤ b; omega, K.out.2.1 b (by have h9 : eb < b := hp; omega)⟩)⟩⟩
    ·have hf1 : (f == 0) = false := by simp [hf0]
     have HEE := Lib.hid (HP6.out (by simp [hf0]))
     go_wp2_with (first
      | ((with_reducible refine zH stEvt _ rfl ⟨eb, 0, none⟩ (CE) ?_ ?_ ?_ ?_ ?_); exact rfl; exact rfl; exact (HE6.out).cells; exact (HCE.out.1))
      | ((with_reducible refine zJ stEvt rfl _ _ rfl rb (z8 zE none 0) (CE) ?_ ?_ ?_ ?_ ?_ (HCE.out.2) ?_); exact rfl; exact rfl; exact (HR6.out); exact rfl; exact (HCE.out.1); intro wz k1 k2 k3 k4; have K := lib.h4 k1 k2 k3 k4; clear k1 k2 k3 k4))
     have HRz : Blk wz rb 37 (CE) := K.out.1
     have hbz : Below w.heap.size w wz := (HB6.out).trans (K.out.2.2.2.mono hrb)
     refine bodyPost_ret (v := .tuple #[.agg (CE).toArray, .bool false]) (big.zK stEvt Tryz.results74 rfl rfl HRz.cells (HCE.out.1)) rfl ?_
     exact ⟨hbz, .inl ⟨HEE.out, _, HCE.out.1, HCE.out.2, rfl⟩⟩
   case neg =>
    have HP1 : Hid (parseF L = (readF (x1 :: r)).bind (parse2 kd)) := Lib.hid (by rw [HPF.out, if_neg hk1])
    have hrd : Calls Tryz.prog 130 #[.slice (some ⟨ad.block, ad.off + 1, none⟩) (n - 1) (c - 1)] w1 (RdOut w1 (x1 :: r)) := read_any (x1 :: r) _ _ _ (by have := HNR.out; simp; omega) _ (hL3.out _ HB1.out) HM1.out.1 (HT.out.below HB1.out)
    have hn1' : (1 : Int) ≤ (n : Int) := by omega
    have hrd2 : Calls Tryz.prog 130 #[.slice (some ⟨ad.block, ad.off + 1, none⟩) (n - 1) (c - 1)] w1 fun e w' => ∃ (l : List Int) (A1 : Option Addr) (c1 m1 : Nat) (ok : Bool), e = .returned (.tuple #[.slice A1 m1 c1, .bool ok]) ∧ Below w1.heap.size w1 w' ∧ m1 = l.length ∧ (ok = false → readF (x1 :: r) = none) ∧ (ok = true → readF (x1 :: r) = some l ∧ IOwn w' w1.heap.size A1 c1 l) := hrd.mono (by
     rintro e w' ⟨hb, ⟨h, rfl⟩ | ⟨l, A1, c1, m1, h, hm, rfl, ho⟩⟩
     ·exact ⟨[], none, 0, 0, false, rfl, hb, rfl, fun _ => h, fun e => (by cases e)⟩
     ·exact ⟨l, A1, c1, m1, true, rfl, hb, hm, fun e => (by cases e), fun _ => ⟨h, ho⟩⟩)
    clear hrd HPF
    go_upto_region 16 with (go_at_call 130; refine hrd2.mono ?_; rintro e2 w2 ⟨ns, A1, c1, m1, ok, rfl, hb2, h9⟩; have HNS := Lib.hid h9; clear h9)
    have HB2 := Lib.hid (HB1.out.trans (hb2.mono (by omega)))
    have HE2 := Lib.hid (HE1.out.below hb2)
    have z2 := hb2.size
    have HR2 : Hid (Blk w2 rb 37 (z8 zE none 0)) := Lib.hid ((HB2.out.block rb zz).trans HR0.out)
    have HBW2 := Lib.hid (HB0.out.trans (HB2.out.mono z0))
    clear hb2 hrd2 HE1
    by_cases hk0 : kd = 0
    ·subst hk0
     have HEE : Hid (parseF L = none) := Lib.hid (by
      rw [HP1.out]
      cases readF (x1 :: r) with
      | none => rfl
      | some l => rfl)
     go_wp2_with (first
      | ((with_reducible refine zP bEvt rfl [] rfl [] (z8 zE none 0) ?_ evt_fill0 ?_); exact rfl)
      | ((with_reducible refine zJ stEvt rfl _ _ rfl (rb) (z8 zE none 0) (z8 zE none 0) ?_ ?_ ?_ ?_ ?_ (yB _ _ _) ?_); exact rfl; exact rfl; exact (HR2.out); exact rfl; exact rfl; intro wz k1 k2 k3 k4; have K := lib.h4 k1 k2 k3 k4; clear k1 k2 k3 k4))
     have HRz : Blk wz rb 37 (z8 zE none 0) := K.out.1
     refine bodyPost_ret (v := .tuple #[.agg (z8 zE none 0).toArray, .bool false]) (big.zK stEvt Tryz.results74 rfl rfl HRz.cells rfl) rfl ?_
     exact ⟨(HBW2.out).trans (K.out.2.2.2.mono hrb), .inl ⟨HEE.out, _, rfl, yB _ _ _, rfl⟩⟩
    have hk0b : (kd == 0) = false := by simp [hk0]
    cases ok
    ·have HEE : Hid (parseF L = none) := Lib.hid (by rw [HP1.out, HNS.out.2.1 rfl]; rfl)
     go_wp2_with (first
      | ((with_reducible refine zP bEvt rfl [] rfl [] (z8 zE none 0) ?_ evt_fill0 ?_); exact rfl)
      | ((with_reducible refine zJ stEvt rfl _ _ rfl (rb) (z8 zE none 0) (z8 zE none 0) ?_ ?_ ?_ ?_ ?_ (yB _ _ _) ?_); exact rfl; exact rfl; exact (HR2.out); exact rfl; exact rfl; intro wz k1 k2 k3 k4; have K := lib.h4 k1 k2 k3 k4; clear k1 k2 k3 k4))
     have HRz : Blk wz rb 37 (z8 zE none 0) := K.out.1
     refine bodyPost_ret (v := .tuple #[.agg (z8 zE none 0).toArray, .bool false]) (big.zK stEvt Tryz.results74 rfl rfl HRz.cells rfl) rfl ?_
     exact ⟨(HBW2.out).trans (K.out.2.2.2.mono hrb), .inl ⟨HEE.out, _, rfl, yB _ _ _, rfl⟩⟩
    obtain ⟨hns, hio⟩ := HNS.out.2.2 rfl
    have HNA := Lib.hid hns
    have HIO := Lib.hid hio
    have hm1 := HNS.out.1
    have HM1' := Lib.hid hm1
    have hml := (readF_len hns).1
    have hm1b : m1 ≤ 2000000 := by have := (hL3.out _ HB1.out).2; omega
    clear hns hio hm1 hml
    obtain ⟨cn, hcn⟩ : ∃ cn, cntF kd = cn := ⟨_, rfl⟩
    have HCN := Lib.hid hcn
    have hcn4 : 2 ≤ cn ∧ cn ≤ 4 := by
     have hk2 : kd = 2 ∨ kd = 3 ∨ kd = 4 ∨ kd = 5 := by omega
     rw [← hcn]
     rcases hk2 with rfl | rfl | rfl | rfl <;> decide
    have hnl : (numsF (evZ kd)).length = cn := by rw [cntF_eq]; exact hcn
    have HNM : Hid (∀ w', Calls Tryz.prog 64 #[.agg (z8 (evZ kd) none 0).toArray] w' fun e w'' => ∃ A2 c2, e = .returned (.slice A2 cn c2) ∧ Below w'.heap.size w' w'') := Lib.hid (fun w' => (numbers_any (evZ kd) none 0 w').mono (by
     rintro e w'' ⟨A2, c2, m2, rfl, hm2, hb, _⟩
     exact ⟨A2, c2, by rw [hm2, hnl], hb⟩))
    clear hcn hnl
    by_cases hmn : m1 = cn
    rotate_left
    ·have HEE : Hid (parseF L = none) := Lib.hid (by
      rw [HP1.out, HNA.out]
      show parse2 kd ns = none
      unfold parse2
      rw [if_pos (.inr (by rw [← HM1'.out, HCN.out]; exact hmn))])
     have hmn2 : ((m1 : Int) != (cn : Int)) = true := by simp; omega
     go_upto_region 17 with (first
      | ((with_reducible refine zH stEvt _ rfl ⟨eb, 0, none⟩ (z8 (evZ kd) none 0) ?_ ?_ ?_ ?_ ?_); exact rfl; exact rfl; exact HE2.out.cells; exact rfl)
      | (go_at_call 64; refine (HNM.out _).mono ?_; rintro e3 w3 ⟨A2, c2, rfl, hb3⟩))
     have HR3 := Lib.hid (HR2.out.below hb3)
     have HBW3 := Lib.hid (HBW2.out.trans (hb3.mono (by have := HB0.out.size; have := HB2.out.size; omega)))
     go_wp2_with (first
      | ((with_reducible refine zP bEvt rfl [] rfl [] (z8 zE none 0) ?_ evt_fill0 ?_); exact rfl)
      | ((with_reducible refine zJ stEvt rfl _ _ rfl (rb) (z8 zE none 0) (z8 zE none 0) ?_ ?_ ?_ ?_ ?_ (yB _ _ _) ?_); exact rfl; exact rfl; exact (HR3.out); exact rfl; exact rfl; intro wz k1 k2 k3 k4; have K := lib.h4 k1 k2 k3 k4; clear k1 k2 k3 k4))
     have HRz : Blk wz rb 37 (z8 zE none 0) := K.out.1
     refine bodyPost_ret (v := .tuple #[.agg (z8 zE none 0).toArray, .bool false]) (big.zK stEvt Tryz.results74 rfl rfl HRz.cells rfl) rfl ?_
     exact ⟨(HBW3.out).trans (K.out.2.2.2.mono hrb), .inl ⟨HEE.out, _, rfl, yB _ _ _, rfl⟩⟩
    subst hmn
    obtain ⟨g, hA1, hg1, hg2, hgc⟩ := own_ints HIO.out (by rw [← HM1'.out]; omega)
    subst hA1
    have HGC := Lib.hid hgc
    clear hgc HIO
    go_upto_region 18 with (first
     | ((with_reducible refine zH stEvt _ rfl ⟨eb, 0, none⟩ (z8 (evZ kd) none 0) ?_ ?_ ?_ ?_ ?_); exact rfl; exact rfl; exact HE2.out.cells; exact rfl)
     | (go_at_call 64; refine (HNM.out _).mono ?_; rintro e3 w3 ⟨A2, c2, rfl, hb3⟩))
    have z3 := hb3.size
    have HR3 := Lib.hid (HR2.out.below hb3)
    have HBW3 := Lib.hid (HBW2.out.trans (hb3.mono (by have := HB0.out.size; have := HB2.out.size; omega)))
    have HE3 := Lib.hid (HE2.out.below hb3)
    have HSC : Hid (∀ w' : World, w'.heap[g]? = w3.heap[g]? → ∀ (j : Nat) (x : Int), ns[j]? = some x → w'.cell? ⟨g, j, none⟩ = some (.int .i64 x)) := Lib.hid (fun w' h j x hx => (World.cell?_of_block (h.trans (hb3.block g hg2))).trans (HGC.out j x hx))
    have HGE : Hid (g ≠ eb) := Lib.hid (by omega)
    have hrbe : rb < eb := by omega
    have hweb : w.heap.size ≤ eb := by omega
    clear HE2 HR2 HBW2 HGC hb3 HNM
    have hk2 : kd = 2 ∨ kd = 3 ∨ kd = 4 ∨ kd = 5 := by omega
    have hlen := HM1'.out
    obtain ⟨n0, hn0'⟩ : ∃ y, ns[0]? = some y := ⟨_, List.getElem?_eq_getElem (by omega)⟩
    obtain ⟨n1, hn1''⟩ : ∃ y, ns[1]? = some y := ⟨_, List.getElem?_eq_getElem (by omega)⟩
    have HN0 := Lib.hid hn0'
    have HN1 := Lib.hid hn1''
    have HW : Hid (Blk w3 eb 37 (z8 (evZ kd) none 0) ∧ (∀ k, k ≠ eb → w3.heap[k]? = w3.heap[k]?) ∧ Below eb w3 w3) := Lib.hid ⟨HE3.out, fun _ _ => rfl, Below.refl _ _⟩
    have hcn1 : (1 : Int) < (m1 : Int) := by omega
    have hcn0 : (0 : Int) < (m1 : Int) := by omega
    have hcn1n : 1 < m1 := by omega
    have hcn0n : 0 < m1 := by omega
    clear hn0' hn1'' hlen
    (refine wp_region_held_drew (S := (fun w' => w'.cell? ⟨g, 0, none⟩ = some (.int .i64 n0) ∧ w'.cell? ⟨g, 1, none⟩ = some (.int .i64 n1))) (by kernel_rfl) ?_ (fun hHeld => ?_))
    ·exact ⟨HSC.out _ (HW.out.2.1 g HGE.out) 0 _ HN0.out, HSC.out _ (HW.out.2.1 g HGE.out) 1 _ HN1.out⟩
    obtain ⟨wd, hwd⟩ : ∃ W, w3.drew = W := ⟨_, rfl⟩
    have HWd : Hid (Blk wd eb 37 (z8 (evZ kd) none 0) ∧ (∀ k, k ≠ eb → wd.heap[k]? = w3.heap[k]?) ∧ Below eb w3 wd) := Lib.hid (by rw [← hwd]; exact ⟨HW.out.1, HW.out.2.1, HW.out.2.2.drew⟩)
    rw [hwd] at hHeld ⊢
    have HW := HWd
    clear HWd hwd
    (refine lib.tk 0 ?_ rfl (by kernel_rfl) (fun _ _ _ h => h) ?_ (by assumption) ?_; rotate_left; (focus (intro w hSw; (try dsimp only at hSw); go_simp; all_goals with_reducible rfl)); (try simp only [lib.hly]))
    (refine lib.tk 1 ?_ rfl (by kernel_rfl) (fun _ _ _ h => h) ?_ (by assumption) ?_; rotate_left; (focus (intro w hSw; (try dsimp only at hSw); go_simp; all_goals with_reducible rfl)); (try simp only [lib.hly]))
    (refine lib.tk 2 ?_ rfl (by kernel_rfl) (fun _ _ _ h => h) ?_ (by assumption) ?_; rotate_left; (focus (intro w hSw; (try dsimp only at hSw); go_simp; all_goals with_reducible rfl)); (try simp only [lib.hly]))
    (refine lib.tk 3 ?_ rfl (by kernel_rfl) (fun _ _ _ h => h) ?_ (by assumption) ?_; rotate_left; (focus (intro w hSw; (try dsimp only at hSw); go_simp; all_goals with_reducible rfl)); (try simp only [lib.hly]))
    (refine lib.tk 4 ?_ rfl (by kernel_rfl) (fun _ _ _ h => h) ?_ (by assumption) ?_; rotate_left; (focus (intro w hSw; (try dsimp only at hSw); go_simp; all_goals with_reducible rfl)); (try simp only [lib.hly]))
    (refine lib.tk 5 ?_ rfl (by kernel_rfl) (fun _ _ _ h => h) ?_ (by assumption) ?_; rotate_left; (focus (intro w hSw; (try dsimp only at hSw); go_simp; all_goals with_reducible rfl)); (try simp only [lib.hly]))
    (refine lib.tk 6 ?_ rfl (by kernel_rfl) (fun _ _ _ h => h) ?_ (by assumption) ?_; rotate_left; (focus (intro w hSw; (try dsimp only at hSw); go_simp; all_goals with_reducible rfl)); (try simp only [lib.hly]))
    have fc := HW.out.1.cell (j := 0) rfl
    have ff := HW.out.1.frozen 0
    (refine wpAnyH_ready (rs := [7]) (by kernel_rfl) (by simp) ?_; refine AllReadyH.cons rfl (fun K hK => ?_) AllReadyH.nil)
    go_simp
    clear fc ff
    obtain ⟨w4, hwb⟩ : ∃ W, wd.setCell ⟨eb, 0, none⟩ (.int .i64 n0) = W := ⟨_, rfl⟩
    rw [hwb]
    have HWd : Hid (Blk w4 eb 37 (List.set (z8 (evZ kd) none 0) 0 (.int .i64 n0)) ∧ (∀ k, k ≠ eb → w4.heap[k]? = w3.heap[k]?) ∧ Below eb w3 w4) := Lib.hid (by rw [← hwb]; exact ⟨HW.out.1.set _ _, fun k hk => (Below.heap_setCell _ _ _ _ hk).trans (HW.out.2.1 k hk), HW.out.2.2.setCell (p := ⟨eb, 0, none⟩) (Nat.le_refl _) _⟩)
    have HW := HWd
    clear HWd hwb
    refine hK.out _ _ (⟨HSC.out _ (HW.out.2.1 g HGE.out) 0 _ HN0.out, HSC.out _ (HW.out.2.1 g HGE.out) 1 _ HN1.out⟩) (fun hHeld => ?_)
    clear hK K
    (try simp only [lib.hly])
    (refine lib.tk 8 ?_ rfl (by kernel_rfl) (fun _ _ _ h => h) ?_ (by assumption) ?_; rotate_left; (focus (intro w hSw; (try dsimp only at hSw); go_simp; all_goals with_reducible rfl)); (try simp only [lib.hly]))
    have fc := HW.out.1.cell (j := 2) rfl
    have ff := HW.out.1.frozen 2
    (refine wpAnyH_ready (rs := [9]) (by kernel_rfl) (by simp) ?_; refine AllReadyH.cons rfl (fun K hK => ?_) AllReadyH.nil)
    go_simp
    clear fc ff
    obtain ⟨w5, hwb⟩ : ∃ W, w4.setCell ⟨eb, 2, none⟩ (.int .i64 n1) = W := ⟨_, rfl⟩
    rw [hwb]
    have HWd : Hid (Blk w5 eb 37 (List.set (List.set (z8 (evZ kd) none 0) 0 (.int .i64 n0)) 2 (.int .i64 n1)) ∧ (∀ k, k ≠ eb → w5.heap[k]? = w3.heap[k]?) ∧ Below eb w3 w5) := Lib.hid (by rw [← hwb]; exact ⟨HW.out.1.set _ _, fun k hk => (Below.heap_setCell _ _ _ _ hk).trans (HW.out.2.1 k hk), HW.out.2.2.setCell (p := ⟨eb, 2, none⟩) (Nat.le_refl _) _⟩)
    have HW := HWd
    clear HWd hwb
    refine hK.out _ _ (⟨HSC.out _ (HW.out.2.1 g HGE.out) 0 _ HN0.out, HSC.out _ (HW.out.2.1 g HGE.out) 1 _ HN1.out⟩) (fun hHeld => ?_)
    clear hK K
    (try simp only [lib.hly])
    (refine wpAnyH_done (by kernel_rfl) ?_ _)
    rcases hk2 with rfl | rfl | rfl | rfl
    ·skip
     have hcs : List.set (List.set (z8 (evZ 2) none 0) 0 (.int .i64 n0)) 2 (.int .i64 n1) = z8 (evtM 2 ns) none 0 := by simp [evtM, z8, evZ, HN0.out, HN1.out]
     have HPO : Hid (parseF L = some (evtM 2 ns)) := Lib.hid (by
      rw [HP1.out, HNA.out]
      show parse2 2 ns = _
      unfold parse2
      rw [if_neg (by rw [← HM1'.out, HCN.out]; simp)])
     have HE9 : Hid (Blk w5 eb 37 (z8 (evtM 2 ns) none 0)) := Lib.hid (by rw [← hcs]; exact HW.out.1)
     have HR9 : Hid (Blk w5 rb 37 (z8 zE none 0)) := Lib.hid ((HW.out.2.2.block rb (by omega)).trans HR3.out)
     have HB9 : Hid (Below w.heap.size w w5) := Lib.hid (HBW3.out.trans (HW.out.2.2.mono (by omega)))
     clear hcs
     go_wp2_with (first
      | ((with_reducible refine zH stEvt _ rfl ⟨eb, 0, none⟩ (z8 (evtM 2 ns) none 0) ?_ ?_ ?_ ?_ ?_); exact rfl; exact rfl; exact (HE9.out).cells; exact (rfl))
      | ((with_reducible refine zJ stEvt rfl _ _ rfl rb (z8 zE none 0) (z8 (evtM 2 ns) none 0) ?_ ?_ ?_ ?_ ?_ (yB _ _ _) ?_); exact rfl; exact rfl; exact (HR9.out); exact rfl; exact (rfl); intro wz k1 k2 k3 k4; have K := lib.h4 k1 k2 k3 k4; clear k1 k2 k3 k4))
     have HRz : Blk wz rb 37 (z8 (evtM 2 ns) none 0) := K.out.1
     have hbz : Below w.heap.size w wz := (HB9.out).trans (K.out.2.2.2.mono hrb)
     refine bodyPost_ret (v := .tuple #[.agg (z8 (evtM 2 ns) none 0).toArray, .bool true]) (big.zK stEvt Tryz.results74 rfl rfl HRz.cells (rfl)) rfl ?_
     exact ⟨hbz, .inr ⟨_, none, 0, HPO.out, rfl, ⟨Ints.nil, fun h => absurd h (by simp [evtM, ordO])⟩⟩⟩
    ·have hm4 : m1 = 4 := by rw [← HCN.out]; rfl
     have hlen := HM1'.out
     obtain ⟨n2, hn2'⟩ : ∃ y, ns[2]? = some y := ⟨_, List.getElem?_eq_getElem (by omega)⟩
     obtain ⟨n3, hn3'⟩ : ∃ y, ns[3]? = some y := ⟨_, List.getElem?_eq_getElem (by omega)⟩
     have HN2 := Lib.hid hn2'
     have HN3 := Lib.hid hn3'
     have hcn2 : (2 : Int) < (m1 : Int) := by omega
     have hcn3 : (3 : Int) < (m1 : Int) := by omega
     have hcn2n : 2 < m1 := by omega
     have hcn3n : 3 < m1 := by omega
     clear hn2' hn3' hlen hm4
     go_upto_region 21 with fail
     (refine wp_region_held_drew (S := (fun w' => w'.cell? ⟨g, 2, none⟩ = some (.int .i64 n2) ∧ w'.cell? ⟨g, 3, none⟩ = some (.int .i64 n3))) (by kernel_rfl) ?_ (fun hHeld => ?_))
     ·exact ⟨HSC.out _ (HW.out.2.1 g HGE.out) 2 _ HN2.out, HSC.out _ (HW.out.2.1 g HGE.out) 3 _ HN3.out⟩
     obtain ⟨wd2, hwd⟩ : ∃ W, w5.drew = W := ⟨_, rfl⟩
     have HWd : Hid (Blk wd2 eb 37 (List.set (List.set (z8 (evZ 3) none 0) 0 (.int .i64 n0)) 2 (.int .i64 n1)) ∧ (∀ k, k ≠ eb → wd2.heap[k]? = w3.heap[k]?) ∧ Below eb w3 wd2) := Lib.hid (by rw [← hwd]; exact ⟨HW.out.1, HW.out.2.1, HW.out.2.2.drew⟩)
     rw [hwd] at hHeld ⊢
     have HW := HWd
     clear HWd hwd
     (refine lib.tk 0 ?_ rfl (by kernel_rfl) (fun _ _ _ h => h) ?_ (by assumption) ?_; rotate_left; (focus (intro w hSw; (try dsimp only at hSw); go_simp; all_goals with_reducible rfl)); (try simp only [lib.hly]))
     (refine lib.tk 1 ?_ rfl (by kernel_rfl) (fun _ _ _ h => h) ?_ (by assumption) ?_; rotate_left; (focus (intro w hSw; (try dsimp only at hSw); go_simp; all_goals with_reducible rfl)); (try simp only [lib.hly]))
     (refine lib.tk 2 ?_ rfl (by kernel_rfl) (fun _ _ _ h => h) ?_ (by assumption) ?_; rotate_left; (focus (intro w hSw; (try dsimp only at hSw); go_simp; all_goals with_reducible rfl)); (try simp only [lib.hly]))
     (refine lib.tk 3 ?_ rfl (by kernel_rfl) (fun _ _ _ h => h) ?_ (by assumption) ?_; rotate_left; (focus (intro w hSw; (try dsimp only at hSw); go_simp; all_goals with_reducible rfl)); (try simp only [lib.hly]))
     (refine lib.tk 4 ?_ rfl (by kernel_rfl) (fun _ _ _ h => h) ?_ (by assumption) ?_; rotate_left; (focus (intro w hSw; (try dsimp only at hSw); go_simp; all_goals with_reducible rfl)); (try simp only [lib.hly]))
     (refine lib.tk 5 ?_ rfl (by kernel_rfl) (fun _ _ _ h => h) ?_ (by assumption) ?_; rotate_left; (focus (intro w hSw; (try dsimp only at hSw); go_simp; all_goals with_reducible rfl)); (try simp only [lib.hly]))
     (refine lib.tk 6 ?_ rfl (by kernel_rfl) (fun _ _ _ h => h) ?_ (by assumption) ?_; rotate_left; (focus (intro w hSw; (try dsimp only at hSw); go_simp; all_goals with_reducible rfl)); (try simp only [lib.hly]))
     have fc := HW.out.1.cell (j := 3) rfl
     have ff := HW.out.1.frozen 3
     (refine wpAnyH_ready (rs := [7]) (by kernel_rfl) (by simp) ?_; refine AllReadyH.cons rfl (fun K hK => ?_) AllReadyH.nil)
     go_simp
     clear fc ff
     obtain ⟨w6, hwb⟩ : ∃ W, wd2.setCell ⟨eb, 3, none⟩ (.int .i64 n2) = W := ⟨_, rfl⟩
     rw [hwb]
     have HWd : Hid (Blk w6 eb 37 (List.set (List.set (List.set (z8 (evZ 3) none 0) 0 (.int .i64 n0)) 2 (.int .i64 n1)) 3 (.int .i64 n2)) ∧ (∀ k, k ≠ eb → w6.heap[k]? = w3.heap[k]?) ∧ Below eb w3 w6) := Lib.hid (by rw [← hwb]; exact ⟨HW.out.1.set _ _, fun k hk => (Below.heap_setCell _ _ _ _ hk).trans (HW.out.2.1 k hk), HW.out.2.2.setCell (p := ⟨eb, 3, none⟩) (Nat.le_refl _) _⟩)
     have HW := HWd
     clear HWd hwb
     refine hK.out _ _ (⟨HSC.out _ (HW.out.2.1 g HGE.out) 2 _ HN2.out, HSC.out _ (HW.out.2.1 g HGE.out) 3 _ HN3.out⟩) (fun hHeld => ?_)
     clear hK K
     (try simp only [lib.hly])
     (refine lib.tk 8 ?_ rfl (by kernel_rfl) (fun _ _ _ h => h) ?_ (by assumption) ?_; rotate_left; (focus (intro w hSw; (try dsimp only at hSw); go_simp; all_goals with_reducible rfl)); (try simp only [lib.hly]))
     have fc := HW.out.1.cell (j := 4) rfl
     have ff := HW.out.1.frozen 4
     (refine wpAnyH_ready (rs := [9]) (by kernel_rfl) (by simp) ?_; refine AllReadyH.cons rfl (fun K hK => ?_) AllReadyH.nil)
     go_simp
     clear fc ff
     obtain ⟨w7, hwb⟩ : ∃ W, w6.setCell ⟨eb, 4, none⟩ (.int .i64 n3) = W := ⟨_, rfl⟩
     rw [hwb]
     have HWd : Hid (Blk w7 eb 37 (List.set (List.set (List.set (List.set (z8 (evZ 3) none 0) 0 (.int .i64 n0)) 2 (.int .i64 n1)) 3 (.int .i64 n2)) 4 (.int .i64 n3)) ∧ (∀ k, k ≠ eb → w7.heap[k]? = w3.heap[k]?) ∧ Below eb w3 w7) := Lib.hid (by rw [← hwb]; exact ⟨HW.out.1.set _ _, fun k hk => (Below.heap_setCell _ _ _ _ hk).trans (HW.out.2.1 k hk), HW.out.2.2.setCell (p := ⟨eb, 4, none⟩) (Nat.le_refl _) _⟩)
     have HW := HWd
     clear HWd hwb
     refine hK.out _ _ (⟨HSC.out _ (HW.out.2.1 g HGE.out) 2 _ HN2.out, HSC.out _ (HW.out.2.1 g HGE.out) 3 _ HN3.out⟩) (fun hHeld => ?_)
     clear hK K
     (try simp only [lib.hly])
     (refine wpAnyH_done (by kernel_rfl) ?_ _)
     have hcs : List.set (List.set (List.set (List.set (z8 (evZ 3) none 0) 0 (.int .i64 n0)) 2 (.int .i64 n1)) 3 (.int .i64 n2)) 4 (.int .i64 n3) = z8 (evtM 3 ns) none 0 := by simp [evtM, z8, evZ, HN0.out, HN1.out, HN2.out, HN3.out]
     have HPO : Hid (parseF L = some (evtM 3 ns)) := Lib.hid (by
      rw [HP1.out, HNA.out]
      show parse2 3 ns = _
      unfold parse2
      rw [if_neg (by rw [← HM1'.out, HCN.out]; simp)])
     have HE9 : Hid (Blk w7 eb 37 (z8 (evtM 3 ns) none 0)) := Lib.hid (by rw [← hcs]; exact HW.out.1)
     have HR9 : Hid (Blk w7 rb 37 (z8 zE none 0)) := Lib.hid ((HW.out.2.2.block rb (by omega)).trans HR3.out)
     have HB9 : Hid (Below w.heap.size w w7) := Lib.hid (HBW3.out.trans (HW.out.2.2.mono (by omega)))
     clear hcs
     go_wp2_with (first
      | ((with_reducible refine zH stEvt _ rfl ⟨eb, 0, none⟩ (z8 (evtM 3 ns) none 0) ?_ ?_ ?_ ?_ ?_); exact rfl; exact rfl; exact (HE9.out).cells; exact (rfl))
      | ((with_reducible refine zJ stEvt rfl _ _ rfl rb (z8 zE none 0) (z8 (evtM 3 ns) none 0) ?_ ?_ ?_ ?_ ?_ (yB _ _ _) ?_); exact rfl; exact rfl; exact (HR9.out); exact rfl; exact (rfl); intro wz k1 k2 k3 k4; have K := lib.h4 k1 k2 k3 k4; clear k1 k2 k3 k4))
     have HRz : Blk wz rb 37 (z8 (evtM 3 ns) none 0) := K.out.1
     have hbz : Below w.heap.size w wz := (HB9.out).trans (K.out.2.2.2.mono hrb)
     refine bodyPost_ret (v := .tuple #[.agg (z8 (evtM 3 ns) none 0).toArray, .bool true]) (big.zK stEvt Tryz.results74 rfl rfl HRz.cells (rfl)) rfl ?_
     exact ⟨hbz, .inr ⟨_, none, 0, HPO.out, rfl, ⟨Ints.nil, fun h => absurd h (by simp [evtM, ordO])⟩⟩⟩
    ·skip
     have hcs : List.set (List.set (z8 (evZ 4) none 0) 0 (.int .i64 n0)) 2 (.int .i64 n1) = z8 (evtM 4 ns) none 0 := by simp [evtM, z8, evZ, HN0.out, HN1.out]
     have HPO : Hid (parseF L = some (evtM 4 ns)) := Lib.hid (by
      rw [HP1.out, HNA.out]
      show parse2 4 ns = _
      unfold parse2
      rw [if_neg (by rw [← HM1'.out, HCN.out]; simp)])
     have HE9 : Hid (Blk w5 eb 37 (z8 (evtM 4 ns) none 0)) := Lib.hid (by rw [← hcs]; exact HW.out.1)
     have HR9 : Hid (Blk w5 rb 37 (z8 zE none 0)) := Lib.hid ((HW.out.2.2.block rb (by omega)).trans HR3.out)
     have HB9 : Hid (Below w.heap.size w w5) := Lib.hid (HBW3.out.trans (HW.out.2.2.mono (by omega)))
     clear hcs
     go_wp2_with (first
      | ((with_reducible refine zH stEvt _ rfl ⟨eb, 0, none⟩ (z8 (evtM 4 ns) none 0) ?_ ?_ ?_ ?_ ?_); exact rfl; exact rfl; exact (HE9.out).cells; exact (rfl))
      | ((with_reducible refine zJ stEvt rfl _ _ rfl rb (z8 zE none 0) (z8 (evtM 4 ns) none 0) ?_ ?_ ?_ ?_ ?_ (yB _ _ _) ?_); exact rfl; exact rfl; exact (HR9.out); exact rfl; exact (rfl); intro wz k1 k2 k3 k4; have K := lib.h4 k1 k2 k3 k4; clear k1 k2 k3 k4))
     have HRz : Blk wz rb 37 (z8 (evtM 4 ns) none 0) := K.out.1
     have hbz : Below w.heap.size w wz := (HB9.out).trans (K.out.2.2.2.mono hrb)
     refine bodyPost_ret (v := .tuple #[.agg (z8 (evtM 4 ns) none 0).toArray, .bool true]) (big.zK stEvt Tryz.results74 rfl rfl HRz.cells (rfl)) rfl ?_
     exact ⟨hbz, .inr ⟨_, none, 0, HPO.out, rfl, ⟨Ints.nil, fun h => absurd h (by simp [evtM, ordO])⟩⟩⟩
    ·have hm4 : m1 = 3 := by rw [← HCN.out]; rfl
     have hlen := HM1'.out
     obtain ⟨n2, hn2'⟩ : ∃ y, ns[2]? = some y := ⟨_, List.getElem?_eq_getElem (by omega)⟩
     have HN2 := Lib.hid hn2'
     have hcn2 : (2 : Int) < (m1 : Int) := by omega
     have hcn2n : 2 < m1 := by omega
     clear hn2' hlen hm4
     have fg := HSC.out w5 (HW.out.2.1 g HGE.out) 2 _ HN2.out
     have fc := HW.out.1.cell (j := 4) rfl
     have ff := HW.out.1.frozen 4
     go_upto_region 24 with fail
     clear fg fc ff
     obtain ⟨w6, hwb⟩ : ∃ W, w5.setCell ⟨eb, 4, none⟩ (.int .i64 n2) = W := ⟨_, rfl⟩
     rw [hwb]
     have HWd : Hid (Blk w6 eb 37 (List.set (List.set (List.set (z8 (evZ 5) none 0) 0 (.int .i64 n0)) 2 (.int .i64 n1)) 4 (.int .i64 n2)) ∧ (∀ k, k ≠ eb → w6.heap[k]? = w3.heap[k]?) ∧ Below eb w3 w6) := Lib.hid (by rw [← hwb]; exact ⟨HW.out.1.set _ _, fun k hk => (Below.heap_setCell _ _ _ _ hk).trans (HW.out.2.1 k hk), HW.out.2.2.setCell (p := ⟨eb, 4, none⟩) (Nat.le_refl _) _⟩)
     have HW := HWd
     clear HWd hwb
     have hcs : List.set (List.set (List.set (z8 (evZ 5) none 0) 0 (.int .i64 n0)) 2 (.int .i64 n1)) 4 (.int .i64 n2) = z8 (evtM 5 ns) none 0 := by simp [evtM, z8, evZ, HN0.out, HN1.out, HN2.out]
     have HPO : Hid (parseF L = some (evtM 5 ns)) := Lib.hid (by
      rw [HP1.out, HNA.out]
      show parse2 5 ns = _
      unfold parse2
      rw [if_neg (by rw [← HM1'.out, HCN.out]; simp)])
     have HE9 : Hid (Blk w6 eb 37 (z8 (evtM 5 ns) none 0)) := Lib.hid (by rw [← hcs]; exact HW.out.1)
     have HR9 : Hid (Blk w6 rb 37 (z8 zE none 0)) := Lib.hid ((HW.out.2.2.block rb (by omega)).trans HR3.out)
     have HB9 : Hid (Below w.heap.size w w6) := Lib.hid (HBW3.out.trans (HW.out.2.2.mono (by omega)))
     clear hcs
     go_wp2_with (first
      | ((with_reducible refine zH stEvt _ rfl ⟨eb, 0, none⟩ (z8 (evtM 5 ns) none 0) ?_ ?_ ?_ ?_ ?_); exact rfl; exact rfl; exact (HE9.out).cells; exact (rfl))
      | ((with_reducible refine zJ stEvt rfl _ _ rfl rb (z8 zE none 0) (z8 (evtM 5 ns) none 0) ?_ ?_ ?_ ?_ ?_ (yB _ _ _) ?_); exact rfl; exact rfl; exact (HR9.out); exact rfl; exact (rfl); intro wz k1 k2 k3 k4; have K := lib.h4 k1 k2 k3 k4; clear k1 k2 k3 k4))
     have HRz : Blk wz rb 37 (z8 (evtM 5 ns) none 0) := K.out.1
     have hbz : Below w.heap.size w wz := (HB9.out).trans (K.out.2.2.2.mono hrb)
     refine bodyPost_ret (v := .tuple #[.agg (z8 (evtM 5 ns) none 0).toArray, .bool true]) (big.zK stEvt Tryz.results74 rfl rfl HRz.cells (rfl)) rfl ?_
     exact ⟨hbz, .inr ⟨_, none, 0, HPO.out, rfl, ⟨Ints.nil, fun h => absurd h (by simp [evtM, ordO])⟩⟩⟩
end Go.Proofs.YtofabhenmplkoaaGreatDoor.evt
namespace Go.Proofs.YtofabhenmplkoaaGreatDoor.evt
open Go.RowKit
open lib rd app els typ big ins ord
open gen hiding zOrd bOrd
open off (setM yF yJ zU)
open txt (in64 By strV strV_of joinS decW decW_any Tabs elem_str nameB name_any yA Strs numL number_any own_cap WordsOk WdOut words_any)
theorem mem_lens : ∀ {L : List By} {x : By}, x ∈ L → x.length ≤ Lib.lens L
 | y :: L, x, h => by
  simp only [Lib.lens, List.map_cons, List.sum_cons]
  rcases List.mem_cons.1 h with rfl | h
  ·omega
  ·have := mem_lens h
   simp only [Lib.lens] at this
   omega
theorem mem_join {L : List By} {x : By} (h : x ∈ L) : x.length ≤ (joinS L).length := by
 cases L with
 | nil => cases h
 | cons y r =>
  have h1 := mem_lens h
  unfold joinS
  rw [Lib.join_length]
  omega
def PsOut (s : By) (w : World) (en : Ending) (w' : World) : Prop := Below w.heap.size w w' ∧
 ((ParseOk s none ∧ en = .returned (.tuple #[.agg (z8 zE none 0).toArray, .int .i64 3])) ∨ ∃ (e : Evt) (C : Option Addr) (c : Nat), ParseOk s (some e) ∧ e.order.name.size ≤ 100000 ∧ e.order.load.length ≤ 3 ∧ en = .returned (.tuple #[.agg (z8 e C c).toArray, .int .i64 0]) ∧ yM w' (fun b => w.heap.size ≤ b) C e.order.load)
theorem parse_name {L : List By} {e : Evt} (h : parseF L = some e) (hL : ∀ x ∈ L, x.length ≤ 100000) : e.order.name.size ≤ 100000 := by
 cases L with
 | nil => cases h
 | cons x r =>
  by_cases hr : r = []
  ·rw [show parseF (x :: r) = none from if_pos hr] at h
   cases h
  ·rw [parseF_cons x hr] at h
   split at h
   ·obtain ⟨o, h1, h2⟩ := Option.bind_eq_some_iff.1 h
    unfold parse1 at h2
    split at h2
    ·obtain rfl := Option.some.inj h2
     show o.name.size ≤ _
     cases hq : r.drop 1 with
     | nil => rw [hq] at h1; cases h1
     | cons y q =>
      rw [hq] at h1
      by_cases hq0 : q = []
      ·rw [show readO (y :: q) = none from if_pos hq0] at h1
       cases h1
      ·rw [readO_cons y hq0] at h1
       obtain ⟨n, h3, h4⟩ := Option.bind_eq_some_iff.1 h1
       obtain ⟨k, _, _, _, rfl⟩ := readN_some h4 (readF_len h3).2
       have h5 := hL y (List.mem_cons_of_mem _ (List.mem_of_mem_drop (by rw [hq]; exact List.mem_cons_self ..)))
       show y.toArray.size ≤ _
       simpa using h5
    ·cases h2
   ·obtain ⟨n, h1, h2⟩ := Option.bind_eq_some_iff.1 h
    unfold parse2 at h2
    split at h2
    ·cases h2
    ·obtain rfl := Option.some.inj h2
     show (⟨#[]⟩ : ByteArray).size ≤ _
     decide
set_option maxRecDepth 20000 in
set_option maxHeartbeats 8000000 in
theorem eparse_any (s : ByteArray) (hs : s.size ≤ 60000) (w : World) (ht : Tabs w) : Calls Tryz.prog 24 #[.string s] w (PsOut s.data.toList w) := by
 obtain ⟨W0, hW0⟩ : ∃ W0, w.alloc (.cells (z8 zE none 0).toArray 37) = W0 := ⟨_, rfl⟩
 have hB0 : Below w.heap.size w W0 := by rw [← hW0]; exact (Below.refl _ _).alloc (Nat.le_refl _) _
 have z0 := hB0.size
 have b0 : Blk W0 w.heap.size 37 (z8 zE none 0) := by rw [← hW0]; exact Blk.new w _ _
 obtain ⟨rb, hrb0⟩ : ∃ b, w.heap.size = b := ⟨_, rfl⟩
 have hrb : w.heap.size ≤ rb := by omega
 have zz : rb < W0.heap.size := by rw [← hrb0]; exact b0.lt
 have HB0 := Lib.hid hB0
 have HR0 := Lib.hid b0
 have HT := Lib.hid (ht.below hB0)
 have HW0 := Lib.hid (show w.alloc (.cells #[.int .i64 0, .int .i64 0, .int .i64 0, .int .i64 0, .int .i64 0, .string ⟨#[]⟩, .slice none 0 0, .int .i64 0, .int .i64 0, .int .i64 0, .int .i64 0, .int .i64 0, .int .i64 0, .int .i64 0, .int .i64 0, .int .i64 0, .int .i64 0, .int .i64 0, .int .i64 0, .int .i64 0, .bool false] 37) = W0 from hW0)
 have hs2 : ¬ (65536 : Int) < (s.size : Int) := by omega
 obtain ⟨S, hS⟩ : ∃ S, s.data.toList = S := ⟨_, rfl⟩
 have HS := Lib.hid hS
 have HSL : Hid (S.length ≤ 60000) := Lib.hid (by rw [← hS]; simpa using hs)
 have hwd : Calls Tryz.prog 73 #[.string s] W0 (WdOut S W0) := by rw [← hS]; exact words_any s (by omega) W0
 rw [hS]
 clear ht b0 hB0 hW0 hS
 go_enter Tryz.func24, Tryz.ntmps24
 go_upto_region 1 with fail
 rw [HW0.out]
 rw [hrb0] at HR0
 clear HW0
 have hwd2 : Calls Tryz.prog 73 #[.string s] W0 fun e w' => ∃ (A : Option Addr) (n c : Nat) (f : Int) (L : List By), e = .returned (.tuple #[.slice A n c, .int .i64 f]) ∧ Below W0.heap.size W0 w' ∧ (f = 3 ∧ WordsOk S none ∨ f = 0 ∧ WordsOk S (some L) ∧ n = L.length ∧ n ≤ c ∧ Strs w' w'.heap.size A L) := hwd.mono (by
  rintro e w' ⟨hb, ⟨rfl, h⟩ | ⟨L, A, c, rfl, h1, h2, h3⟩⟩
  ·exact ⟨none, 0, 0, 3, [], rfl, hb, .inl ⟨rfl, h⟩⟩
  ·exact ⟨A, L.length, c, 0, L, rfl, hb, .inr ⟨rfl, h1, rfl, h2, h3⟩⟩)
 clear hwd
 go_upto_region 4 with (go_at_call 73; refine hwd2.mono ?_; rintro e1 w1 ⟨A, n, c, f, L, rfl, hb1, h9⟩; have HWO := Lib.hid h9; clear h9)
 have HB1 := Lib.hid hb1
 have z1 := hb1.size
 have HR1 : Hid (Blk w1 rb 37 (z8 zE none 0)) := Lib.hid ((hb1.block rb zz).trans HR0.out)
 have HBW1 := Lib.hid (HB0.out.trans (hb1.mono z0))
 clear hb1 hwd2
 rcases HWO.out with ⟨hf, hwo⟩ | ⟨hf, hwo, hnL, hnc, hst⟩
 ·subst hf
  have HEE : Hid (ParseOk S none) := Lib.hid (ParseOk.prog hwo (fun L h => by cases h))
  clear hwo
  go_wp2_with (first
   | ((with_reducible refine zP bEvt rfl [] rfl [] (z8 zE none 0) ?_ evt_fill0 ?_); exact rfl)
   | ((with_reducible refine zJ stEvt rfl _ _ rfl (rb) (z8 zE none 0) (z8 zE none 0) ?_ ?_ ?_ ?_ ?_ (yB _ _ _) ?_); exact rfl; exact rfl; exact (HR1.out); exact rfl; exact (rfl); intro wz k1 k2 k3 k4; have K := lib.h4 k1 k2 k3 k4; clear k1 k2 k3 k4))
  have HRz : Blk wz rb 37 (z8 zE none 0) := K.out.1
  refine bodyPost_ret (v := .tuple #[.agg (z8 zE none 0).toArray, .int .i64 3]) (big.zK stEvt Tryz.results24 rfl rfl HRz.cells rfl) rfl ?_
  exact ⟨(HBW1.out).trans (K.out.2.2.2.mono hrb), .inl ⟨HEE.out, rfl⟩⟩
 subst hf
 have hml : ∀ x ∈ L, x.length ≤ 100000 := fun x hx => by
  rcases hwo.join L rfl with ⟨_, h⟩ | ⟨h, _⟩
  ·have := mem_join hx
   rw [← h] at this
   have := HSL.out
   omega
  ·rw [h] at hx; cases hx
 have HML := Lib.hid hml
 have HPK : Hid (ParseOk S (parseS S (some L))) := Lib.hid (ParseOk.prog hwo (fun L' h x hx => by rw [Option.some.inj h] at hml; exact hml x hx))
 have hpa : Calls Tryz.prog 74 #[.slice A n c] w1 (PaOut w1 L) := parse_any L A n c hnL hnc w1 hst hml (HT.out.below (HB1.out))
 have hpa2 : Calls Tryz.prog 74 #[.slice A n c] w1 fun e w' => ∃ (cs : List Value) (ok : Bool), e = .returned (.tuple #[.agg cs.toArray, .bool ok]) ∧ Below w1.heap.size w1 w' ∧ cs.length = 21 ∧ (∀ u ∈ cs, u.oneCell' = true) ∧ (ok = false → parseF L = none) ∧ (ok = true → ∃ e C c, parseF L = some e ∧ cs = z8 e C c ∧ yM w' (fun b => w1.heap.size ≤ b) C e.order.load) := hpa.mono (by
  rintro e w' ⟨hb, ⟨h, cs, h1, h2, rfl⟩ | ⟨e, C, c, h, rfl, h3⟩⟩
  ·exact ⟨cs, false, rfl, hb, h1, h2, fun _ => h, fun e => (by cases e)⟩
  ·exact ⟨_, true, rfl, hb, rfl, yB _ _ _, fun e => (by cases e), fun _ => ⟨e, C, c, h, rfl, h3⟩⟩)
 clear hwo hnL hnc hst hml hpa
 go_upto_region 7 with (first
  | (go_at_call 74; refine hpa2.mono ?_; rintro e2 w2 ⟨cs, ok, rfl, hb2, h9⟩; have HPO := Lib.hid h9; clear h9)
  | ((with_reducible refine zJ stEvt rfl _ _ rfl (w2.heap.size) (z8 zE none 0) (cs) ?_ ?_ ?_ ?_ ?_ (HPO.out.2.1) ?_); exact rfl; exact rfl; exact Blk.new w2 _ _; exact rfl; exact (HPO.out.1); intro wz k1 k2 k3 k4; have K := lib.h4 k1 k2 k3 k4; clear k1 k2 k3 k4))
 have z2 := hb2.size
 have b23 : Below w2.heap.size w2 wz := ((Below.refl _ _).alloc (Nat.le_refl _) _).trans K.out.2.2.2
 obtain ⟨w3, hw3⟩ : ∃ W, wz = W := ⟨_, rfl⟩
 obtain ⟨eb, heb⟩ : ∃ q, w2.heap.size = q := ⟨_, rfl⟩
 have HE3 : Hid (Blk w3 eb 37 cs) := Lib.hid (by rw [← hw3, ← heb]; exact K.out.1)
 rw [hw3] at b23 ⊢
 have hb3 : Below w1.heap.size w1 w3 := hb2.trans (b23.mono z2)
 have HB3 : Hid (Below W0.heap.size W0 w3) := Lib.hid (HB1.out.trans (hb3.mono z1))
 have HR3 : Hid (Blk w3 rb 37 (z8 zE none 0)) := Lib.hid ((hb3.block rb (by omega)).trans HR1.out)
 have HBW3 := Lib.hid (HBW1.out.trans (hb3.mono (by omega)))
 have HI3 : Hid (ok = true → ∃ e C c, parseF L = some e ∧ cs = z8 e C c ∧ yM w3 (fun b => w1.heap.size ≤ b ∧ b < eb) C e.order.load) := Lib.hid (fun h => by
  obtain ⟨e, C, c, h1, h2, h3⟩ := HPO.out.2.2.2 h
  exact ⟨e, C, c, h1, h2, zU h3 b23.size (fun b hb hp => ⟨⟨hp, by omega⟩, b23.block b hb⟩)⟩)
 have heb1 : w1.heap.size ≤ eb := by omega
 have HPN := Lib.hid HPO.out.2.2.1
 rw [heb]
 clear K hw3 b23 heb hb3 hb2 hpa2 HPO
 cases ok
 ·have HEE : Hid (ParseOk S none) := Lib.hid (by
   have h := HPK.out
   unfold parseS at h
   rw [show (some L).bind parseF = parseF L from rfl, HPN.out rfl] at h
   exact h)
  go_wp2_with (first
   | ((with_reducible refine zP bEvt rfl [] rfl [] (z8 zE none 0) ?_ evt_fill0 ?_); exact rfl)
   | ((with_reducible refine zJ stEvt rfl _ _ rfl (rb) (z8 zE none 0) (z8 zE none 0) ?_ ?_ ?_ ?_ ?_ (yB _ _ _) ?_); exact rfl; exact rfl; exact (HR3.out); exact rfl; exact (rfl); intro wz k1 k2 k3 k4; have K := lib.h4 k1 k2 k3 k4; clear k1 k2 k3 k4))
  have HRz : Blk wz rb 37 (z8 zE none 0) := K.out.1
  refine bodyPost_ret (v := .tuple #[.agg (z8 zE none 0).toArray, .int .i64 3]) (big.zK stEvt Tryz.results24 rfl rfl HRz.cells rfl) rfl ?_
  exact ⟨(HBW3.out).trans (K.out.2.2.2.mono hrb), .inl ⟨HEE.out, rfl⟩⟩
 obtain ⟨e, C, ce, he1, rfl, he3⟩ := HI3.out rfl
 have HPE := Lib.hid he1
 have HIE := Lib.hid he3
 obtain ⟨h64, hl3⟩ := parseF_64 he1 HML.out
 have hnm := parse_name he1 HML.out
 have H64 := Lib.hid (And.intro h64 (And.intro hl3 hnm))
 have HPS : Hid (ParseOk S (if prtE e = 0 ∧ joinS (partsF e) = S then some e else none)) := Lib.hid (by
  have h := HPK.out
  unfold parseS at h
  rw [show (some L).bind parseF = parseF L from rfl, he1] at h
  exact h)
 have hpr := print_any e C ce w3 (HT.out.below HB3.out) h64 he3.1 (by omega) (by omega)
 obtain ⟨pe, hpe⟩ : ∃ n, prtE e = n := ⟨_, rfl⟩
 obtain ⟨ps, hps⟩ : ∃ n, prtS e = n := ⟨_, rfl⟩
 have HPP := Lib.hid (And.intro hpe hps)
 have hpr2 : Calls Tryz.prog 22 #[.agg (z8 e C ce).toArray] w3 fun en w' => en = .returned (.tuple #[.string ⟨ps.toArray⟩, .int .i64 pe]) ∧ Below w3.heap.size w3 w' := hpr.mono (by
  rintro en w' ⟨rfl, hb⟩
  rw [hps, hpe]
  exact ⟨rfl, hb⟩)
 clear he1 he3 h64 hl3 hnm hpr hpe hps HI3 HPN HPK
 go_upto_region 10 with (first
  | ((with_reducible refine zH stEvt _ rfl ⟨eb, 0, none⟩ (z8 e C ce) ?_ ?_ ?_ ?_ ?_); exact rfl; exact rfl; exact HE3.out.cells; exact rfl)
  | (go_at_call 22; refine hpr2.mono ?_; rintro e4 w4 ⟨rfl, hb4⟩))
 have HE4 := Lib.hid (HE3.out.below hb4)
 have HR4 := Lib.hid (HR3.out.below hb4)
 have z4 := hb4.size
 have HBW4 := Lib.hid (HBW3.out.trans (hb4.mono (by have := HBW3.out.size; omega)))
 have HI4 : Hid (yM w4 (fun b => w1.heap.size ≤ b ∧ b < eb) C e.order.load) := Lib.hid (zU HIE.out hb4.size (fun b hb hp => ⟨hp, hb4.block b hb⟩))
 clear hb4 hpr2
 by_cases hp0 : pe = 0
 rotate_left
 ·have hp1 : (pe != 0) = true := by simp [hp0]
  have HEE : Hid (ParseOk S none) := Lib.hid (by
   have h := HPS.out
   rw [if_neg (by rw [HPP.out.1]; exact fun h => hp0 h.1)] at h
   exact h)
  go_wp2_with (first
   | ((with_reducible refine zP bEvt rfl [] rfl [] (z8 zE none 0) ?_ evt_fill0 ?_); exact rfl)
   | ((with_reducible refine zJ stEvt rfl _ _ rfl (rb) (z8 zE none 0) (z8 zE none 0) ?_ ?_ ?_ ?_ ?_ (yB _ _ _) ?_); exact rfl; exact rfl; exact (HR4.out); exact rfl; exact (rfl); intro wz k1 k2 k3 k4; have K := lib.h4 k1 k2 k3 k4; clear k1 k2 k3 k4))
  have HRz : Blk wz rb 37 (z8 zE none 0) := K.out.1
  refine bodyPost_ret (v := .tuple #[.agg (z8 zE none 0).toArray, .int .i64 3]) (big.zK stEvt Tryz.results24 rfl rfl HRz.cells rfl) rfl ?_
  exact ⟨(HBW4.out).trans (K.out.2.2.2.mono hrb), .inl ⟨HEE.out, rfl⟩⟩
 have hp1 : (pe != 0) = false := by simp [hp0]
 subst hp0
 have hsl : s.toList = S := by rw [yA]; exact HS.out
 by_cases hq : ps = S
 rotate_left
 ·have hq1 : (ps == s.toList) = false := by rw [hsl]; simpa using hq
  have hq2 : (ps != s.toList) = true := by rw [hsl]; simpa using hq
  have HEE : Hid (ParseOk S none) := Lib.hid (by
   have h := HPS.out
   rw [if_neg (fun h => hq ?_)] at h
   ·exact h
   ·rw [← HPP.out.2, ← h.2]
    unfold prtS
    rw [if_pos h.1])
  clear hsl hq
  go_wp2_with (first
   | ((with_reducible refine zP bEvt rfl [] rfl [] (z8 zE none 0) ?_ evt_fill0 ?_); exact rfl)
   | ((with_reducible refine zJ stEvt rfl _ _ rfl (rb) (z8 zE none 0) (z8 zE none 0) ?_ ?_ ?_ ?_ ?_ (yB _ _ _) ?_); exact rfl; exact rfl; exact (HR4.out); exact rfl; exact (rfl); intro wz k1 k2 k3 k4; have K := lib.h4 k1 k2 k3 k4; clear k1 k2 k3 k4))
  have HRz : Blk wz rb 37 (z8 zE none 0) := K.out.1
  refine bodyPost_ret (v := .tuple #[.agg (z8 zE none 0).toArray, .int .i64 3]) (big.zK stEvt Tryz.results24 rfl rfl HRz.cells rfl) rfl ?_
  exact ⟨(HBW4.out).trans (K.out.2.2.2.mono hrb), .inl ⟨HEE.out, rfl⟩⟩
 ·have hq1 : (ps == s.toList) = true := by rw [hsl]; simpa using hq
  have hq2 : (ps != s.toList) = false := by rw [hsl]; simpa using hq
  have HEE : Hid (ParseOk S (some e)) := Lib.hid (by
   have hj : joinS (partsF e) = S := by
    rw [← hq, ← HPP.out.2]
    unfold prtS
    rw [if_pos HPP.out.1]
   have h := HPS.out
   rw [if_pos ⟨HPP.out.1, hj⟩] at h
   exact h)
  clear hsl hq
  go_wp2_with (first
   | ((with_reducible refine zH stEvt _ rfl ⟨eb, 0, none⟩ (z8 e C ce) ?_ ?_ ?_ ?_ ?_); exact rfl; exact rfl; exact HE4.out.cells; exact rfl)
   | ((with_reducible refine zJ stEvt rfl _ _ rfl (rb) (z8 zE none 0) (z8 e C ce) ?_ ?_ ?_ ?_ ?_ (yB _ _ _) ?_); exact rfl; exact rfl; exact HR4.out; exact rfl; exact (rfl); intro wz k1 k2 k3 k4; have K := lib.h4 k1 k2 k3 k4; clear k1 k2 k3 k4))
  have HRz : Blk wz rb 37 (z8 e C ce) := K.out.1
  refine bodyPost_ret (v := .tuple #[.agg (z8 e C ce).toArray, .int .i64 0]) (big.zK stEvt Tryz.results24 rfl rfl HRz.cells rfl) rfl ?_
  refine ⟨HBW4.out.trans (K.out.2.2.2.mono hrb), .inr ⟨e, C, ce, HEE.out, H64.out.2.2, H64.out.2.1, rfl, ?_⟩⟩
  exact zU HI4.out (by rw [K.out.2.2.1]; exact Nat.le_refl _) (fun b hb hp => ⟨by have := hp.1; have := HBW1.out.size; show w.heap.size ≤ b; omega, K.out.2.1 b (by have := hp.1; omega)⟩)
end Go.Proofs.YtofabhenmplkoaaGreatDoor.evt
