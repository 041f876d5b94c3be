/- event.stop, event.numbers, event.order. -/
import Derived.Test.YtofabhenmplkoaaGreatDoorPrtP
import Derived.Test.YtofabhenmplkoaaGreatDoorBase
import Derived.Test.YtofabhenmplkoaaGreatDoorGenB
namespace Go.Proofs.YtofabhenmplkoaaGreatDoor.evt
open Go.RowKit
open Go.Proofs.YtofabhenmplkoaaGreatDoor.lib Go.Proofs.YtofabhenmplkoaaGreatDoor.rd Go.Proofs.YtofabhenmplkoaaGreatDoor.app Go.Proofs.YtofabhenmplkoaaGreatDoor.els Go.Proofs.YtofabhenmplkoaaGreatDoor.typ Go.Proofs.YtofabhenmplkoaaGreatDoor.big Go.Proofs.YtofabhenmplkoaaGreatDoor.ins Go.Proofs.YtofabhenmplkoaaGreatDoor.ord Go.Proofs.YtofabhenmplkoaaGreatDoor.gen
open Go.Proofs.YtofabhenmplkoaaGreatDoor.txt (in64 By)
set_option linter.unusedVariables false
set_option linter.unusedSimpArgs false

theorem elemI : ElemOf 31 3 (.int .i64 0) 1 8 := ⟨Tryz.underlying31, by kernel_rfl, rfl, by decide, by decide⟩
def intV (x : Int) : Value := .int .i64 x
theorem int_one : ∀ (l : List Int), ∀ u ∈ l.map (Value.int .i64), u.oneCell' = true := fun l u hu => by
  obtain ⟨x, _, rfl⟩ := List.mem_map.1 hu
  rfl
/-- Numbers in a row of the call's own. -/
def IOwn (w : World) (base : Nat) (A : Option Addr) (c : Nat) (l : List Int) : Prop := w.ownsRow base 3 1 (.slice A l.length c) l.length (l.map (.int .i64))
theorem IOwn.ints {w : World} {base c : Nat} {A : Option Addr} {l : List Int} (h : IOwn w base A c l) (hl : l.length ≤ 1000000) : Ints w w.heap.size A l := Ints.of_own h (by omega)
theorem IOwn.below {w w' : World} {base c : Nat} {A : Option Addr} {l : List Int} (h : IOwn w base A c l) (hb : Below w.heap.size w w') : IOwn w' base A c l := own_below h hb
theorem IOwn.lit {w : World} {base : Nat} (l : List Int) (hb : base ≤ w.heap.size) (hm : l.length ≤ 1000) : IOwn (w.alloc (.cells (l.map (.int .i64)).toArray 3)) base (some ⟨w.heap.size, 0, none⟩) l.length l := by
  have h := World.ownsRow_lit (base := base) (e := 3) (size := 1) w (l.map (.int .i64)).toArray l.length hb (by unfold maxLen; omega) (by simp)
  exact h
/-- 'out = append(out, xs...)' of numbers. -/
theorem app_ints {ops : Array Oper} {rest : List Oper} {o : Oper} {a : Act} {Q : Exit → Act → World → Prop} {w : World} (hgd : o.guard = none) (s x : Operand)
    (ho : o.op = .call { callee := .builtin .append, args := #[s, x], argTypes := #[31, 31] })
    (base : Nat) (A : Option Addr) (n c : Nat) (l : List Int) (hn : n = l.length) (hs : a.eval s = .slice A n c) (hown : IOwn w base A c l) (B : Nat) (C : Option Addr) (m d : Nat) (k : List Int) (hmk : m = k.length) (hx : a.eval x = .slice C m d) (hk : Ints w B C k) (hlen : n + m ≤ 1000000) (hbase : base ≤ w.heap.size)
    (h : ∀ A' c' w', IOwn w' base A' c' (l ++ k) → Below base w w' → wpList Tryz.prog ops Q rest (a.put o.dst (.slice A' (n + m) c')) w') : wpList Tryz.prog ops Q (o :: rest) a w := by
  subst hn; subst hmk
  refine wpList_appN elemI s x ho base (.slice A l.length c) l.length (l.map (.int .i64)) hs hown B C k.length d (k.map (.int .i64)) hx hk.1 (int_one k) (by omega) hbase hgd ?_
  intro A' c' w1 h1 hg
  refine h A' c' w1 ?_ ((Below.refl base w).grown hg hbase (own_base hown))
  unfold IOwn
  rw [List.length_append, List.map_append]
  exact h1

theorem stop_any (s : Stp) (w : World) : Calls Tryz.prog 124 #[.agg (StpCells s).toArray] w fun e w' => ∃ A, e = .returned (.slice A 4 4) ∧ Below w.heap.size w w' ∧ Ints w' w'.heap.size A (stpN s) := by
  show Calls Tryz.prog 124 #[.agg #[.int .i64 s.place, .int .i64 s.opn, .int .i64 s.close, .int .i64 s.service]] w _
  go_enter Tryz.func124, Tryz.ntmps124
  go_wp2
  go_ret
  refine ⟨_, rfl, ?_, ?_⟩
  · exact ((Below.refl _ w).alloc (Nat.le_refl _) _).alloc (by simp) _
  · have h := Ints.lit (w.alloc (.cells #[.int .i64 s.place, .int .i64 s.opn, .int .i64 s.close, .int .i64 s.service] 33)) (stpN s) (by unfold stpN; simp)
    simpa [stpN] using h
theorem pt_in (w : World) (o : Obj) {B : Nat} {A : Option Addr} {l : List Int} (h : Ints w B A l) (hB : B ≤ w.heap.size) : Ints (w.alloc o) B A l := h.alloc hB o
/-- Numbers are handed back, in a row of the call's own. -/
def IRet (w : World) (l : List Int) (en : Ending) (w' : World) : Prop := ∃ A cc n, en = .returned (.slice A n cc) ∧ n = l.length ∧ Below w.heap.size w w' ∧ IOwn w' w.heap.size A cc l
set_option maxRecDepth 20000 in
theorem numbers_any (e : Evt) (C : Option Addr) (c : Nat) (w : World) : Calls Tryz.prog 64 #[.agg (EvtCells e C c).toArray] w (IRet w (numsF e)) := by
  show Calls Tryz.prog 64 #[.agg #[.int .i64 e.at_, .int .i64 e.kind, .int .i64 e.a, .int .i64 e.b, .int .i64 e.n, .string e.order.name, .slice C e.order.load.length c, .int .i64 e.order.pick.place, .int .i64 e.order.pick.opn, .int .i64 e.order.pick.close, .int .i64 e.order.pick.service, .int .i64 e.order.drop.place, .int .i64 e.order.drop.opn, .int .i64 e.order.drop.close, .int .i64 e.order.drop.service, .int .i64 e.order.skills, .int .i64 e.order.penalty, .int .i64 e.order.split, .int .i64 e.order.last, .int .i64 e.order.now, .bool e.order.off]] w _
  obtain ⟨W0, hW0⟩ : ∃ W0, w.alloc (.cells (EvtCells e C c).toArray 37) = W0 := ⟨_, rfl⟩
  have hB0 : Below w.heap.size w W0 := by rw [← hW0]; exact (Below.refl _ _).alloc (Nat.le_refl _) _
  have z0 := hB0.size
  have b0 : Blk W0 w.heap.size 37 (EvtCells e C c) := by rw [← hW0]; exact Blk.new w _ _
  have HE0 := Lib.hid b0
  have hW1 : w.alloc (.cells #[.int .i64 e.at_, .int .i64 e.kind, .int .i64 e.a, .int .i64 e.b, .int .i64 e.n, .string e.order.name, .slice C e.order.load.length c, .int .i64 e.order.pick.place, .int .i64 e.order.pick.opn, .int .i64 e.order.pick.close, .int .i64 e.order.pick.service, .int .i64 e.order.drop.place, .int .i64 e.order.drop.opn, .int .i64 e.order.drop.close, .int .i64 e.order.drop.service, .int .i64 e.order.skills, .int .i64 e.order.penalty, .int .i64 e.order.split, .int .i64 e.order.last, .int .i64 e.order.now, .bool e.order.off] 37) = W0 := hW0
  have HW1 := Lib.hid hW1
  have c0 := b0.cell (j := 0) rfl
  have c1 := b0.cell (j := 1) rfl
  have c2 := b0.cell (j := 2) rfl
  have c3 := b0.cell (j := 3) rfl
  have c4 := b0.cell (j := 4) rfl
  clear hW0 hW1 b0
  have zz : w.heap.size < W0.heap.size := Lib.lt_of_cell c0
  have HL : Hid (IOwn (W0.alloc (.cells #[.int .i64 e.at_] 3)) w.heap.size (some ⟨W0.heap.size, 0, none⟩) 1 [e.at_]) := Lib.hid (IOwn.lit (w := W0) (base := w.heap.size) [e.at_] z0 (by simp))
  go_enter Tryz.func64, Tryz.ntmps64
  go_upto_region 1 with fail
  rw [HW1.out]
  clear HW1
  have HB0 := Lib.hid hB0
  clear hB0
  by_cases k3 : e.kind = 3
  · have HN : Hid (numsF e = [e.at_] ++ [e.a, e.b, e.n]) := Lib.hid (by unfold numsF; rw [if_pos k3]; rfl)
    have HK : Hid (Ints ((W0.alloc (.cells #[.int .i64 e.at_] 3)).alloc (.cells #[.int .i64 e.a, .int .i64 e.b, .int .i64 e.n] 3)) (W0.heap.size + 1 + 1) (some ⟨W0.heap.size + 1, 0, none⟩) [e.a, e.b, e.n]) := Lib.hid (by
      have h := Ints.lit (W0.alloc (.cells #[.int .i64 e.at_] 3)) [e.a, e.b, e.n] (by simp)
      simpa using h)
    go_wp2_with (at_builtin; refine app_ints rfl _ _ rfl w.heap.size (some ⟨W0.heap.size, 0, none⟩) 1 1 [e.at_] rfl rfl (HL.out.below ((Below.refl _ _).alloc (Nat.le_refl _) _)) _ _ 3 3 [e.a, e.b, e.n] rfl rfl HK.out (by omega) (by simp; omega) ?_; intro A' c' w1 hA hb1)
    go_ret
    refine ⟨A', c', 4, rfl, by rw [HN.out]; rfl, ((HB0.out.alloc z0 _).alloc (by simp; omega) _).trans hb1, ?_⟩
    rw [HN.out]; exact hA
  by_cases k5 : e.kind = 5
  · have HN : Hid (numsF e = [e.at_] ++ [e.a, e.n]) := Lib.hid (by unfold numsF; rw [if_neg k3, if_pos k5]; rfl)
    have HK : Hid (Ints ((W0.alloc (.cells #[.int .i64 e.at_] 3)).alloc (.cells #[.int .i64 e.a, .int .i64 e.n] 3)) (W0.heap.size + 1 + 1) (some ⟨W0.heap.size + 1, 0, none⟩) [e.a, e.n]) := Lib.hid (by
      have h := Ints.lit (W0.alloc (.cells #[.int .i64 e.at_] 3)) [e.a, e.n] (by simp)
      simpa using h)
    go_wp2_with (at_builtin; refine app_ints rfl _ _ rfl w.heap.size (some ⟨W0.heap.size, 0, none⟩) 1 1 [e.at_] rfl rfl (HL.out.below ((Below.refl _ _).alloc (Nat.le_refl _) _)) _ _ 2 2 [e.a, e.n] rfl rfl HK.out (by omega) (by simp; omega) ?_; intro A' c' w1 hA hb1)
    go_ret
    refine ⟨A', c', 3, rfl, by rw [HN.out]; rfl, ((HB0.out.alloc z0 _).alloc (by simp; omega) _).trans hb1, ?_⟩
    rw [HN.out]; exact hA
  by_cases k4 : e.kind = 4 ∨ e.kind = 2
  · have HN : Hid (numsF e = [e.at_] ++ [e.a]) := Lib.hid (by unfold numsF; rw [if_neg k3, if_neg k5, if_pos k4]; rfl)
    have HK : Hid (Ints ((W0.alloc (.cells #[.int .i64 e.at_] 3)).alloc (.cells #[.int .i64 e.a] 3)) (W0.heap.size + 1 + 1) (some ⟨W0.heap.size + 1, 0, none⟩) [e.a]) := Lib.hid (by
      have h := Ints.lit (W0.alloc (.cells #[.int .i64 e.at_] 3)) [e.a] (by simp)
      simpa using h)
    rcases k4 with k4 | k4
    all_goals
      go_wp2_with (at_builtin; refine app_ints rfl _ _ rfl w.heap.size (some ⟨W0.heap.size, 0, none⟩) 1 1 [e.at_] rfl rfl (HL.out.below ((Below.refl _ _).alloc (Nat.le_refl _) _)) _ _ 1 1 [e.a] rfl rfl HK.out (by omega) (by simp; omega) ?_; intro A' c' w1 hA hb1)
      go_ret
      refine ⟨A', c', 2, rfl, by rw [HN.out]; rfl, ((HB0.out.alloc z0 _).alloc (by simp; omega) _).trans hb1, ?_⟩
      rw [HN.out]; exact hA
  · have HN : Hid (numsF e = [e.at_]) := Lib.hid (by unfold numsF; rw [if_neg k3, if_neg k5, if_neg k4])
    rw [not_or] at k4
    obtain ⟨k4, k2⟩ := k4
    go_wp2
    go_ret
    refine ⟨_, 1, 1, rfl, by rw [HN.out]; rfl, HB0.out.alloc z0 _, ?_⟩
    rw [HN.out]; exact HL.out
theorem ord_stp1 {w : World} {b : Nat} {o : Ord} {C : Option Addr} {c : Nat} (h : Blk w b 35 (OrdCells o C c)) : CellsAt w ⟨b, 2, none⟩ (StpCells o.pick) := fun j u hu => by
  have hj : j < 4 := (List.getElem?_eq_some_iff.1 hu).1
  have h1 := h.cells (j + 2) u (by
    rw [← hu]
    show (OrdCells o C c)[j + 2]? = (StpCells o.pick)[j]?
    match j, hj with
    | 0, _ => rfl
    | 1, _ => rfl
    | 2, _ => rfl
    | 3, _ => rfl)
  rw [Addr.add_mid] at h1 ⊢
  rw [show 2 + j = 0 + (j + 2) by omega]
  exact h1
theorem ord_stp2 {w : World} {b : Nat} {o : Ord} {C : Option Addr} {c : Nat} (h : Blk w b 35 (OrdCells o C c)) : CellsAt w ⟨b, 6, none⟩ (StpCells o.drop) := fun j u hu => by
  have hj : j < 4 := (List.getElem?_eq_some_iff.1 hu).1
  have h1 := h.cells (j + 6) u (by
    rw [← hu]
    show (OrdCells o C c)[j + 6]? = (StpCells o.drop)[j]?
    match j, hj with
    | 0, _ => rfl
    | 1, _ => rfl
    | 2, _ => rfl
    | 3, _ => rfl)
  rw [Addr.add_mid] at h1 ⊢
  rw [show 6 + j = 0 + (j + 6) by omega]
  exact h1
set_option maxRecDepth 20000 in
set_option maxHeartbeats 1000000 in
theorem order_any (o : Ord) (C : Option Addr) (c : Nat) (w : World) (hI : Ints w w.heap.size C o.load) (hn : o.load.length ≤ 1000) : Calls Tryz.prog 67 #[.agg (OrdCells o C c).toArray] w (IRet w (ordN o)) := by
  show Calls Tryz.prog 67 #[.agg #[.string o.name, .slice C o.load.length c, .int .i64 o.pick.place, .int .i64 o.pick.opn, .int .i64 o.pick.close, .int .i64 o.pick.service, .int .i64 o.drop.place, .int .i64 o.drop.opn, .int .i64 o.drop.close, .int .i64 o.drop.service, .int .i64 o.skills, .int .i64 o.penalty, .int .i64 o.split, .int .i64 o.last, .int .i64 o.now, .bool o.off]] w _
  obtain ⟨W0, hW0⟩ : ∃ W0, w.alloc (.cells (OrdCells o C c).toArray 35) = W0 := ⟨_, rfl⟩
  have hB0 : Below w.heap.size w W0 := by rw [← hW0]; exact (Below.refl _ _).alloc (Nat.le_refl _) _
  have z0 := hB0.size
  have b0 : Blk W0 w.heap.size 35 (OrdCells o C c) := by rw [← hW0]; exact Blk.new w _ _
  have hW1 : w.alloc (.cells #[.string o.name, .slice C o.load.length c, .int .i64 o.pick.place, .int .i64 o.pick.opn, .int .i64 o.pick.close, .int .i64 o.pick.service, .int .i64 o.drop.place, .int .i64 o.drop.opn, .int .i64 o.drop.close, .int .i64 o.drop.service, .int .i64 o.skills, .int .i64 o.penalty, .int .i64 o.split, .int .i64 o.last, .int .i64 o.now, .bool o.off] 35) = W0 := hW0
  have HW1 := Lib.hid hW1
  have HO := Lib.hid b0
  have c1 := b0.cell (j := 1) rfl
  have zz : w.heap.size < W0.heap.size := Lib.lt_of_cell c1
  have HB0 := Lib.hid hB0
  have hI0 := Lib.hid (hI.below hB0)
  have HI : ∀ w', Below W0.heap.size W0 w' → Ints w' w.heap.size C o.load := fun w' h => hI0.out.below (h.mono z0)
  have HL : Hid (IOwn (W0.alloc (.cells #[.int .i64 (o.load.length : Int)] 3)) W0.heap.size (some ⟨W0.heap.size, 0, none⟩) 1 [(o.load.length : Int)]) := Lib.hid (IOwn.lit (w := W0) (base := W0.heap.size) [(o.load.length : Int)] (Nat.le_refl _) (by simp))
  have HB1 : Hid (Below W0.heap.size W0 (W0.alloc (.cells #[.int .i64 (o.load.length : Int)] 3))) := Lib.hid ((Below.refl _ _).alloc (Nat.le_refl _) _)
  clear hW0 hW1 b0 hB0 hI
  have hHI := Lib.hid HI
  clear HI
  go_enter Tryz.func67, Tryz.ntmps67
  go_upto_region 1 with fail
  rw [HW1.out]
  clear HW1
  have HB1z : Hid (W0.heap.size ≤ (W0.alloc (.cells #[.int .i64 (o.load.length : Int)] 3)).heap.size) := Lib.hid HB1.out.size
  go_upto_region 2 with (at_builtin; refine app_ints rfl _ _ rfl W0.heap.size (some ⟨W0.heap.size, 0, none⟩) 1 1 [(o.load.length : Int)] rfl rfl HL.out w.heap.size C o.load.length c o.load rfl rfl (hHI.out _ HB1.out) (by omega) HB1z.out ?_; intro A1 d1 w1 hA1 hb1)
  have B1 := HB1.out.trans hb1
  have z1 := B1.size
  have HO1 := Lib.hid (HO.out.below B1)
  have HA1 := Lib.hid hA1
  have HB2 := Lib.hid B1
  clear HL HB1 HB1z hA1 hb1 B1
  go_upto_region 3 with (first
    | ((with_reducible refine wpList_loadG stStp _ rfl ⟨w.heap.size, 2, none⟩ (StpCells o.pick) ?_ ?_ ?_ ?_ ?_); exact rfl; exact rfl; exact ord_stp1 HO1.out; exact rfl)
    | (go_at_call 124; refine (stop_any o.pick _).mono ?_; rintro e2 w2 ⟨A2, rfl, hb2, hI2⟩; have y2 := hb2.size)
    | (at_builtin; refine app_ints rfl _ _ rfl W0.heap.size A1 (1 + o.load.length) d1 ([(o.load.length : Int)] ++ o.load) (by simp; omega) rfl (HA1.out.below hb2) _ _ 4 4 (stpN o.pick) rfl rfl hI2 (by omega) (by omega) ?_; intro A3 d3 w3 hA3 hb3))
  have B3 := HB2.out.trans ((hb2.mono z1).trans hb3)
  have z3 := B3.size
  have HO3 := Lib.hid (HO.out.below B3)
  have HA3 := Lib.hid hA3
  have HB3 := Lib.hid B3
  clear HA1 HB2 HO1 hA3 hb3 B3 hb2 hI2 y2
  go_upto_region 4 with (first
    | ((with_reducible refine wpList_loadG stStp _ rfl ⟨w.heap.size, 6, none⟩ (StpCells o.drop) ?_ ?_ ?_ ?_ ?_); exact rfl; exact rfl; exact ord_stp2 HO3.out; exact rfl)
    | (go_at_call 124; refine (stop_any o.drop _).mono ?_; rintro e4 w4 ⟨A4, rfl, hb4, hI4⟩; have y4 := hb4.size)
    | (at_builtin; refine app_ints rfl _ _ rfl W0.heap.size A3 (1 + o.load.length + 4) d3 ([(o.load.length : Int)] ++ o.load ++ stpN o.pick) (by simp [stpN]; omega) rfl (HA3.out.below hb4) _ _ 4 4 (stpN o.drop) rfl rfl hI4 (by omega) (by omega) ?_; intro A5 d5 w5 hA5 hb5))
  have B5 := HB3.out.trans ((hb4.mono z3).trans hb5)
  have z5 := B5.size
  have b5 := HO.out.below B5
  have e0 := b5.cell (j := 10) rfl
  have e1 := b5.cell (j := 11) rfl
  have e2 := b5.cell (j := 12) rfl
  have e3 := b5.cell (j := 13) rfl
  have e4 := b5.cell (j := 14) rfl
  have y5 := b5.lt
  have HA5 := Lib.hid hA5
  have HB5 := Lib.hid B5
  have hk := Ints.lit w5 [o.skills, o.penalty, o.split, o.last, o.now] (by simp)
  have HK : Hid (Ints (w5.alloc (.cells #[.int .i64 o.skills, .int .i64 o.penalty, .int .i64 o.split, .int .i64 o.last, .int .i64 o.now] 3)) (w5.heap.size + 1) (some ⟨w5.heap.size, 0, none⟩) [o.skills, o.penalty, o.split, o.last, o.now]) := Lib.hid hk
  clear HA3 HB3 HO3 hA5 hb5 B5 hb4 hI4 y4 b5 hk
  go_wp2_with (at_builtin; refine app_ints rfl _ _ rfl W0.heap.size A5 (1 + o.load.length + 4 + 4) d5 ([(o.load.length : Int)] ++ o.load ++ stpN o.pick ++ stpN o.drop) (by simp [stpN]; omega) rfl (HA5.out.below ((Below.refl _ _).alloc (Nat.le_refl _) _)) _ _ 5 5 [o.skills, o.penalty, o.split, o.last, o.now] rfl rfl HK.out (by omega) (by simp; omega) ?_; intro A7 d7 w7 hA7 hb7)
  go_ret
  have hO : [(o.load.length : Int)] ++ o.load ++ stpN o.pick ++ stpN o.drop ++ [o.skills, o.penalty, o.split, o.last, o.now] = ordN o := by unfold ordN; simp
  rw [hO] at hA7
  refine ⟨A7, d7, _, rfl, by unfold ordN; simp [stpN]; omega, HB0.out.trans ((HB5.out.trans ((Below.alloc (Below.refl _ _) z5 _).trans hb7)).mono z0), ?_⟩
  exact own_less hA7 z0
end Go.Proofs.YtofabhenmplkoaaGreatDoor.evt
