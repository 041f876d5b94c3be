import Derived.Test.YthcmopgdjibojaaGreatDoorSmpJ
import Derived.Test.YthcmopgdjibojaaGreatDoorSmpB
/- simplex: rows that grow by one cell; duals. -/
namespace Go.Proofs.YthcmopgdjibojaaGreatDoor.smp
open Go.RowKit
open Go.Proofs.YthcmopgdjibojaaGreatDoor.lib Go.Proofs.YthcmopgdjibojaaGreatDoor.app Go.Proofs.YthcmopgdjibojaaGreatDoor.nt Go.Proofs.YthcmopgdjibojaaGreatDoor.rd Go.Proofs.YthcmopgdjibojaaGreatDoor.wh Go.Proofs.YthcmopgdjibojaaGreatDoor.smx Go.Proofs.YthcmopgdjibojaaGreatDoor.rat
set_option linter.unusedVariables false
set_option linter.unusedSimpArgs false

/-- 'out = append(out, x)' of an element of one cell, out the call's own: the row grows by x. -/
theorem push_one {t e : TypeId} {z : Value} {bytes : Nat} (E : ElemOf t e z 1 bytes) {ops : Array Oper} {rest : List Oper} {o : Oper} {a : Act} {Q : Exit → Act → World → Prop} {w : World} (hgd : o.guard = none) (s x : Operand)
    (ho : o.op = .call { callee := .builtin .append, args := #[s, x], argTypes := #[t, t] })
    (base : Nat) (v : Value) (n : Nat) (xs : List Value) (hs : a.eval s = v) (hown : w.ownsRow base e 1 v n xs)
    (u : Value) (hu : u.oneCell' = true) (hx : a.eval x = .slice (some ⟨w.heap.size, 0, none⟩) 1 1) (hn : n < 1000000000) (hbase : base ≤ w.heap.size)
    (h : ∀ g c w', w'.ownsRow base e 1 (.slice (some ⟨g, 0, none⟩) (n + 1) c) (n + 1) (xs ++ [u]) → Below base w w' → wpList Tryz.prog ops Q rest (a.put o.dst (.slice (some ⟨g, 0, none⟩) (n + 1) c)) w') :
    wpList Tryz.prog ops Q (o :: rest) a (w.alloc (.cells #[u] e)) := by
  obtain ⟨A, c, rfl⟩ := own_form hown
  refine wpList_app E s x ho base A n c xs hs (hown.alloc _) ⟨w.heap.size, 0, none⟩ 1 [u] hx rfl (cell_one_new _ _ _) ?_ (by omega) (by simp; omega) hgd ?_
  · intro v hv
    simp at hv
    subst hv
    exact hu
  intro g' c' w1 hown' hg _
  exact h g' c' w1 hown' (((Below.refl base w).alloc hbase _).grown hg (by simp; omega) (own_base hown))
def duF (cst : Rat) (right : Nat → Int) (u : Nat → Nat) (P : Nat → Rat) (i : Nat) : Rat := if right i < 0 then 0 - (cst - P (u i)) else cst - P (u i)
def rts (q : Nat → Rat) (n : Nat) : List Value := (List.range n).map fun i => .string (ratS (q i))
theorem rts_next (q : Nat → Rat) (n : Nat) : rts q (n + 1) = rts q n ++ [.string (ratS (q n))] := by unfold rts; rw [List.range_succ, List.map_append]; rfl
set_option maxRecDepth 20000 in
set_option maxHeartbeats 4000000 in
theorem duals_any (p : Lp) (g : Geo) (lo : Nat) (s : Tab) (cst : Rat) (hg : GeoOk p g lo) (hm : p.m ≤ 6) (hL : p.L ≤ 20) (hu : ∀ i, i < p.m → p.u i < p.L) (hcst : Dg 200 cst)
    (hP : ∀ k, k < p.L + 1 → Dg 200 (s.P k)) (w : World) (ht : TabT w) (hs : TS p g (prc p g) s w) (hp : Arr w g.pb (p.L + 1) (vec s.P)) :
    Calls Tryz.prog 27 #[.pointer (some ⟨g.b, 0, none⟩), .string (ratS cst)] w (RatsRes p.m (duF cst p.right p.u s.P) w) := by
  have x1 : w.cell? ⟨g.b, 1, none⟩ = some (.slice (some ⟨g.pb, 0, none⟩) (p.L + 1) g.cP) := hs.st.cell (i := 1) (by decide)
  have x3 : w.cell? ⟨g.b, 3, none⟩ = some (.slice g.AU p.m g.cU) := hs.st.cell (i := 3) (by decide)
  have x4 : w.cell? ⟨g.b, 4, none⟩ = some (.slice g.AT p.m g.cT) := hs.st.cell (i := 4) (by decide)
  have hbl := hs.st.lt
  have herr := hs.err
  have HTWO : Hid (0 < p.m → g.AU = some ⟨g.ub, 0, none⟩ ∧ g.AT = some ⟨g.tb, 0, none⟩) := Lib.hid (fun h => ⟨(hg.two h).2.2.2.2.2.2.1, (hg.two h).2.2.2.2.2.2.2⟩)
  have HU := Lib.hid hs.unit
  have HT := Lib.hid hs.turn
  have HP := Lib.hid hp
  obtain ⟨T, P, base⟩ := s
  simp only at hP HP ⊢
  have HSU : Hid (∀ i, i < p.m → ∀ w', Below w.heap.size w w' → Calls Tryz.prog 64 #[.pointer (some ⟨g.b, 0, none⟩), .string (ratS cst), .string (ratS (P (p.u i)))] w' fun e w2 => e = .returned (.string (ratS (cst - P (p.u i)))) ∧ Below w'.heap.size w' w2) := Lib.hid (fun i hi w' h => sub_any g.b _ _ w' (hcst.mono (by omega)) ((hP _ (by have := hu i hi; omega)).mono (by omega)) (herr.below h) (ht.below h))
  have HNE : Hid (∀ i, i < p.m → ∀ w', Below w.heap.size w w' → Calls Tryz.prog 64 #[.pointer (some ⟨g.b, 0, none⟩), .string ⟨#[48]⟩, .string (ratS (cst - P (p.u i)))] w' fun e w2 => e = .returned (.string (ratS (0 - (cst - P (p.u i))))) ∧ Below w'.heap.size w' w2) := Lib.hid (fun i hi w' h => by
    rw [← rat_zero]
    have hd : Dg 401 (cst - P (p.u i)) := by
      rw [Rat.sub_eq_add_neg]
      have h1 := hP _ (show p.u i < p.L + 1 by have := hu i hi; omega)
      exact (hcst.add (j := 200) ⟨by rw [Rat.neg_num, Int.natAbs_neg]; exact h1.1, by rw [Rat.neg_den]; exact h1.2⟩).mono (by omega)
    exact sub_any g.b 0 _ w' (Dg.zero.mono (by omega)) (hd.mono (by omega)) (herr.below h) (ht.below h))
  have HDU : Hid (∀ i, (p.right i < 0 → duF cst p.right p.u P i = 0 - (cst - P (p.u i))) ∧ (¬ p.right i < 0 → duF cst p.right p.u P i = cst - P (p.u i))) := Lib.hid (fun i => ⟨fun h => if_pos h, fun h => if_neg h⟩)
  have HUL := Lib.hid hu
  generalize duF cst p.right p.u P = D at HDU ⊢
  clear hg hs hp hP hu herr ht hcst
  obtain ⟨b, eb⟩ : ∃ b, g.b = b := ⟨_, rfl⟩
  rw [eb] at HSU HNE x1 x3 x4 hbl ⊢
  generalize g.AU = AU at HTWO x3
  generalize g.AT = AT at HTWO x4
  generalize g.cU = cU at x3
  generalize g.cT = cT at x4
  generalize g.cP = cP at x1
  generalize ratS cst = CS at HSU ⊢
  clear eb
  obtain ⟨L, eL⟩ : ∃ L, p.L = L := ⟨_, rfl⟩
  obtain ⟨m, em⟩ : ∃ m, p.m = m := ⟨_, rfl⟩
  rw [eL] at hL x1 HP HUL
  rw [em] at hm x3 x4 HTWO HU HT HSU HNE HUL ⊢
  clear eL em
  go_enter Tryz.func27, Tryz.ntmps27
  go_wp2
  go_loopw [5, 14] (fun ov iv wr => ∃ (i : Nat) (A : Option Addr) (c : Nat), i ≤ m ∧ iv = .int .i64 i ∧ ov = .slice A i c ∧ wr.ownsRow w.heap.size 32 1 (.slice A i c) i (rts D i) ∧ Below w.heap.size w wr) (fun _ iv _ => m - (intOf iv).toNat)
  case atStart => exact ⟨0, none, 0, by omega, rfl, rfl, World.ownsRow_nil _ _ _ _, Below.refl _ _⟩
  case round =>
    obtain ⟨i, A1, c1, hi, rfl, rfl, hown, hbel⟩ := hrel
    have hsz := hbel.size
    by_cases hlt : i < m
    · obtain ⟨rfl, rfl⟩ := HTWO.out (by omega)
      have y1 := (hbel.cell (p := ⟨b, 1, none⟩) hbl).trans x1
      have y4 := (hbel.cell (p := ⟨b, 4, none⟩) hbl).trans x4
      have hAu := HU.out (by omega)
      have hAt := HT.out (by omega)
      have cu := (hbel.cell (p := ⟨g.ub, i, none⟩) hAu.lt).trans (hAu.cell hlt)
      have cp := (hbel.cell (p := ⟨g.pb, p.u i, none⟩) HP.out.lt).trans (HP.out.cell (by have := HUL.out i hlt; omega))
      have hi0 : (0 : Int) ≤ i := by omega
      have him : (i : Int) < m := by omega
      have hu0 : (0 : Int) ≤ p.u i := by omega
      have huL : (p.u i : Int) < L + 1 := by have := HUL.out i hlt; omega
      have HS := Lib.hid (HSU.out i hlt)
      have HN := Lib.hid (HNE.out i hlt)
      have HCT : Hid (∀ x, Below w.heap.size w x → x.cell? ⟨b, 4, none⟩ = some (.slice (some ⟨g.tb, 0, none⟩) m cT) ∧ x.cell? ⟨g.tb, i, none⟩ = some (.bool (decide (p.right i < 0)))) := Lib.hid (fun x hx => ⟨(hx.cell (p := ⟨b, 4, none⟩) hbl).trans x4, (hx.cell (p := ⟨g.tb, i, none⟩) hAt.lt).trans (hAt.cell hlt)⟩)
      obtain ⟨hd1, hd2⟩ := HDU.out i
      unfold vec at cp
      by_cases hr : p.right i < 0
      · have HD : Hid (ratS (0 - (cst - P (p.u i))) = ratS (D i)) := Lib.hid (by rw [hd1 hr])
        rw [decide_eq_true hr] at HCT
        rw [HD.out] at HN
        generalize ratS (cst - P (p.u i)) = X at HS HN
        generalize ratS (P (p.u i)) = V at cp HS
        generalize hDI : ratS (D i) = DI at HN
        have HDI := Lib.hid hDI
        generalize p.u i = ui at cu cp hu0 huL
        clear hAu hAt hr hd1 hd2 hDI
        go_wp2_with (first
          | (go_at_call 64; (with_reducible refine (HS.out _ hbel).mono ?_); rintro e w2 ⟨rfl, hb2⟩; have hbl2 := hbel.trans (hb2.mono hsz); obtain ⟨z4, zt⟩ := HCT.out w2 hbl2)
          | (go_at_call 64; (with_reducible refine (HN.out _ hbl2).mono ?_); rintro e w3 ⟨rfl, hb3⟩; have hbl3 := hbl2.trans (hb3.mono hbl2.size); have hown3 := own_below (own_below hown hb2) hb3)
          | (at_builtin; refine push_one rat_elem rfl _ _ rfl w.heap.size _ i (rts D i) rfl hown3 (.string DI) rfl rfl (by omega) hbl3.size ?_; intro g4 c4 w4 hown4 hb4))
        go_roundw
        case rel => exact ⟨i + 1, _, _, by omega, by go_num, rfl, by rw [rts_next, HDI.out]; exact hown4, hbl3.trans hb4⟩
        case measure => simp [intOf]; omega
      · have HD : Hid (ratS (cst - P (p.u i)) = ratS (D i)) := Lib.hid (by first | rw [hd2 hr] | rw [hd2 (Int.not_lt.1 hr)])
        rw [decide_eq_false hr] at HCT
        rw [HD.out] at HS
        generalize ratS (P (p.u i)) = V at cp HS
        generalize hDI : ratS (D i) = DI at HS
        have HDI := Lib.hid hDI
        generalize p.u i = ui at cu cp hu0 huL
        clear hAu hAt hr hd1 hd2 hDI HN
        go_wp2_with (first
          | (go_at_call 64; (with_reducible refine (HS.out _ hbel).mono ?_); rintro e w2 ⟨rfl, hb2⟩; have hbl2 := hbel.trans (hb2.mono hsz); obtain ⟨z4, zt⟩ := HCT.out w2 hbl2; have hown2 := own_below hown hb2)
          | (at_builtin; refine push_one rat_elem rfl _ _ rfl w.heap.size _ i (rts D i) rfl hown2 (.string DI) rfl rfl (by omega) hbl2.size ?_; intro g4 c4 w4 hown4 hb4))
        go_roundw
        case rel => exact ⟨i + 1, _, _, by omega, by go_num, rfl, by rw [rts_next, HDI.out]; exact hown4, hbl2.trans hb4⟩
        case measure => simp [intOf]; omega
    · obtain rfl : i = m := by omega
      clear hlt
      go_wp2
      go_ret
      exact ⟨A1, c1, rfl, ⟨Reads.of_own hown, fun ad ha => own_base hown ad.block (by rw [ha]; rfl)⟩, hbel⟩
end Go.Proofs.YthcmopgdjibojaaGreatDoor.smp

/- simplex: done. -/
namespace Go.Proofs.YthcmopgdjibojaaGreatDoor.smp
open Go.RowKit
open Go.Proofs.YthcmopgdjibojaaGreatDoor.lib Go.Proofs.YthcmopgdjibojaaGreatDoor.app Go.Proofs.YthcmopgdjibojaaGreatDoor.nt Go.Proofs.YthcmopgdjibojaaGreatDoor.rd Go.Proofs.YthcmopgdjibojaaGreatDoor.wh Go.Proofs.YthcmopgdjibojaaGreatDoor.smx Go.Proofs.YthcmopgdjibojaaGreatDoor.rat
set_option linter.unusedVariables false
set_option linter.unusedSimpArgs false

/-- An answer as a value. -/
def AnsV (kind : Int) (A : Option Addr) (na ca : Nat) (D : Option Addr) (nd cd : Nat) (R : Option Addr) (nr cr : Nat) (v : ByteArray) : Value :=
  .agg #[.int .i64 kind, .slice A na ca, .slice D nd cd, .slice R nr cr, .string v]
theorem done_any (b : Nat) (kind : Int) (A : Option Addr) (na ca : Nat) (D : Option Addr) (nd cd : Nat) (R : Option Addr) (nr cr : Nat) (v : ByteArray) (w : World) (he : ErrAt w b) :
    Calls Tryz.prog 26 #[.pointer (some ⟨b, 0, none⟩), AnsV kind A na ca D nd cd R nr cr v] w fun e w' => e = .returned (.tuple #[AnsV kind A na ca D nd cd R nr cr v, .int .i64 0]) ∧ Below w.heap.size w w' := by
  have hbl := he.lt
  obtain ⟨h1, h2⟩ := he
  unfold AnsV
  go_enter Tryz.func26, Tryz.ntmps26
  go_wp2
  refine bodyPost_ret (v := .tuple #[.agg #[.int .i64 kind, .slice A na ca, .slice D nd cd, .slice R nr cr, .string v], .int .i64 0]) (by simp [results, Tryz.results26, go_sem]) rfl ⟨rfl, by repeat (first | assumption | exact Below.refl _ _ | refine Below.drew ?_ | refine Below.alloc ?_ (by first | omega | (simp <;> omega)) _ | refine Below.setCell ?_ (by first | omega | (simp <;> omega)) _)⟩
end Go.Proofs.YthcmopgdjibojaaGreatDoor.smp
