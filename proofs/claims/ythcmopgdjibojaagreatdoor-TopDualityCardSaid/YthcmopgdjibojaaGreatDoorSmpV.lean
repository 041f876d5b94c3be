/- simplex: Solve. -/
import Derived.Test.YthcmopgdjibojaaGreatDoorSmpU
namespace Go.Proofs.YthcmopgdjibojaaGreatDoor.smp
open Go.RowKit
open Go.Proofs.YthcmopgdjibojaaGreatDoor.lib Go.Proofs.YthcmopgdjibojaaGreatDoor.app Go.Proofs.YthcmopgdjibojaaGreatDoor.nt Go.Proofs.YthcmopgdjibojaaGreatDoor.rd Go.Proofs.YthcmopgdjibojaaGreatDoor.wh Go.Proofs.YthcmopgdjibojaaGreatDoor.smx Go.Proofs.YthcmopgdjibojaaGreatDoor.rat Go.Proofs.YthcmopgdjibojaaGreatDoor.typ Go.Proofs.YthcmopgdjibojaaGreatDoor.lnr
set_option linter.unusedVariables false
set_option linter.unusedSimpArgs false

def ansZ : Nat → Value
  | 0 => .int .i64 0
  | 4 => .string ⟨#[]⟩
  | _ => .slice none 0 0
def ansF (u0 u1 u2 u3 u4 : Value) : Nat → Value
  | 0 => u0
  | 1 => u1
  | 2 => u2
  | 3 => u3
  | _ => u4
theorem ans5 {w : World} {rb : Nat} (h : Arr w rb 5 ansZ) (u0 u1 u2 u3 u4 : Value) : Arr (((((w.setCell ⟨rb, 0, none⟩ u0).setCell ⟨rb, 1, none⟩ u1).setCell ⟨rb, 2, none⟩ u2).setCell ⟨rb, 3, none⟩ u3).setCell ⟨rb, 4, none⟩ u4) rb 5 (ansF u0 u1 u2 u3 u4) := by
  refine (((((h.set 0 u0).set 1 u1).set 2 u2).set 3 u3).set 4 u4).congr fun i hi => ?_
  rcases i with _ | _ | _ | _ | _ | i <;> first | rfl | omega
theorem RatsAt.set5 {lo n rb : Nat} {w : World} {A : Option Addr} {q : Nat → Rat} (h : RatsAt lo w A n q) (hb : rb < lo) (u0 u1 u2 u3 u4 : Value) : RatsAt lo (((((w.setCell ⟨rb, 0, none⟩ u0).setCell ⟨rb, 1, none⟩ u1).setCell ⟨rb, 2, none⟩ u2).setCell ⟨rb, 3, none⟩ u3).setCell ⟨rb, 4, none⟩ u4) A n q :=
  ((((h.set hb u0).set hb u1).set hb u2).set hb u3).set hb u4
set_option maxRecDepth 20000 in
set_option maxHeartbeats 4000000 in
theorem solve_any (C0 : Option Addr) (c0 : Nat) (C1 : Option Addr) (c1 : Nat) (t : Lnr) (h0 : LnOk t) (h64 : LnrFits t) (hr64 : ∀ r ∈ t.rows, LrwFits r) (hn8 : t.cost.length ≤ 8) (hm6 : t.rows.length ≤ 6) (w : World) (B : Nat) (hB : B ≤ w.heap.size) (hI : Ints w B C0 t.cost) (hr : RowAt rLrw w B C1 t.rows) (ht : TabT w) :
    Calls Tryz.prog 7 #[LnV t.cost.length t.rows.length C0 c0 C1 c1] w (SolOut (lpOf t) t.cost.length t.rows.length t.cost w) := by
  have HBD := Lib.hid (bd_of h0 h64 hr64 hn8 hm6)
  have HCK := Lib.hid (fun x (hx : Below w.heap.size w x) => check_any C0 c0 C1 c1 t h0 hn8 hm6 x B (Nat.le_trans hB hx.size) (hr.below (hx.mono hB)))
  have HBU := Lib.hid (fun x (hx : Below w.heap.size w x) => build_any C0 c0 C1 c1 t h0 hn8 hm6 x B (Nat.le_trans hB hx.size) (hr.below (hx.mono hB)) (ht.below hx))
  have HIN := Lib.hid (fun x (hx : Below w.heap.size w x) => hI.below (hx.mono hB))
  have HTT := Lib.hid (fun x (hx : Below w.heap.size w x) => TabL.of (ht.below hx))
  have HV := Lib.hid (fun (A : Option Addr) (c : Nat) (q : Nat → Rat) (x : World) (hx : Below w.heap.size w x) (hq : ∀ i, i < t.cost.length → Dg 200 (q i)) (hra : Rats x x.heap.size A t.cost.length q) => value_any C0 c0 C1 c1 t.rows.length t.cost A c q hn8 h64 hq x B x.heap.size (Nat.le_trans hB hx.size) (Nat.le_refl _) (hI.below (hx.mono hB)) hra (ht.below hx))
  obtain ⟨n, hn⟩ : ∃ n, t.cost.length = n := ⟨_, rfl⟩
  obtain ⟨m, hm⟩ : ∃ m, t.rows.length = m := ⟨_, rfl⟩
  obtain ⟨p, hp⟩ : ∃ p, lpOf t = p := ⟨_, rfl⟩
  have hpn : p.n = n := by rw [← hp]; exact hn
  have hpm : p.m = m := by rw [← hp]; exact hm
  have HC1 := Lib.hid (fun g b hgb lo pv s hB' w1 w' ht hb hBw hI' hs => costs1 t p hp n m hn hm g b hgb lo pv s hB' h64 C0 c0 C1 c1 w1 w' ht hb B hBw hI' hs)
  have HC2 := Lib.hid (fun g b hgb lo pv s hB' w1 w' ht hb hBw hI' hs => costs2 t p hp n m hn hm g b hgb lo pv s hB' h64 C0 c0 C1 c1 w1 w' ht hb B hBw hI' hs)
  rw [hn, hm] at HCK
  rw [hn, hm, hp] at HBU
  rw [hn, hm] at HV
  rw [hp] at HBD
  rw [hn, hm, hp]
  clear h0 h64 hr64 hI hr ht hp
  rw [hn] at hn8
  rw [hm] at hm6
  have HPN := Lib.hid (And.intro hpn hpm)
  clear hn hm hpn hpm
  generalize t.cost = cl at HV HIN HC1 HC2 ⊢
  clear t
  unfold LnV at HCK HBU HC1 HC2 HV ⊢
  go_enter Tryz.func7, Tryz.ntmps7
  go_upto_region 1 with fail
  obtain ⟨wb, hwb⟩ : ∃ x, (w.alloc (.cells #[.slice C0 n c0, .slice C1 m c1] 25)).alloc (.cells #[.int .i64 0, .slice none 0 0, .slice none 0 0, .slice none 0 0, .string ⟨#[]⟩] 34) = x := ⟨_, rfl⟩
  have hbb : Below w.heap.size w wb := by rw [← hwb]; exact by repeat (first | assumption | exact Below.refl _ _ | refine Below.drew ?_ | refine Below.alloc ?_ (by first | omega | (simp <;> omega)) _ | refine Below.setCell ?_ (by first | omega | (simp <;> omega)) _)
  have hzb : w.heap.size + 1 < wb.heap.size := by rw [← hwb]; simp
  have hpb : PBox wb w.heap.size n m C0 c0 C1 c1 := by rw [← hwb]; simp [PBox]
  have hrb : Arr wb (w.heap.size + 1) 5 ansZ := by
    rw [← hwb]
    refine ⟨_, _, by simpa using World.alloc_heap_new (w.alloc (.cells #[.slice C0 n c0, .slice C1 m c1] 25)) _, fun i hi => ?_⟩
    rcases i with _ | _ | _ | _ | _ | i <;> first | rfl | omega
  rw [hwb]
  clear hwb
  obtain ⟨b0, b1⟩ := id hpb
  go_upto_region 2 with (go_at_call 21; (with_reducible refine (HCK.out _ hbb).mono ?_); rintro e w1 ⟨rfl, hb1⟩)
  have hbw1 : Below w.heap.size w w1 := hbb.trans (hb1.mono hbb.size)
  have hz1 : w.heap.size + 1 < w1.heap.size := Nat.lt_of_lt_of_le hzb hb1.size
  have hp1 : PBox w1 w.heap.size n m C0 c0 C1 c1 := hpb.below hb1 (by omega)
  have hr1 := hrb.below hb1
  obtain ⟨lo, hlo⟩ : ∃ lo, w1.heap.size = lo := ⟨_, rfl⟩
  have HT1 := Lib.hid (HTT.out w1 hbw1)
  have hIw := HIN.out w1 hbw1
  have HBU1 := Lib.hid (HBU.out w1 hbw1)
  rw [hlo] at HT1 HBU1 hz1
  have HX : Hid (∀ x, Below lo w1 x → PBox x w.heap.size n m C0 c0 C1 c1 ∧ Arr x (w.heap.size + 1) 5 ansZ ∧ Below w.heap.size w x) := Lib.hid (fun x hx => ⟨hp1.below hx (by omega), hr1.below (by rw [hlo]; exact hx), hbw1.trans (hx.mono (by omega))⟩)
  have hBlo : B ≤ lo := by omega
  obtain ⟨b0', b1'⟩ := id hp1
  clear hbb hzb hpb hrb b0 b1 hb1 HTT HIN HBU HCK hlo hp1 hr1
  go_upto_region 5 with (go_at_call 22; (with_reducible refine HBU1.out.mono ?_); rintro e w2 ⟨g, rfl, hg, hts, hb2⟩)
  clear HBU1 b0' b1'
  obtain ⟨b, hgb⟩ : ∃ b, g.b = b := ⟨_, rfl⟩
  rw [hgb]
  obtain ⟨⟨b0, b1⟩, _, _⟩ := HX.out w2 hb2
  have HCO := Lib.hid (HC1.out g b hgb lo _ _ HBD.out w1 w2 HT1.out hb2 hBlo hIw hts)
  have HCH := Lib.hid (fun (ck : Nat) (x : World) (hcb : ck ≠ b) (hck : Arr x ck p.L (vec p.c1)) (hts' : TS p g (.slice none 0 0) ⟨p.A, fun _ => 0, p.u⟩ x) (hb' : Below lo w1 x) => charge_stg p g b hgb lo _ _ p.c1 ck p.L HBD.out hg (Lp.TabOk.start p _) (p.c1_int HBD.out.inK) (by unfold Lp.c1; rw [if_neg (by omega)]) w1 x HT1.out hb' hts' hck hcb)
  have HIW := Lib.hid hIw
  clear hg hts hb2 hgb hIw
  go_upto_region 6 with (first | (go_at_call 24; (with_reducible refine HCO.out.mono ?_); rintro e w3 ⟨ck, hcb, rfl, hck, hts3, hb3⟩) | (go_at_call 23; (with_reducible refine (HCH.out ck w3 hcb hck hts3 hb3).mono ?_); rintro e w4 ⟨rfl, g1, hg1, hst4⟩))
  have HI1 := Lib.hid (improve1 p g1 b hg1 lo _ HBD.out w1 w4 HT1.out hst4 Lp.J1.start)
  clear hst4 b0 b1 HCO HCH hcb hck hts3 hb3
  go_upto_region 7 with (go_at_call 25; (with_reducible refine HI1.out.mono ?_); rintro e w5 ⟨rfl, s, hj1, hopt, hst5⟩)
  have HJ1 := Lib.hid (And.intro hj1 hopt)
  have HST5 := Lib.hid hst5
  have e5 := hst5.err.1
  have x1 : w5.cell? ⟨g1.b, 1, none⟩ = some (.slice (some ⟨g1.pb, 0, none⟩) (p.L + 1) g1.cP) := hst5.ts.st.cell (i := 1) (by decide)
  have xL : w5.cell? ⟨g1.pb, p.L, none⟩ = some (.string (ratS (s.P p.L))) := hst5.pr.cell (by omega)
  rw [hg1] at e5 x1
  have HG1 := Lib.hid hg1
  clear hst5 hj1 hopt hg1 HI1
  generalize g1.pb = pb at x1 xL
  generalize g1.cP = cP at x1
  go_upto_region 9 with fail
  have hL20 := HBD.out.L
  have hL1 : (p.L : Int) < p.L + 1 := by omega
  have hL0 : (0 : Int) ≤ p.L := by omega
  have hwL : IntKind.i64.wrap (p.L : Int) = p.L := IntWalk.i64_in _ (by omega)
  have hz := ratS_is0 (s.P p.L)
  obtain ⟨V, hV⟩ : ∃ V, ratS (s.P p.L) = V := ⟨_, rfl⟩
  obtain ⟨bz, hbz⟩ : ∃ bz, decide (s.P p.L = 0) = bz := ⟨_, rfl⟩
  rw [hV] at xL hz
  rw [hbz] at hz
  have HZ : Hid ((bz = true → s.P p.L = 0) ∧ (bz = false → s.P p.L ≠ 0)) := Lib.hid ⟨fun h => of_decide_eq_true (hbz.trans h), fun h => of_decide_eq_false (hbz.trans h)⟩
  clear hV hbz
  (refine wp_region_held_drew (S := (fun w' => w'.cell? ⟨b, 1, none⟩ = some (.slice (some ⟨pb, 0, none⟩) (p.L + 1) cP) ∧ w'.cell? ⟨pb, p.L, none⟩ = some (.string V))) (by kernel_rfl) ?_ (fun hHeld => ?_))
  · exact ⟨x1, xL⟩
  (refine wpAnyH_take (i := 0) (v := ?_) rfl (by kernel_rfl) (by kernel_rfl) (by kernel_rfl) (fun _ _ _ h => h) (Or.inl ⟨by kernel_rfl, ?_⟩) (by assumption) ?_; rotate_left; (focus (intro w hSw; (try dsimp only at hSw); go_simp; all_goals with_reducible rfl)); (try simp only [Act.put, List.getElem_toArray, List.getElem_cons_succ, List.getElem_cons_zero, List.setIfInBounds_toArray, List.set_cons_zero, List.set_cons_succ]))
  (refine wpAnyH_take (i := 1) (v := ?_) rfl (by kernel_rfl) (by kernel_rfl) (by kernel_rfl) (fun _ _ _ h => h) (Or.inl ⟨by kernel_rfl, ?_⟩) (by assumption) ?_; rotate_left; (focus (intro w hSw; (try dsimp only at hSw); go_simp; all_goals with_reducible rfl)); (try simp only [Act.put, List.getElem_toArray, List.getElem_cons_succ, List.getElem_cons_zero, List.setIfInBounds_toArray, List.set_cons_zero, List.set_cons_succ]))
  (refine wpAnyH_take (i := 2) (v := ?_) rfl (by kernel_rfl) (by kernel_rfl) (by kernel_rfl) (fun _ _ _ h => h) (Or.inl ⟨by kernel_rfl, ?_⟩) (by assumption) ?_; rotate_left; (focus (intro w hSw; (try dsimp only at hSw); go_simp; all_goals with_reducible rfl)); (try simp only [Act.put, List.getElem_toArray, List.getElem_cons_succ, List.getElem_cons_zero, List.setIfInBounds_toArray, List.set_cons_zero, List.set_cons_succ]))
  (refine wpAnyH_take (i := 3) (v := ?_) rfl (by kernel_rfl) (by kernel_rfl) (by kernel_rfl) (fun _ _ _ h => h) (Or.inl ⟨by kernel_rfl, ?_⟩) (by assumption) ?_; rotate_left; (focus (intro w hSw; (try dsimp only at hSw); go_simp; all_goals with_reducible rfl)); (try simp only [Act.put, List.getElem_toArray, List.getElem_cons_succ, List.getElem_cons_zero, List.setIfInBounds_toArray, List.set_cons_zero, List.set_cons_succ]))
  (refine wpAnyH_take (i := 4) (v := ?_) rfl (by kernel_rfl) (by kernel_rfl) (by kernel_rfl) (fun _ _ _ h => h) (Or.inl ⟨by kernel_rfl, ?_⟩) (by assumption) ?_; rotate_left; (focus (intro w hSw; (try dsimp only at hSw); go_simp; all_goals with_reducible rfl)); (try simp only [Act.put, List.getElem_toArray, List.getElem_cons_succ, List.getElem_cons_zero, List.setIfInBounds_toArray, List.set_cons_zero, List.set_cons_succ]))
  (refine wpAnyH_take (i := 5) (v := ?_) rfl (by kernel_rfl) (by kernel_rfl) (by kernel_rfl) (fun _ _ _ h => h) (Or.inl ⟨by kernel_rfl, ?_⟩) (by assumption) ?_; rotate_left; (focus (intro w hSw; (try dsimp only at hSw); go_simp; all_goals with_reducible rfl)); (try simp only [Act.put, List.getElem_toArray, List.getElem_cons_succ, List.getElem_cons_zero, List.setIfInBounds_toArray, List.set_cons_zero, List.set_cons_succ]))
  (refine wpAnyH_take (i := 6) (v := ?_) rfl (by kernel_rfl) (by kernel_rfl) (by kernel_rfl) (fun _ _ _ h => h) (Or.inl ⟨by kernel_rfl, ?_⟩) (by assumption) ?_; rotate_left; (focus (intro w hSw; (try dsimp only at hSw); go_simp; all_goals with_reducible rfl)); (try simp only [Act.put, List.getElem_toArray, List.getElem_cons_succ, List.getElem_cons_zero, List.setIfInBounds_toArray, List.set_cons_zero, List.set_cons_succ]))
  (refine wpAnyH_take (i := 7) (v := ?_) rfl (by kernel_rfl) (by kernel_rfl) (by kernel_rfl) (fun _ _ _ h => h) (Or.inl ⟨by kernel_rfl, ?_⟩) (by assumption) ?_; rotate_left; (focus (intro w hSw; (try dsimp only at hSw); go_simp; all_goals with_reducible rfl)); (try simp only [Act.put, List.getElem_toArray, List.getElem_cons_succ, List.getElem_cons_zero, List.setIfInBounds_toArray, List.set_cons_zero, List.set_cons_succ]))
  (refine wpAnyH_take (i := 8) (v := ?_) rfl (by kernel_rfl) (by kernel_rfl) (by kernel_rfl) (fun _ _ _ h => h) (Or.inl ⟨by kernel_rfl, ?_⟩) (by assumption) ?_; rotate_left; (focus (intro w hSw; (try dsimp only at hSw); go_simp; all_goals with_reducible rfl)); (try simp only [Act.put, List.getElem_toArray, List.getElem_cons_succ, List.getElem_cons_zero, List.setIfInBounds_toArray, List.set_cons_zero, List.set_cons_succ]))
  (refine wpAnyH_take (i := 9) (v := ?_) rfl (by kernel_rfl) (by kernel_rfl) (by kernel_rfl) (fun _ _ _ h => h) (Or.inl ⟨by kernel_rfl, ?_⟩) (by assumption) ?_; rotate_left; (focus (intro w hSw; (try dsimp only at hSw); go_simp; all_goals with_reducible rfl)); (try simp only [Act.put, List.getElem_toArray, List.getElem_cons_succ, List.getElem_cons_zero, List.setIfInBounds_toArray, List.set_cons_zero, List.set_cons_succ]))
  (refine wpAnyH_take (i := 10) (v := ?_) rfl (by kernel_rfl) (by kernel_rfl) (by kernel_rfl) (fun _ _ _ h => h) (Or.inl ⟨by kernel_rfl, ?_⟩) (by assumption) ?_; rotate_left; (focus (intro w hSw; (try dsimp only at hSw); go_simp; all_goals with_reducible rfl)); (try simp only [Act.put, List.getElem_toArray, List.getElem_cons_succ, List.getElem_cons_zero, List.setIfInBounds_toArray, List.set_cons_zero, List.set_cons_succ]))
  (refine wpAnyH_take (i := 11) (v := ?_) rfl (by kernel_rfl) (by kernel_rfl) (by kernel_rfl) (fun _ _ _ h => h) (Or.inl ⟨by kernel_rfl, ?_⟩) (by assumption) ?_; rotate_left; (focus (intro w hSw; (try dsimp only at hSw); go_simp; all_goals with_reducible rfl)); (try simp only [Act.put, List.getElem_toArray, List.getElem_cons_succ, List.getElem_cons_zero, List.setIfInBounds_toArray, List.set_cons_zero, List.set_cons_succ]))
  (refine wpAnyH_take (i := 12) (v := ?_) rfl (by kernel_rfl) (by kernel_rfl) (by kernel_rfl) (fun _ _ _ h => h) (Or.inl ⟨by kernel_rfl, ?_⟩) (by assumption) ?_; rotate_left; (focus (intro w hSw; (try dsimp only at hSw); go_simp; all_goals with_reducible rfl)); (try simp only [Act.put, List.getElem_toArray, List.getElem_cons_succ, List.getElem_cons_zero, List.setIfInBounds_toArray, List.set_cons_zero, List.set_cons_succ]))
  (refine wpAnyH_done (by kernel_rfl) ?_ _)
  clear hHeld x1 xL
  have HST6 : Hid (Stg p lo g1 s w1 w5.drew) := Lib.hid (HST5.out.below HT1.out (Below.refl _ _).drew)
  generalize w5.drew = w6 at HST6 ⊢
  clear hz
  cases bz
  case true =>
    have hjc : Lp.JC p s := ⟨HJ1.out.1.ok, HJ1.out.1.pr, HJ1.out.1.fe, Lp.phase1_zero HJ1.out.1.ok HJ1.out.1.pr HJ1.out.1.fe (HZ.out.1 rfl)⟩
    have HCL := Lib.hid (clean1 p g1 b HG1.out lo s HBD.out w1 w6 HT1.out HST6.out hjc)
    clear hjc HZ HJ1 HST5 HST6
    go_upto_region 12 with (go_at_call 28; (with_reducible refine HCL.out.mono ?_); rintro e w7 ⟨rfl, s2, hj2, hok2, hst7⟩)
    obtain ⟨⟨b0, b1⟩, _, _⟩ := HX.out w7 hst7.bel
    have HCO := Lib.hid (HC2.out g1 b HG1.out lo _ _ HBD.out w1 w7 HT1.out hst7.bel hBlo HIW.out hst7.ts)
    have HCH := Lib.hid (fun (ck : Nat) (x : World) (hcb : ck ≠ b) (hck : Arr x ck p.L (vec p.c2)) (hts' : TS p g1 (prc p g1) s2 x) (hb' : Below lo w1 x) => charge_stg p g1 b HG1.out lo _ _ p.c2 ck p.L HBD.out hst7.geo hok2 (p.c2_int HBD.out.inK) (by have := p.n_le; have := PBd.N p; unfold Lp.c2; rw [if_neg (by omega)]) w1 x HT1.out hb' hts' hck hcb)
    have HJ2 := Lib.hid hj2
    clear hst7 hj2 hok2 HCL
    go_upto_region 13 with (first | (go_at_call 24; (with_reducible refine HCO.out.mono ?_); rintro e w8 ⟨ck2, hcb, rfl, hck, hts3, hb3⟩) | (go_at_call 23; (with_reducible refine (HCH.out ck2 w8 hcb hck hts3 hb3).mono ?_); rintro e w9 ⟨rfl, g2, hg2, hst9⟩))
    have HI2 := Lib.hid (improve2 p g2 b hg2 lo _ HBD.out w1 w9 HT1.out hst9 HJ2.out)
    clear hst9 b0 b1 HCO HCH hcb hck hts3 hb3 HC1 HC2 HJ2
    go_upto_region 14 with (go_at_call 25; (with_reducible refine HI2.out.mono ?_); rintro e wA ⟨z, rfl, s3, hj3, hstA, hor⟩)
    have HJ3 := Lib.hid hj3
    have HOR := Lib.hid hor
    have HG2 := Lib.hid hg2
    have HSTA := Lib.hid hstA
    have eA := hstA.err.1
    rw [hg2] at eA
    have HVA := Lib.hid (values1 p g2 b hg2 lo s3 HBD.out hj3.ok n HPN.out.1 w1 wA hstA)
    clear hj3 hor hg2 hstA HI2
    go_upto_region 17 with (go_at_call 29; (with_reducible refine HVA.out.mono ?_); rintro e wB ⟨A, cA, rfl, hra, hbB⟩)
    have HSTB := Lib.hid (HSTA.out.below HT1.out hbB)
    have HRA := Lib.hid hra
    have HLZ : Hid (w.heap.size + 1 < wA.heap.size) := Lib.hid (by have := HT1.out.1; have := HSTA.out.bel.size; omega)
    have HSZ := Lib.hid hbB.size
    have HST7 : Hid (∀ x, Below wB.heap.size wB x → ErrAt x b ∧ Below lo w1 x) := Lib.hid (fun x hx => by
      have h := HSTB.out.below HT1.out hx
      have h2 := h.err
      rw [HG2.out] at h2
      exact ⟨h2, h.bel⟩)
    clear hra hbB eA HVA
    rcases HOR.out with ⟨hz, hopt⟩ | ⟨c, hc, hz, hneg, hno⟩
    · have HOP := Lib.hid hopt
      subst hz
      clear hopt HOR
      obtain ⟨⟨b0, b1⟩, _, lw⟩ := HX.out wB HSTB.out.bel
      have HVV := Lib.hid (HV.out A cA _ wB lw (fun i hi => xv_dg HBD.out HJ3.out.ok i) HRA.out.1)
      unfold RatOut at HVV
      obtain ⟨VS, hVS⟩ : ∃ VS, ratS (dot cl (Lp.xv s3 p.m p.L) n) = VS := ⟨_, rfl⟩
      rw [hVS] at HVV
      have HVS : Hid (ratS (dot cl (Lp.xv s3 p.m p.L) n) = VS) := Lib.hid hVS
      clear hVS
      have hd1 := duals1 p g2 b HG2.out lo s3 HBD.out (HJ3.out.dg HBD.out.inK HBD.out.m).2 m HPN.out.2 0 (Dg.zero.mono (by omega)) w1
      rw [rat_zero] at hd1
      have HD1 := Lib.hid (fun x hx => hd1 x HT1.out (HSTB.out.below HT1.out hx))
      clear hd1
      go_wp2_with (first
        | (go_at_call 9; (with_reducible refine HVV.out.mono ?_); rintro e wC ⟨rfl, hbC⟩; obtain ⟨eC, lC⟩ := HST7.out wC hbC)
        | (go_at_call 31; (with_reducible refine (note_any b wC eC).mono ?_); rintro e wD ⟨rfl, rfl⟩)
        | (go_at_call 27; (with_reducible refine (HD1.out wC hbC).mono ?_); rintro e w7' ⟨D, cD, rfl, hrd, hb7'⟩; have hb7 := hbC.trans (hb7'.mono hbC.size); obtain ⟨e7, l7⟩ := HST7.out w7' hb7; have HDN := Lib.hid (done_any b 1 A n cA D m cD none 0 0 VS w7' e7); unfold AnsV at HDN; clear e7)
        | (go_at_call 26; (with_reducible refine HDN.out.mono ?_); rintro e w8 ⟨rfl, hb8⟩; obtain ⟨_, lw8⟩ := HST7.out w8 (hb7.trans (hb8.mono hb7.size)); obtain ⟨_, hrw8, _⟩ := HX.out w8 lw8; have r0 : w8.cell? ⟨w.heap.size + 1, 0, none⟩ = some (.int .i64 0) := hrw8.cell (i := 0) (by decide); have r1 : w8.cell? ⟨w.heap.size + 1, 1, none⟩ = some (.slice none 0 0) := hrw8.cell (i := 1) (by decide); have r2 : w8.cell? ⟨w.heap.size + 1, 2, none⟩ = some (.slice none 0 0) := hrw8.cell (i := 2) (by decide); have r3 : w8.cell? ⟨w.heap.size + 1, 3, none⟩ = some (.slice none 0 0) := hrw8.cell (i := 3) (by decide); have r4 : w8.cell? ⟨w.heap.size + 1, 4, none⟩ = some (.string ⟨#[]⟩) := hrw8.cell (i := 4) (by decide); have rf := hrw8.frozen))
      obtain ⟨wf, hwf⟩ : ∃ x, ((((w8.setCell ⟨w.heap.size + 1, 0, none⟩ (.int .i64 1)).setCell ⟨w.heap.size + 1, 1, none⟩ (.slice A n cA)).setCell ⟨w.heap.size + 1, 2, none⟩ (.slice D m cD)).setCell ⟨w.heap.size + 1, 3, none⟩ (.slice none 0 0)).setCell ⟨w.heap.size + 1, 4, none⟩ (.string VS) = x := ⟨_, rfl⟩
      have A5 := ans5 hrw8 (.int .i64 1) (.slice A n cA) (.slice D m cD) (.slice none 0 0) (.string VS)
      have LF := (HX.out w8 lw8).2.2
      have BF : Below w.heap.size w wf := by rw [← hwf]; exact by repeat (first | assumption | exact Below.refl _ _ | refine Below.drew ?_ | refine Below.alloc ?_ (by first | omega | (simp <;> omega)) _ | refine Below.setCell ?_ (by first | omega | (simp <;> omega)) _)
      rw [hwf] at A5 ⊢
      have q0 : wf.cell? ⟨w.heap.size + 1, 0, none⟩ = some (.int .i64 1) := A5.cell (i := 0) (by decide)
      have q1 : wf.cell? ⟨w.heap.size + 1, 1, none⟩ = some (.slice A n cA) := A5.cell (i := 1) (by decide)
      have q2 : wf.cell? ⟨w.heap.size + 1, 2, none⟩ = some (.slice D m cD) := A5.cell (i := 2) (by decide)
      have q3 : wf.cell? ⟨w.heap.size + 1, 3, none⟩ = some (.slice none 0 0) := A5.cell (i := 3) (by decide)
      have q4 : wf.cell? ⟨w.heap.size + 1, 4, none⟩ = some (.string VS) := A5.cell (i := 4) (by decide)
      refine bodyPost_ret (v := .tuple #[.agg #[.int .i64 1, (.slice A n cA), (.slice D m cD), (.slice none 0 0), (.string VS)], .int .i64 0]) (by simp [results, Tryz.results7, go_sem, q0, q1, q2, q3, q4]) rfl ?_
      have RD := (hrd.below hb8).set5 (rb := w.heap.size + 1) (by have := HSZ.out; have := HLZ.out; have := hbC.size; omega) (.int .i64 1) (.slice A n cA) (.slice D m cD) (.slice none 0 0) (.string VS)
      have RA := ((HRA.out.below hb7).below hb8).set5 (rb := w.heap.size + 1) HLZ.out (.int .i64 1) (.slice A n cA) (.slice D m cD) (.slice none 0 0) (.string VS)
      rw [hwf] at RD RA
      exact ⟨BF, s3, .inr (.inr ⟨HJ3.out, HOP.out, A, cA, D, cD, by rw [HVS.out]; rfl, RA.1, RD.1⟩)⟩
    · have HNE := Lib.hid (And.intro hneg hno)
      have HCN := Lib.hid hc
      subst hz
      clear hneg hno HOR
      have hc0 : (0 : Int) ≤ c := by omega
      have HRY := Lib.hid (ray1 p g2 b HG2.out lo s3 HBD.out HJ3.out n HPN.out.1 c hc HNE.out.1 w1 wB HT1.out HSTB.out)
      clear hc
      go_wp2_with (first
        | (go_at_call 30; (with_reducible refine HRY.out.mono ?_); rintro e w7 ⟨D, cD, rfl, hrd, hb7⟩; obtain ⟨e7, l7⟩ := HST7.out w7 hb7; have HDN := Lib.hid (done_any b 3 A n cA none 0 0 D n cD ⟨#[]⟩ w7 e7); unfold AnsV at HDN; clear e7)
        | (go_at_call 26; (with_reducible refine HDN.out.mono ?_); rintro e w8 ⟨rfl, hb8⟩; obtain ⟨_, lw8⟩ := HST7.out w8 (hb7.trans (hb8.mono hb7.size)); obtain ⟨_, hrw8, _⟩ := HX.out w8 lw8; have r0 : w8.cell? ⟨w.heap.size + 1, 0, none⟩ = some (.int .i64 0) := hrw8.cell (i := 0) (by decide); have r1 : w8.cell? ⟨w.heap.size + 1, 1, none⟩ = some (.slice none 0 0) := hrw8.cell (i := 1) (by decide); have r2 : w8.cell? ⟨w.heap.size + 1, 2, none⟩ = some (.slice none 0 0) := hrw8.cell (i := 2) (by decide); have r3 : w8.cell? ⟨w.heap.size + 1, 3, none⟩ = some (.slice none 0 0) := hrw8.cell (i := 3) (by decide); have r4 : w8.cell? ⟨w.heap.size + 1, 4, none⟩ = some (.string ⟨#[]⟩) := hrw8.cell (i := 4) (by decide); have rf := hrw8.frozen))
      obtain ⟨wf, hwf⟩ : ∃ x, ((((w8.setCell ⟨w.heap.size + 1, 0, none⟩ (.int .i64 3)).setCell ⟨w.heap.size + 1, 1, none⟩ (.slice A n cA)).setCell ⟨w.heap.size + 1, 2, none⟩ (.slice none 0 0)).setCell ⟨w.heap.size + 1, 3, none⟩ (.slice D n cD)).setCell ⟨w.heap.size + 1, 4, none⟩ (.string ⟨#[]⟩) = x := ⟨_, rfl⟩
      have A5 := ans5 hrw8 (.int .i64 3) (.slice A n cA) (.slice none 0 0) (.slice D n cD) (.string ⟨#[]⟩)
      have LF := (HX.out w8 lw8).2.2
      have BF : Below w.heap.size w wf := by rw [← hwf]; exact by repeat (first | assumption | exact Below.refl _ _ | refine Below.drew ?_ | refine Below.alloc ?_ (by first | omega | (simp <;> omega)) _ | refine Below.setCell ?_ (by first | omega | (simp <;> omega)) _)
      rw [hwf] at A5 ⊢
      have q0 : wf.cell? ⟨w.heap.size + 1, 0, none⟩ = some (.int .i64 3) := A5.cell (i := 0) (by decide)
      have q1 : wf.cell? ⟨w.heap.size + 1, 1, none⟩ = some (.slice A n cA) := A5.cell (i := 1) (by decide)
      have q2 : wf.cell? ⟨w.heap.size + 1, 2, none⟩ = some (.slice none 0 0) := A5.cell (i := 2) (by decide)
      have q3 : wf.cell? ⟨w.heap.size + 1, 3, none⟩ = some (.slice D n cD) := A5.cell (i := 3) (by decide)
      have q4 : wf.cell? ⟨w.heap.size + 1, 4, none⟩ = some (.string ⟨#[]⟩) := A5.cell (i := 4) (by decide)
      refine bodyPost_ret (v := .tuple #[.agg #[.int .i64 3, (.slice A n cA), (.slice none 0 0), (.slice D n cD), (.string ⟨#[]⟩)], .int .i64 0]) (by simp [results, Tryz.results7, go_sem, q0, q1, q2, q3, q4]) rfl ?_
      have RD := (hrd.below hb8).set5 (rb := w.heap.size + 1) (by have := HSZ.out; have := HLZ.out; omega) (.int .i64 3) (.slice A n cA) (.slice none 0 0) (.slice D n cD) (.string ⟨#[]⟩)
      have RA := ((HRA.out.below hb7).below hb8).set5 (rb := w.heap.size + 1) HLZ.out (.int .i64 3) (.slice A n cA) (.slice none 0 0) (.slice D n cD) (.string ⟨#[]⟩)
      rw [hwf] at RD RA
      exact ⟨BF, s3, .inr (.inl ⟨HJ3.out, c, HCN.out, HNE.out.1, HNE.out.2, A, cA, D, cD, rfl, RA.1, RD.1⟩)⟩
  case false =>
    have hd1 := duals1 p g1 b HG1.out lo s HBD.out (HJ1.out.1.dg HBD.out.inK HBD.out.m).2 m HPN.out.2 1 (dg_int ⟨1, rfl, by decide⟩) w1 w6 HT1.out HST6.out
    rw [one_S] at hd1
    have HD1 := Lib.hid hd1
    clear hd1
    have HST7 : Hid (∀ x, Below w6.heap.size w6 x → ErrAt x b ∧ Below lo w1 x) := Lib.hid (fun x hx => by
      have h := HST6.out.below HT1.out hx
      have h2 := h.err
      rw [HG1.out] at h2
      exact ⟨h2, h.bel⟩)
    go_wp2_with (first
      | (go_at_call 27; (with_reducible refine HD1.out.mono ?_); rintro e w7 ⟨D, cD, rfl, hrd, hb7⟩; obtain ⟨e7, l7⟩ := HST7.out w7 hb7; have HDN := Lib.hid (done_any b 2 none 0 0 D m cD none 0 0 ⟨#[]⟩ w7 e7); unfold AnsV at HDN; clear e7)
      | (go_at_call 26; (with_reducible refine HDN.out.mono ?_); rintro e w8 ⟨rfl, hb8⟩; obtain ⟨_, lw8⟩ := HST7.out w8 (hb7.trans (hb8.mono hb7.size)); obtain ⟨_, hrw8, _⟩ := HX.out w8 lw8; have r0 : w8.cell? ⟨w.heap.size + 1, 0, none⟩ = some (.int .i64 0) := hrw8.cell (i := 0) (by decide); have r1 : w8.cell? ⟨w.heap.size + 1, 1, none⟩ = some (.slice none 0 0) := hrw8.cell (i := 1) (by decide); have r2 : w8.cell? ⟨w.heap.size + 1, 2, none⟩ = some (.slice none 0 0) := hrw8.cell (i := 2) (by decide); have r3 : w8.cell? ⟨w.heap.size + 1, 3, none⟩ = some (.slice none 0 0) := hrw8.cell (i := 3) (by decide); have r4 : w8.cell? ⟨w.heap.size + 1, 4, none⟩ = some (.string ⟨#[]⟩) := hrw8.cell (i := 4) (by decide); have rf := hrw8.frozen))
    obtain ⟨wf, hwf⟩ : ∃ x, ((((w8.setCell ⟨w.heap.size + 1, 0, none⟩ (.int .i64 2)).setCell ⟨w.heap.size + 1, 1, none⟩ (.slice none 0 0)).setCell ⟨w.heap.size + 1, 2, none⟩ (.slice D m cD)).setCell ⟨w.heap.size + 1, 3, none⟩ (.slice none 0 0)).setCell ⟨w.heap.size + 1, 4, none⟩ (.string ⟨#[]⟩) = x := ⟨_, rfl⟩
    have A5 := ans5 hrw8 (.int .i64 2) (.slice none 0 0) (.slice D m cD) (.slice none 0 0) (.string ⟨#[]⟩)
    have LF := (HX.out w8 lw8).2.2
    have BF : Below w.heap.size w wf := by rw [← hwf]; exact by repeat (first | assumption | exact Below.refl _ _ | refine Below.drew ?_ | refine Below.alloc ?_ (by first | omega | (simp <;> omega)) _ | refine Below.setCell ?_ (by first | omega | (simp <;> omega)) _)
    rw [hwf] at A5 ⊢
    have q0 : wf.cell? ⟨w.heap.size + 1, 0, none⟩ = some (.int .i64 2) := A5.cell (i := 0) (by decide)
    have q1 : wf.cell? ⟨w.heap.size + 1, 1, none⟩ = some (.slice none 0 0) := A5.cell (i := 1) (by decide)
    have q2 : wf.cell? ⟨w.heap.size + 1, 2, none⟩ = some (.slice D m cD) := A5.cell (i := 2) (by decide)
    have q3 : wf.cell? ⟨w.heap.size + 1, 3, none⟩ = some (.slice none 0 0) := A5.cell (i := 3) (by decide)
    have q4 : wf.cell? ⟨w.heap.size + 1, 4, none⟩ = some (.string ⟨#[]⟩) := A5.cell (i := 4) (by decide)
    refine bodyPost_ret (v := .tuple #[.agg #[.int .i64 2, (.slice none 0 0), (.slice D m cD), (.slice none 0 0), (.string ⟨#[]⟩)], .int .i64 0]) (by simp [results, Tryz.results7, go_sem, q0, q1, q2, q3, q4]) rfl ?_
    have RD := (hrd.below hb8).set5 (rb := w.heap.size + 1) (by have := HT1.out.1; have := HST6.out.bel.size; omega) (.int .i64 2) (.slice none 0 0) (.slice D m cD) (.slice none 0 0) (.string ⟨#[]⟩)
    rw [hwf] at RD
    exact ⟨BF, s, .inl ⟨HJ1.out.1, HJ1.out.2, (by first | exact HZ.out.2 rfl | exact HZ.out.2 trivial), D, cD, rfl, RD.1⟩⟩
end Go.Proofs.YthcmopgdjibojaaGreatDoor.smp
