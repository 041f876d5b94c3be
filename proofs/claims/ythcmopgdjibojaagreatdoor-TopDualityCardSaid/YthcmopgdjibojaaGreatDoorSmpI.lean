/- simplex: costs. -/
import Derived.Test.YthcmopgdjibojaaGreatDoorSmpG
import Derived.Deep.OwnRows
namespace Go.Proofs.YthcmopgdjibojaaGreatDoor.smp
open Go.RowKit
open Go.Proofs.YthcmopgdjibojaaGreatDoor.lib Go.Proofs.YthcmopgdjibojaaGreatDoor.app Go.Proofs.YthcmopgdjibojaaGreatDoor.nt Go.Proofs.YthcmopgdjibojaaGreatDoor.rd Go.Proofs.YthcmopgdjibojaaGreatDoor.wh Go.Proofs.YthcmopgdjibojaaGreatDoor.smx Go.Proofs.YthcmopgdjibojaaGreatDoor.rat Go.Proofs.YthcmopgdjibojaaGreatDoor.lnr
set_option linter.unusedVariables false
set_option linter.unusedSimpArgs false

/-- make([]Rat, n) in a region that draws its order. -/
theorem step_make_rats {ops : Array Oper} {o : Oper} {a : Act} {K : Act → World → Prop} {Q : Exit → Act → World → Prop} {E : Prop} {w : World} (hgd : o.guard = none) (l c : Operand) (hop : o.op = Op.makeSlice 31 l c)
    (n : Nat) (hl : a.eval l = .int .i64 n) (hc : a.eval c = .int .i64 n) (hn : n < 17592186044)
    (h : ∀ w', Arr w' w.heap.size n (fun _ => .string ⟨#[]⟩) → Below w.heap.size w w' → K (a.put o.dst (.slice (some ⟨w.heap.size, 0, none⟩) n n)) w') :
    if Region.wanted o (yielded ops a.tmps) = true then Oper.wp Tryz.prog o a w K Q else E := by
  have hw : Region.wanted o (yielded ops a.tmps) = true := by simp [Region.wanted, hgd]
  rw [if_pos hw]
  have hrun := run_make_row' (P := Tryz.prog) 31 32 (.string ⟨#[]⟩) 16 Tryz.underlying31 rat_elem.info rfl .i64 .i64 n (by omega) (by omega) w
  unfold Oper.wp
  simp [execOp, hop, hl, hc, hrun, Result.andThen]
  refine h _ ⟨_, _, World.alloc_heap_new w _, fun i hi => ?_⟩ ((Below.refl _ _).alloc (Nat.le_refl _) _)
  have e := toList_madeCells_one (.string ⟨#[]⟩) n
  rw [← Array.getElem?_toList, show (madeCells #[Value.string ⟨#[]⟩] n).toList = _ from e, List.getElem?_replicate, if_pos hi]
/-- The costs of the columns. -/
def cG (p : Lp) (u : Rat) (own : Bool) (k : Nat) : Rat := if k < p.n ∧ own = true then (p.cost k : Rat) else if p.N ≤ k then u else 0
theorem arr_next {w : World} {ck L k : Nat} {f g : Nat → Value} (h : Arr w ck L (fun j => if j < k then g j else f j)) (v : Value) (hv : v = g k) : Arr (w.setCell ⟨ck, k, none⟩ v) ck L (fun j => if j < k + 1 then g j else f j) := by
  refine (h.set k v).congr fun j hj => ?_
  show (if j = k then v else if j < k then g j else f j) = _
  by_cases e : j = k
  · subst e; rw [if_pos rfl, if_pos (by omega), hv]
  · rw [if_neg e]
    by_cases h : j < k
    · rw [if_pos h, if_pos (by omega)]
    · rw [if_neg h, if_neg (by omega)]
theorem arr_again {w : World} {ck L k : Nat} {f g : Nat → Value} {v0 : Value} (h : Arr w ck L (fun j => if j < k then g j else f j)) (v : Value) (hv : v = g k) : Arr ((w.setCell ⟨ck, k, none⟩ v0).setCell ⟨ck, k, none⟩ v) ck L (fun j => if j < k + 1 then g j else f j) := by
  refine ((h.set k v0).set k v).congr fun j hj => ?_
  show (if j = k then v else if j = k then v0 else if j < k then g j else f j) = _
  by_cases e : j = k
  · subst e; rw [if_pos rfl, if_pos (by omega), hv]
  · rw [if_neg e, if_neg e]
    by_cases h : j < k
    · rw [if_pos h, if_pos (by omega)]
    · rw [if_neg h, if_neg (by omega)]
def RatsOut (n : Nat) (q : Nat → Rat) (w : World) (e : Ending) (w' : World) : Prop := ∃ ck, w.heap.size ≤ ck ∧ e = .returned (.slice (some ⟨ck, 0, none⟩) n n) ∧ Arr w' ck n (vec q) ∧ Below w.heap.size w w'
set_option maxRecDepth 20000 in
set_option maxHeartbeats 4000000 in
theorem costs_any (p : Lp) (g : Geo) (pv : Value) (s : Tab) (u : Rat) (own : Bool) (l : List Int) (C0 : Option Addr) (c0 : Nat) (C1 : Option Addr) (c1 : Nat) (hn : p.n = l.length) (hcost : ∀ k, k < p.n → p.cost k = l[k]?.getD 0) (h64 : ∀ x ∈ l, typ.i64Q x) (hL : p.L ≤ 20) (hLN : p.L = p.N + p.m) (hnN : p.n ≤ p.N)
    (w : World) (B : Nat) (hB : B ≤ w.heap.size) (hI : Ints w B C0 l) (ht : TabT w) (hs : TS p g pv s w) :
    Calls Tryz.prog 24 #[.pointer (some ⟨g.b, 0, none⟩), LnV p.n p.m C0 c0 C1 c1, .string (ratS u), .bool own] w (RatsOut p.L (cG p u own) w) := by
  have x0 : w.cell? ⟨g.b, 0, none⟩ = some (.slice g.AR p.m g.cR) := hs.st.cell (i := 0) (by decide)
  have x5 : w.cell? ⟨g.b, 5, none⟩ = some (.int .i64 p.N) := hs.st.cell (i := 5) (by decide)
  have x6 : w.cell? ⟨g.b, 6, none⟩ = some (.int .i64 p.n) := hs.st.cell (i := 6) (by decide)
  have hbl := hs.st.lt
  have HOF : Hid (∀ x ∈ l, ∀ w', Below w.heap.size w w' → Calls Tryz.prog 45 #[.int .i64 x] w' fun e w2 => e = .returned (.string (ratS (x : Rat))) ∧ Below w'.heap.size w' w2) := Lib.hid (fun x hx w' h => rof_any x (h64 x hx).1 (h64 x hx).2 w' (ht.below h))
  have HG1 : Hid (∀ k, k < p.n → own = true → ∀ x, l[k]? = some x → vec (cG p u own) k = .string (ratS (x : Rat))) := Lib.hid (fun k hk ho x hx => by
    unfold vec cG
    rw [if_pos ⟨hk, ho⟩, hcost k hk, hx]; rfl)
  have HG2 : Hid (∀ k, p.N ≤ k → .string (ratS u) = vec (cG p u own) k) := Lib.hid (fun k hk => by
    unfold vec cG
    rw [if_neg (fun h => by omega), if_pos hk])
  have HG3 : Hid (∀ k, ¬ (k < p.n ∧ own = true) → ¬ p.N ≤ k → .string ⟨#[48]⟩ = vec (cG p u own) k) := Lib.hid (fun k h1 h2 => by
    unfold vec cG
    rw [if_neg h1, if_neg h2, rat_zero])
  have hil : p.n = l.length := hn
  obtain ⟨n, en⟩ : ∃ n, p.n = n := ⟨_, rfl⟩
  obtain ⟨N, eN⟩ : ∃ N, p.N = N := ⟨_, rfl⟩
  obtain ⟨m, em⟩ : ∃ m, p.m = m := ⟨_, rfl⟩
  obtain ⟨L, eL⟩ : ∃ L, p.L = L := ⟨_, rfl⟩
  obtain ⟨b, eb⟩ : ∃ b, g.b = b := ⟨_, rfl⟩
  obtain ⟨AR, eAR⟩ : ∃ AR, g.AR = AR := ⟨_, rfl⟩
  obtain ⟨cR, ecR⟩ : ∃ cR, g.cR = cR := ⟨_, rfl⟩
  rw [en] at hil HG1 HG3 x6 hnN
  rw [eN] at HG2 HG3 x5 hnN hLN
  rw [em] at x0 hLN
  rw [eL] at hL hLN
  rw [eb] at x0 x5 x6 hbl
  rw [eAR, ecR] at x0
  rw [eb, en, em, eL]
  have HI : Hid (∀ x, Below w.heap.size w x → Ints x B C0 l) := Lib.hid (fun x hx => hI.below (hx.mono hB))
  generalize cG p u own = G at HG1 HG2 HG3 ⊢
  generalize ratS u = U at HG2 ⊢
  unfold LnV
  clear hn hcost h64 ht hs en eN em eL eb eAR ecR hI
  subst hil
  have HLN := Lib.hid hLN
  have hwL : IntKind.i64.wrap ((N : Int) + m) = (L : Int) := by rw [IntWalk.i64_in _ (by omega)]; omega
  clear hLN
  go_enter Tryz.func24, Tryz.ntmps24
  go_upto_region 1 with fail
  obtain ⟨w1, hw1⟩ : ∃ x, w.alloc (.cells #[.slice C0 l.length c0, .slice C1 m c1] 25) = x := ⟨_, rfl⟩
  have hb1 : Below w.heap.size w w1 := by rw [← hw1]; exact (Below.refl _ _).alloc (Nat.le_refl _) _
  have hz1 : w.heap.size < w1.heap.size := by rw [← hw1]; simp
  have hp1 : PBox w1 w.heap.size l.length m C0 c0 C1 c1 := by rw [← hw1]; simp [PBox]
  rw [hw1]
  clear hw1
  obtain ⟨W, hW⟩ : ∃ x, w1.drew = x := ⟨_, rfl⟩
  have hbW : Below w.heap.size w W := by rw [← hW]; exact hb1.drew
  have hzW : w.heap.size < W.heap.size := by rw [← hW]; exact hz1
  have hpW : PBox W w.heap.size l.length m C0 c0 C1 c1 := by rw [← hW]; exact hp1
  have y0 := (hbW.cell (p := ⟨b, 0, none⟩) hbl).trans x0
  have y5 := (hbW.cell (p := ⟨b, 5, none⟩) hbl).trans x5
  (refine wp_region_held_drew (S := (fun w' => w'.cell? ⟨b, 0, none⟩ = some (.slice AR m cR) ∧ w'.cell? ⟨b, 5, none⟩ = some (.int .i64 N))) (by kernel_rfl) ?_ (fun hHeld => ?_))
  · rw [hW]; exact ⟨y0, y5⟩
  rw [hW] at hHeld ⊢
  clear hW hb1 hz1 hp1
  (refine wpAnyH_take (i := 0) (v := ?_) rfl (by kernel_rfl) (by kernel_rfl) (by kernel_rfl) (fun _ _ _ h => h) (Or.inl ⟨by kernel_rfl, ?_⟩) (by assumption) ?_; rotate_left; (focus (intro w hSw; (try dsimp only at hSw); go_simp; all_goals with_reducible rfl)); (try simp only [Act.put, List.getElem_toArray, List.getElem_cons_succ, List.getElem_cons_zero, List.setIfInBounds_toArray, List.set_cons_zero, List.set_cons_succ]))
  (refine wpAnyH_take (i := 1) (v := ?_) rfl (by kernel_rfl) (by kernel_rfl) (by kernel_rfl) (fun _ _ _ h => h) (Or.inl ⟨by kernel_rfl, ?_⟩) (by assumption) ?_; rotate_left; (focus (intro w hSw; (try dsimp only at hSw); go_simp; all_goals with_reducible rfl)); (try simp only [Act.put, List.getElem_toArray, List.getElem_cons_succ, List.getElem_cons_zero, List.setIfInBounds_toArray, List.set_cons_zero, List.set_cons_succ]))
  (refine wpAnyH_take (i := 2) (v := ?_) rfl (by kernel_rfl) (by kernel_rfl) (by kernel_rfl) (fun _ _ _ h => h) (Or.inl ⟨by kernel_rfl, ?_⟩) (by assumption) ?_; rotate_left; (focus (intro w hSw; (try dsimp only at hSw); go_simp; all_goals with_reducible rfl)); (try simp only [Act.put, List.getElem_toArray, List.getElem_cons_succ, List.getElem_cons_zero, List.setIfInBounds_toArray, List.set_cons_zero, List.set_cons_succ]))
  (refine wpAnyH_take (i := 3) (v := ?_) rfl (by kernel_rfl) (by kernel_rfl) (by kernel_rfl) (fun _ _ _ h => h) (Or.inl ⟨by kernel_rfl, ?_⟩) (by assumption) ?_; rotate_left; (focus (intro w hSw; (try dsimp only at hSw); go_simp; all_goals with_reducible rfl)); (try simp only [Act.put, List.getElem_toArray, List.getElem_cons_succ, List.getElem_cons_zero, List.setIfInBounds_toArray, List.set_cons_zero, List.set_cons_succ]))
  (refine wpAnyH_take (i := 4) (v := ?_) rfl (by kernel_rfl) (by kernel_rfl) (by kernel_rfl) (fun _ _ _ h => h) (Or.inl ⟨by kernel_rfl, ?_⟩) (by assumption) ?_; rotate_left; (focus (intro w hSw; (try dsimp only at hSw); go_simp; all_goals with_reducible rfl)); (try simp only [Act.put, List.getElem_toArray, List.getElem_cons_succ, List.getElem_cons_zero, List.setIfInBounds_toArray, List.set_cons_zero, List.set_cons_succ]))
  (refine wpAnyH_take (i := 5) (v := ?_) rfl (by kernel_rfl) (by kernel_rfl) (by kernel_rfl) (fun _ _ _ h => h) (Or.inl ⟨by kernel_rfl, ?_⟩) (by assumption) ?_; rotate_left; (focus (intro w hSw; (try dsimp only at hSw); go_simp; all_goals with_reducible rfl)); (try simp only [Act.put, List.getElem_toArray, List.getElem_cons_succ, List.getElem_cons_zero, List.setIfInBounds_toArray, List.set_cons_zero, List.set_cons_succ]))
  (refine wpAnyH_take (i := 6) (v := ?_) rfl (by kernel_rfl) (by kernel_rfl) (by kernel_rfl) (fun _ _ _ h => h) (Or.inl ⟨by kernel_rfl, ?_⟩) (by assumption) ?_; rotate_left; (focus (intro w hSw; (try dsimp only at hSw); go_simp; all_goals with_reducible rfl)); (try simp only [Act.put, List.getElem_toArray, List.getElem_cons_succ, List.getElem_cons_zero, List.setIfInBounds_toArray, List.set_cons_zero, List.set_cons_succ]))
  (refine wpAnyH_take (i := 7) (v := ?_) rfl (by kernel_rfl) (by kernel_rfl) (by kernel_rfl) (fun _ _ _ h => h) (Or.inl ⟨by kernel_rfl, ?_⟩) (by assumption) ?_; rotate_left; (focus (intro w hSw; (try dsimp only at hSw); go_simp; all_goals with_reducible rfl)); (try simp only [Act.put, List.getElem_toArray, List.getElem_cons_succ, List.getElem_cons_zero, List.setIfInBounds_toArray, List.set_cons_zero, List.set_cons_succ]))
  (refine wpAnyH_take (i := 8) (v := ?_) rfl (by kernel_rfl) (by kernel_rfl) (by kernel_rfl) (fun _ _ _ h => h) (Or.inl ⟨by kernel_rfl, ?_⟩) (by assumption) ?_; rotate_left; (focus (intro w hSw; (try dsimp only at hSw); go_simp; all_goals with_reducible rfl)); (try simp only [Act.put, List.getElem_toArray, List.getElem_cons_succ, List.getElem_cons_zero, List.setIfInBounds_toArray, List.set_cons_zero, List.set_cons_succ]))
  (refine wpAnyH_take (i := 9) (v := ?_) rfl (by kernel_rfl) (by kernel_rfl) (by kernel_rfl) (fun _ _ _ h => h) (Or.inl ⟨by kernel_rfl, ?_⟩) (by assumption) ?_; rotate_left; (focus (intro w hSw; (try dsimp only at hSw); go_simp; all_goals with_reducible rfl)); (try simp only [Act.put, List.getElem_toArray, List.getElem_cons_succ, List.getElem_cons_zero, List.setIfInBounds_toArray, List.set_cons_zero, List.set_cons_succ]))
  (refine wpAnyH_ready (rs := [10]) (by kernel_rfl) (by simp) ?_; refine AllReadyH.cons rfl (fun K hK => ?_) AllReadyH.nil)
  refine step_make_rats rfl _ _ rfl L rfl rfl (by omega) ?_
  intro w3 hA3 hb3
  have hb3w : Below w.heap.size w w3 := hbW.trans (hb3.mono hbW.size)
  (refine hK.out _ _ ⟨(hb3w.cell (p := ⟨b, 0, none⟩) hbl).trans x0, (hb3w.cell (p := ⟨b, 5, none⟩) hbl).trans x5⟩ (fun hHeld => ?_); clear hK K; (try simp only [Act.put, List.getElem_toArray, List.getElem_cons_succ, List.getElem_cons_zero, List.setIfInBounds_toArray, List.set_cons_zero, List.set_cons_succ]))
  (refine wpAnyH_take (i := 11) (v := ?_) rfl (by kernel_rfl) (by kernel_rfl) (by kernel_rfl) (fun _ _ _ h => h) (Or.inl ⟨by kernel_rfl, ?_⟩) (by assumption) ?_; rotate_left; (focus (intro w hSw; (try dsimp only at hSw); go_simp; all_goals with_reducible rfl)); (try simp only [Act.put, List.getElem_toArray, List.getElem_cons_succ, List.getElem_cons_zero, List.setIfInBounds_toArray, List.set_cons_zero, List.set_cons_succ]))
  (refine wpAnyH_done (by kernel_rfl) ?_ _)
  clear hHeld y0 y5
  obtain ⟨ck, hck⟩ : ∃ ck, W.heap.size = ck := ⟨_, rfl⟩
  rw [hck] at hA3 hzW ⊢
  have hp3 : PBox w3 w.heap.size l.length m C0 c0 C1 c1 := hpW.below hb3 (by omega)
  have hckb : ck ≠ b := by omega
  have hz3 : ck < w3.heap.size := hA3.lt
  clear hb3 hbW hck hpW
  have HX : Hid (∀ x, Kp (fun k => k ≠ ck) w3 x → Below w.heap.size w x ∧ PBox x w.heap.size l.length m C0 c0 C1 c1 ∧ x.cell? ⟨b, 5, none⟩ = some (.int .i64 N) ∧ x.cell? ⟨b, 6, none⟩ = some (.int .i64 l.length)) := Lib.hid (fun x hx => by
    have h1 : Below w.heap.size w x := hb3w.trans (hx.lo (by omega) (by omega))
    exact ⟨h1, ⟨hx.cell hp3.1 (by omega), hx.cell hp3.2 (by omega)⟩, (h1.cell (p := ⟨b, 5, none⟩) hbl).trans x5, (h1.cell (p := ⟨b, 6, none⟩) hbl).trans x6⟩)
  have HA3 : Hid (Arr w3 ck L (fun j => if j < 0 then vec G j else .string ⟨#[]⟩)) := Lib.hid (hA3.congr fun i hi => by rw [if_neg (by omega)])
  clear hA3
  go_wp2
  go_loopw [24] (fun iv wr => ∃ k : Nat, k ≤ L ∧ iv = .int .i64 k ∧ Hid (Kp (fun k => k ≠ ck) w3 wr) ∧ Hid (Arr wr ck L (fun j => if j < k then vec G j else .string ⟨#[]⟩))) (fun iv _ => L - (intOf iv).toNat)
  case atStart => exact ⟨0, by omega, rfl, Lib.hid (Kp.refl _), HA3⟩
  case round =>
    obtain ⟨k, hk, rfl, hkp, har⟩ := hrel
    by_cases hlt : k < L
    · have hcx := har.out.cell hlt
      rw [if_neg (Nat.lt_irrefl k)] at hcx
      have hfx := har.out.frozen k
      have hk0 : (0 : Int) ≤ k := by omega
      have hkL : (k : Int) < L := by omega
      obtain ⟨hbx, ⟨p0, p1⟩, y5, y6⟩ := HX.out wr hkp.out
      have hkp5 : Kp (fun k => k ≠ ck) w3 (wr.setCell ⟨ck, k, none⟩ (.string ⟨#[48]⟩)) := hkp.out.set (fun j _ h => h) _
      have s0 := (HX.out _ hkp5).2.1.1
      have s5 := (HX.out _ hkp5).2.2.1
      have s6 := (HX.out _ hkp5).2.2.2
      have s7 := (HX.out _ hkp5).1
      have hA5 : Arr (wr.setCell ⟨ck, k, none⟩ (.string ⟨#[48]⟩)) ck L (fun j => if j = k then .string ⟨#[48]⟩ else if j < k then vec G j else .string ⟨#[]⟩) := har.out.set k _
      have h5c := hA5.cell hlt
      rw [if_pos rfl] at h5c
      have h5f := hA5.frozen k
      by_cases hkn : k < l.length ∧ own = true
      · obtain ⟨hkl, rfl⟩ := hkn
        obtain ⟨ad, x, hA0, hadb, hx, hcc⟩ := (HI.out _ s7).at_ hkl
        subst hA0
        have hb3' : (ad.add k).block < wr.heap.size := by rw [block_of_add]; have := hbx.size; omega
        have HO := Lib.hid (fun (w' : World) (h : Below w.heap.size w w') => HOF.out x (List.mem_of_getElem? hx) w' h)
        have HGx := Lib.hid (HG1.out k hkl rfl x hx)
        have hkn' : (k : Int) < l.length := by omega
        have hkN : ¬ (N : Int) ≤ k := by omega
        generalize ratS (x : Rat) = X at HO HGx
        have HF : Hid (∀ y, Below (wr.setCell ⟨ck, k, none⟩ (.string ⟨#[48]⟩)).heap.size (wr.setCell ⟨ck, k, none⟩ (.string ⟨#[48]⟩)) y → y.cell? ⟨ck, k, none⟩ = some (.string ⟨#[48]⟩) ∧ y.frozen? ⟨ck, k, none⟩ = false ∧ Kp (fun k => k ≠ ck) w3 (y.setCell ⟨ck, k, none⟩ (.string X)) ∧ Arr (y.setCell ⟨ck, k, none⟩ (.string X)) ck L (fun j => if j < k + 1 then vec G j else .string ⟨#[]⟩)) := Lib.hid (fun y hy => by
          have h1 := hA5.below hy
          have h2 := h1.cell hlt
          rw [if_pos rfl] at h2
          refine ⟨h2, h1.frozen k, (hkp5.trans (Kp.below hy)).set (fun j _ h => h) _, (h1.set k _).congr fun j hj => ?_⟩
          show (if j = k then Value.string X else if j = k then _ else if j < k then vec G j else _) = _
          by_cases e : j = k
          · subst e; rw [if_pos rfl, if_pos (by omega)]; exact HGx.out.symm
          · rw [if_neg e, if_neg e]
            by_cases h : j < k
            · rw [if_pos h, if_pos (by omega)]
            · rw [if_neg h, if_neg (by omega)])
        clear hA5 hx har
        go_wp2_with (go_at_call 45; (with_reducible refine (HO.out _ s7).mono ?_); rintro e w6 ⟨rfl, hb6⟩; obtain ⟨f1, f2, f3, f4⟩ := HF.out w6 hb6; have F4 := Lib.hid f4; have F3 := Lib.hid f3; have q5 := (HX.out _ f3).2.2.1; clear f3 f4)
        go_roundw
        case rel => exact ⟨k + 1, by omega, by go_num, F3, F4⟩
        case measure => simp [intOf]; omega
      · have hcond : (decide ((k : Int) < l.length) && own) = false := by
          cases own
          · simp
          · simp at hkn ⊢; omega
        by_cases hkN : N ≤ k
        · have hkN' : (N : Int) ≤ k := by omega
          have HF : Hid (Kp (fun k => k ≠ ck) w3 ((wr.setCell ⟨ck, k, none⟩ (.string ⟨#[48]⟩)).setCell ⟨ck, k, none⟩ (.string U)) ∧ Arr ((wr.setCell ⟨ck, k, none⟩ (.string ⟨#[48]⟩)).setCell ⟨ck, k, none⟩ (.string U)) ck L (fun j => if j < k + 1 then vec G j else .string ⟨#[]⟩)) := Lib.hid ⟨hkp5.set (fun j _ h => h) _, arr_again har.out _ (HG2.out k hkN)⟩
          have hkn2 : ¬ (k : Int) < l.length := by omega
          clear hA5 har hkn
          go_wp2
          go_roundw
          case rel => exact ⟨k + 1, by omega, by go_num, Lib.hid HF.out.1, Lib.hid HF.out.2⟩
          case measure => simp [intOf]; omega
        · have hkN' : ¬ (N : Int) ≤ k := by omega
          have HF : Hid (Kp (fun k => k ≠ ck) w3 (wr.setCell ⟨ck, k, none⟩ (.string ⟨#[48]⟩)) ∧ Arr (wr.setCell ⟨ck, k, none⟩ (.string ⟨#[48]⟩)) ck L (fun j => if j < k + 1 then vec G j else .string ⟨#[]⟩)) := Lib.hid ⟨hkp5, arr_next har.out _ (HG3.out k hkn hkN)⟩
          clear hA5 har
          by_cases hkl : k < l.length
          · obtain rfl : own = false := by cases own <;> simp_all
            have hkl' : (k : Int) < l.length := by omega
            clear hkn
            go_wp2
            go_roundw
            case rel => exact ⟨k + 1, by omega, by go_num, Lib.hid HF.out.1, Lib.hid HF.out.2⟩
            case measure => simp [intOf]; omega
          · have hkl' : ¬ (k : Int) < l.length := by omega
            clear hkn
            go_wp2
            go_roundw
            case rel => exact ⟨k + 1, by omega, by go_num, Lib.hid HF.out.1, Lib.hid HF.out.2⟩
            case measure => simp [intOf]; omega
    · obtain rfl : k = L := by omega
      have hbx := (HX.out wr hkp.out).1
      have HA := Lib.hid (har.out.congr fun j hj => if_pos hj)
      clear hlt
      go_wp2
      go_ret
      exact ⟨ck, by omega, rfl, HA.out, hbx⟩
end Go.Proofs.YthcmopgdjibojaaGreatDoor.smp
