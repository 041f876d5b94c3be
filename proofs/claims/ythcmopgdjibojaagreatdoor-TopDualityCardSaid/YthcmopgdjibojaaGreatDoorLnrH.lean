import Derived.Test.YthcmopgdjibojaaGreatDoorLnrX
import Derived.RegionTactic
import Derived.BigRegion
import Derived.Deep.DeepCutAuto
/- The reference's Check of a linear program. -/
namespace Go.Proofs.YthcmopgdjibojaaGreatDoor.lnr
open Go.RowKit
open Go.Proofs.YthcmopgdjibojaaGreatDoor.lib Go.Proofs.YthcmopgdjibojaaGreatDoor.app Go.Proofs.YthcmopgdjibojaaGreatDoor.nt Go.Proofs.YthcmopgdjibojaaGreatDoor.rd Go.Proofs.YthcmopgdjibojaaGreatDoor.wh Go.Proofs.YthcmopgdjibojaaGreatDoor.smx Go.Proofs.YthcmopgdjibojaaGreatDoor.rat Go.Proofs.YthcmopgdjibojaaGreatDoor.typ Go.Proofs.YthcmopgdjibojaaGreatDoor.txt
set_option linter.unusedVariables false
set_option linter.unusedSimpArgs false

def RowOk (n : Nat) (r : Lrw) : Prop := r.coef.length = n ∧ 1 ≤ r.kind ∧ r.kind ≤ 3
/-- Faults so far. -/
def Fl (l : List Lrw) (n i q : Nat) : Prop := q ≤ 2 * i ∧ (q = 0 ↔ ∀ j r, j < i → l[j]? = some r → RowOk n r)
theorem Fl.ok {l : List Lrw} {n i q : Nat} {r : Lrw} (h : Fl l n i q) (hx : l[i]? = some r) (hr : RowOk n r) : Fl l n (i + 1) q := by
  refine ⟨by have := h.1; omega, h.2.trans ⟨fun g j r' hj hx' => ?_, fun g j r' hj hx' => g j r' (by omega) hx'⟩⟩
  rcases Nat.lt_succ_iff_lt_or_eq.1 hj with h1 | h1
  · exact g j r' h1 hx'
  · subst h1; rw [hx] at hx'; injection hx' with e; rw [← e]; exact hr
theorem Fl.bad {l : List Lrw} {n i q q' : Nat} {r : Lrw} (h : Fl l n i q) (hx : l[i]? = some r) (hr : ¬ RowOk n r) (h1 : q < q') (h2 : q' ≤ q + 2) : Fl l n (i + 1) q' :=
  ⟨by have := h.1; omega, ⟨fun e => by omega, fun g => absurd (g i r (by omega) hx) hr⟩⟩
theorem flt_elem : ElemOf 26 68 (.agg #[.int .i64 0, .string ⟨#[]⟩]) 2 24 := ⟨Tryz.underlying26, by kernel_rfl, rfl, by decide, by decide⟩
/-- A row of faults grows by one. -/
theorem push_flt {ops : Array Oper} {rest : List Oper} {o : Oper} {a : Act} {Q : Exit → Act → World → Prop} {w : World} (hgd : o.guard = none) (s x : Operand)
    (ho : o.op = .call { callee := .builtin .append, args := #[s, x], argTypes := #[26, 26] })
    (base : Nat) (A : Option Addr) (c n : Nat) (xs : List Value) (hs : a.eval s = .slice A n c) (hown : w.ownsRow base 68 2 (.slice A n c) n xs)
    (e : Int) (t : ByteArray) (hx : a.eval x = .slice (some ⟨w.heap.size, 0, none⟩) 1 1) (hn : n < 1000000000) (hbase : base ≤ w.heap.size)
    (h : ∀ g c w', w'.ownsRow base 68 2 (.slice (some ⟨g, 0, none⟩) (n + 1) c) (n + 1) (xs ++ [.int .i64 e, .string t]) → Below base w w' → w.heap.size < w'.heap.size → wpList Tryz.prog ops Q rest (a.put o.dst (.slice (some ⟨g, 0, none⟩) (n + 1) c)) w') :
    wpList Tryz.prog ops Q (o :: rest) a (w.alloc (.cells #[.int .i64 e, .string t] 68)) := by
  refine wpList_app flt_elem s x ho base A n c xs hs (hown.alloc _) ⟨w.heap.size, 0, none⟩ 1 [.int .i64 e, .string t] hx rfl (two_new _ _ _ _) (by simp [Value.oneCell']) (by omega) (by simp; omega) hgd ?_
  intro g' c' w1 hown' hg _
  exact h g' c' w1 hown' (((Below.refl base w).alloc hbase _).grown hg (by simp; omega) (own_base hown)) (by have := hg.size; simp at this; omega)
set_option maxRecDepth 20000 in
set_option maxHeartbeats 4000000 in
theorem rcheck_any (C0 : Option Addr) (c0 : Nat) (C1 : Option Addr) (c1 : Nat) (t : Lnr) (hn : t.cost.length ≤ 8) (hm : t.rows.length ≤ 6) (w : World) (B : Nat) (hB : B ≤ w.heap.size) (hr : RowAt rLrw w B C1 t.rows) :
    Calls Tryz.prog 5 #[LnV t.cost.length t.rows.length C0 c0 C1 c1] w fun e w' => ∃ A q c, e = .returned (.slice A q c) ∧ q ≤ 100 ∧ (q = 0 ↔ LnOk t) ∧ Below w.heap.size w w' := by
  have HLO : Hid ((∀ j r, j < t.rows.length → t.rows[j]? = some r → RowOk t.cost.length r) ↔ LnOk t) := Lib.hid ⟨fun g r hr => by
    obtain ⟨j, hj⟩ := List.getElem?_of_mem hr
    exact g j r (List.getElem?_eq_some_iff.1 hj).1 hj, fun g j r _ hx => g r (List.mem_of_getElem? hx)⟩
  generalize LnOk t = OK at HLO ⊢
  obtain ⟨n, hn'⟩ : ∃ n, t.cost.length = n := ⟨_, rfl⟩
  obtain ⟨l, hl⟩ : ∃ l, t.rows = l := ⟨_, rfl⟩
  rw [hl, hn'] at HLO
  rw [hl] at hr hm ⊢
  rw [hn'] at hn ⊢
  clear hl hn'
  unfold LnV
  obtain ⟨m, hm'⟩ : ∃ m, l.length = m := ⟨_, rfl⟩
  have hbelr : ∀ w', Below w.heap.size w w' → RowAt rLrw w' B C1 l := fun w' h => hr.below (h.mono hB)
  rw [hm'] at hm HLO ⊢
  clear hr
  go_enter Tryz.func5, Tryz.ntmps5
  go_wp2
  go_loopw [3, 4] (fun o i wr => ∃ (k : Nat) (A : Option Addr) (c q : Nat) (xs : List Value), k ≤ m ∧ i = .int .i64 k ∧ o = .slice A q c ∧ wr.ownsRow (w.heap.size + 1) 68 2 (.slice A q c) q xs ∧ Hid (Fl l n k q) ∧ Below w.heap.size w wr ∧ w.heap.size < wr.heap.size ∧ PBox wr w.heap.size n m C0 c0 C1 c1) (fun _ i _ => m - (intOf i).toNat)
  case atStart => exact ⟨0, none, 0, 0, [], by omega, rfl, rfl, World.ownsRow_nil _ _ _ _, Lib.hid ⟨by omega, ⟨fun _ j r hj => by omega, fun _ => rfl⟩⟩, by repeat (first | assumption | exact Below.refl _ _ | refine Below.drew ?_ | refine Below.alloc ?_ (by first | omega | (simp <;> omega)) _ | refine Below.setCell ?_ (by first | omega | (simp <;> omega)) _), by simp, by simp [PBox]⟩
  case round =>
    obtain ⟨k, A0, cA, q, xs, hk, rfl, rfl, hown, hfl, hbel, hsz, hbx⟩ := hrel
    by_cases hlt : k < m
    · obtain ⟨r, ad, D0, d0, hx, rfl, hadb, hld, hI, hF⟩ := row_at (hbelr _ hbel) (k := k) (by omega)
      have hk18 : k < 1000000000000000000 := by omega
      have hk0 : (0 : Int) ≤ k := by omega
      have hkm : (k : Int) < m := by omega
      have hq2 : q ≤ 12 := by have := hfl.out.1; omega
      have hbk : (ad.add (k * 3)).block < w.heap.size := by rw [block_of_add]; omega
      have LD : Hid (∀ x, Below w.heap.size w x → LrwAt x (ad.add (k * 3)) r D0 d0) := Lib.hid (fun x hx' => by
        have e := fun o => (hx'.cell (p := ⟨(ad.add (k * 3)).block, o, none⟩) hbk).trans (hbel.cell (p := ⟨(ad.add (k * 3)).block, o, none⟩) hbk).symm
        have e0 := (hx'.cell (p := ad.add (k * 3)) hbk).trans (hbel.cell (p := ad.add (k * 3)) hbk).symm
        exact ⟨e0.trans hld.1, (e _).trans hld.2.1, (e _).trans hld.2.2⟩)
      have HOKr : Hid (r.coef.length = n → 1 ≤ r.kind → r.kind ≤ 3 → Fl l n (k + 1) q) := Lib.hid (fun h1 h2 h3 => hfl.out.ok hx ⟨h1, h2, h3⟩)
      have HBDr : Hid (¬ (r.coef.length = n ∧ 1 ≤ r.kind ∧ r.kind ≤ 3) → ∀ q', q < q' → q' ≤ q + 2 → Fl l n (k + 1) q') := Lib.hid (fun h q' h1 h2 => hfl.out.bad hx h h1 h2)
      obtain ⟨d0c, _, _⟩ := hld
      clear hx hI hF hfl
      obtain ⟨b0, b1⟩ := hbx
      go_upto_region 9 with fail
      (refine wp_region_held_drew (S := (fun w' => w'.cell? ⟨w.heap.size, 0, none⟩ = some (.slice C0 n c0) ∧ w'.cell? ⟨w.heap.size, 1, none⟩ = some (.slice (some ad) m c1) ∧ w'.cell? (ad.add (k * 3)) = some (.slice D0 r.coef.length d0))) (by kernel_rfl) ?_ (fun hHeld => ?_))
      · exact ⟨b0, b1, d0c⟩
      (refine wpAnyH_take (i := 0) (v := ?_) rfl (by kernel_rfl) (by kernel_rfl) (by kernel_rfl) (fun _ _ _ h => h) (Or.inl ⟨by kernel_rfl, ?_⟩) (by assumption) ?_; rotate_left; (focus (intro w hSw; (try dsimp only at hSw); go_simp; all_goals with_reducible rfl)); (try simp only [Act.put, List.getElem_toArray, List.getElem_cons_succ, List.getElem_cons_zero, List.setIfInBounds_toArray, List.set_cons_zero, List.set_cons_succ]))
      (refine wpAnyH_take (i := 1) (v := ?_) rfl (by kernel_rfl) (by kernel_rfl) (by kernel_rfl) (fun _ _ _ h => h) (Or.inl ⟨by kernel_rfl, ?_⟩) (by assumption) ?_; rotate_left; (focus (intro w hSw; (try dsimp only at hSw); go_simp; all_goals with_reducible rfl)); (try simp only [Act.put, List.getElem_toArray, List.getElem_cons_succ, List.getElem_cons_zero, List.setIfInBounds_toArray, List.set_cons_zero, List.set_cons_succ]))
      (refine wpAnyH_take (i := 2) (v := ?_) rfl (by kernel_rfl) (by kernel_rfl) (by kernel_rfl) (fun _ _ _ h => h) (Or.inl ⟨by kernel_rfl, ?_⟩) (by assumption) ?_; rotate_left; (focus (intro w hSw; (try dsimp only at hSw); go_simp; all_goals with_reducible rfl)); (try simp only [Act.put, List.getElem_toArray, List.getElem_cons_succ, List.getElem_cons_zero, List.setIfInBounds_toArray, List.set_cons_zero, List.set_cons_succ]))
      (refine wpAnyH_take (i := 3) (v := ?_) rfl (by kernel_rfl) (by kernel_rfl) (by kernel_rfl) (fun _ _ _ h => h) (Or.inl ⟨by kernel_rfl, ?_⟩) (by assumption) ?_; rotate_left; (focus (intro w hSw; (try dsimp only at hSw); go_simp; all_goals with_reducible rfl)); (try simp only [Act.put, List.getElem_toArray, List.getElem_cons_succ, List.getElem_cons_zero, List.setIfInBounds_toArray, List.set_cons_zero, List.set_cons_succ]))
      (refine wpAnyH_take (i := 4) (v := ?_) rfl (by kernel_rfl) (by kernel_rfl) (by kernel_rfl) (fun _ _ _ h => h) (Or.inl ⟨by kernel_rfl, ?_⟩) (by assumption) ?_; rotate_left; (focus (intro w hSw; (try dsimp only at hSw); go_simp; all_goals with_reducible rfl)); (try simp only [Act.put, List.getElem_toArray, List.getElem_cons_succ, List.getElem_cons_zero, List.setIfInBounds_toArray, List.set_cons_zero, List.set_cons_succ]))
      (refine wpAnyH_take (i := 5) (v := ?_) rfl (by kernel_rfl) (by kernel_rfl) (by kernel_rfl) (fun _ _ _ h => h) (Or.inl ⟨by kernel_rfl, ?_⟩) (by assumption) ?_; rotate_left; (focus (intro w hSw; (try dsimp only at hSw); go_simp; all_goals with_reducible rfl)); (try simp only [Act.put, List.getElem_toArray, List.getElem_cons_succ, List.getElem_cons_zero, List.setIfInBounds_toArray, List.set_cons_zero, List.set_cons_succ]))
      (refine wpAnyH_take (i := 6) (v := ?_) rfl (by kernel_rfl) (by kernel_rfl) (by kernel_rfl) (fun _ _ _ h => h) (Or.inl ⟨by kernel_rfl, ?_⟩) (by assumption) ?_; rotate_left; (focus (intro w hSw; (try dsimp only at hSw); go_simp; all_goals with_reducible rfl)); (try simp only [Act.put, List.getElem_toArray, List.getElem_cons_succ, List.getElem_cons_zero, List.setIfInBounds_toArray, List.set_cons_zero, List.set_cons_succ]))
      (refine wpAnyH_take (i := 7) (v := ?_) rfl (by kernel_rfl) (by kernel_rfl) (by kernel_rfl) (fun _ _ _ h => h) (Or.inl ⟨by kernel_rfl, ?_⟩) (by assumption) ?_; rotate_left; (focus (intro w hSw; (try dsimp only at hSw); go_simp; all_goals with_reducible rfl)); (try simp only [Act.put, List.getElem_toArray, List.getElem_cons_succ, List.getElem_cons_zero, List.setIfInBounds_toArray, List.set_cons_zero, List.set_cons_succ]))
      (refine wpAnyH_take (i := 8) (v := ?_) rfl (by kernel_rfl) (by kernel_rfl) (by kernel_rfl) (fun _ _ _ h => h) (Or.inl ⟨by kernel_rfl, ?_⟩) (by assumption) ?_; rotate_left; (focus (intro w hSw; (try dsimp only at hSw); go_simp; all_goals with_reducible rfl)); (try simp only [Act.put, List.getElem_toArray, List.getElem_cons_succ, List.getElem_cons_zero, List.setIfInBounds_toArray, List.set_cons_zero, List.set_cons_succ]))
      (refine wpAnyH_take (i := 9) (v := ?_) rfl (by kernel_rfl) (by kernel_rfl) (by kernel_rfl) (fun _ _ _ h => h) (Or.inl ⟨by kernel_rfl, ?_⟩) (by assumption) ?_; rotate_left; (focus (intro w hSw; (try dsimp only at hSw); go_simp; all_goals with_reducible rfl)); (try simp only [Act.put, List.getElem_toArray, List.getElem_cons_succ, List.getElem_cons_zero, List.setIfInBounds_toArray, List.set_cons_zero, List.set_cons_succ]))
      (refine wpAnyH_take (i := 10) (v := ?_) rfl (by kernel_rfl) (by kernel_rfl) (by kernel_rfl) (fun _ _ _ h => h) (Or.inl ⟨by kernel_rfl, ?_⟩) (by assumption) ?_; rotate_left; (focus (intro w hSw; (try dsimp only at hSw); go_simp; all_goals with_reducible rfl)); (try simp only [Act.put, List.getElem_toArray, List.getElem_cons_succ, List.getElem_cons_zero, List.setIfInBounds_toArray, List.set_cons_zero, List.set_cons_succ]))
      (refine wpAnyH_done (by kernel_rfl) ?_ _)
      clear hHeld d0c
      have ownW0 : wr.drew.ownsRow (w.heap.size + 1) 68 2 (.slice A0 q cA) q xs := hown
      have hblW0 : Below w.heap.size w wr.drew := hbel.drew
      have szW0 : w.heap.size < wr.drew.heap.size := hsz
      have bxW0 : PBox wr.drew w.heap.size n m C0 c0 (some ad) c1 := ⟨b0, b1⟩
      have LDW0 := LD.out _ hblW0
      clear hown hbel hsz b0 b1
      generalize wr.drew = W0 at ownW0 hblW0 szW0 bxW0 LDW0 ⊢
      by_cases hl : r.coef.length = n
      · obtain ⟨e0, e1, e2⟩ := LDW0
        obtain ⟨b0, b1⟩ := id bxW0
        have hl' : ¬ ((r.coef.length : Int) ≠ n) := by omega
        by_cases h1 : r.kind < 1
        · have HF : Hid (Fl l n (k + 1) (q + 1)) := Lib.hid (HBDr.out (by omega) _ (by omega) (by omega))
          clear HOKr HBDr
          go_wp2_with (first | (at_builtin; refine push_flt rfl _ _ rfl (w.heap.size + 1) _ _ q _ rfl ownw2 _ _ rfl (by omega) (by omega) ?_; intro gw3 cw3 w3 ownw3 hbw3 sz2w3; have hblw3 : Below w.heap.size w w3 := Below.trans hblw2 (hbw3.mono (by omega)); have szw3 : w.heap.size < w3.heap.size := Nat.lt_trans szw2 sz2w3; have bxw3 := PBox.below (B := w.heap.size + 1) bxw2 hbw3 (by omega); have LDw3 := LD.out w3 hblw3) | (go_at_call 18; refine (rdec_any k hk18 _).mono ?_; rintro e w2 ⟨rfl, hbw2⟩; have hblw2 : Below w.heap.size w w2 := Below.trans hblW0 (hbw2.mono hblW0.size); have ownw2 := own_below ownW0 hbw2; have szw2 : w.heap.size < w2.heap.size := Nat.lt_of_lt_of_le szW0 hbw2.size; have bxw2 := PBox.below bxW0 hbw2 szW0))
          go_roundw
          case rel => exact ⟨k + 1, _, _, (q + 1), _, by omega, by go_num, rfl, ownw3, HF, hblw3, szw3, bxw3⟩
          case measure => simp [intOf]; omega
        · by_cases h3 : 3 < r.kind
          · have HF : Hid (Fl l n (k + 1) (q + 1)) := Lib.hid (HBDr.out (by omega) _ (by omega) (by omega))
            clear HOKr HBDr
            go_wp2_with (first | (at_builtin; refine push_flt rfl _ _ rfl (w.heap.size + 1) _ _ q _ rfl ownw2 _ _ rfl (by omega) (by omega) ?_; intro gw3 cw3 w3 ownw3 hbw3 sz2w3; have hblw3 : Below w.heap.size w w3 := Below.trans hblw2 (hbw3.mono (by omega)); have szw3 : w.heap.size < w3.heap.size := Nat.lt_trans szw2 sz2w3; have bxw3 := PBox.below (B := w.heap.size + 1) bxw2 hbw3 (by omega); have LDw3 := LD.out w3 hblw3) | (go_at_call 18; refine (rdec_any k hk18 _).mono ?_; rintro e w2 ⟨rfl, hbw2⟩; have hblw2 : Below w.heap.size w w2 := Below.trans hblW0 (hbw2.mono hblW0.size); have ownw2 := own_below ownW0 hbw2; have szw2 : w.heap.size < w2.heap.size := Nat.lt_of_lt_of_le szW0 hbw2.size; have bxw2 := PBox.below bxW0 hbw2 szW0))
            go_roundw
            case rel => exact ⟨k + 1, _, _, (q + 1), _, by omega, by go_num, rfl, ownw3, HF, hblw3, szw3, bxw3⟩
            case measure => simp [intOf]; omega
          · have HF : Hid (Fl l n (k + 1) q) := Lib.hid (HOKr.out hl (by omega) (by omega))
            clear HOKr HBDr
            go_wp2
            go_roundw
            case rel => exact ⟨k + 1, _, _, q, _, by omega, by go_num, rfl, ownW0, HF, hblW0, szW0, bxW0⟩
            case measure => simp [intOf]; omega
      · have hl' : ¬ (r.coef.length : Int) = n := by omega
        obtain ⟨e0, e1, e2⟩ := LDW0
        obtain ⟨b0, b1⟩ := id bxW0
        by_cases h1 : r.kind < 1
        · have HF : Hid (Fl l n (k + 1) (q + 1 + 1)) := Lib.hid (HBDr.out (by omega) _ (by omega) (by omega))
          clear HOKr HBDr
          go_wp2_with (first | (at_builtin; refine push_flt rfl _ _ rfl (w.heap.size + 1) _ _ (q + 1) _ rfl ownw4 _ _ rfl (by omega) (by omega) ?_; intro gw5 cw5 w5 ownw5 hbw5 sz2w5; have hblw5 : Below w.heap.size w w5 := Below.trans hblw4 (hbw5.mono (by omega)); have szw5 : w.heap.size < w5.heap.size := Nat.lt_trans szw4 sz2w5; have bxw5 := PBox.below (B := w.heap.size + 1) bxw4 hbw5 (by omega); have LDw5 := LD.out w5 hblw5) | (go_at_call 18; refine (rdec_any k hk18 _).mono ?_; rintro e w4 ⟨rfl, hbw4⟩; have hblw4 : Below w.heap.size w w4 := Below.trans hblw3 (hbw4.mono hblw3.size); have ownw4 := own_below ownw3 hbw4; have szw4 : w.heap.size < w4.heap.size := Nat.lt_of_lt_of_le szw3 hbw4.size; have bxw4 := PBox.below bxw3 hbw4 szw3) | ((at_builtin; refine push_flt rfl _ _ rfl (w.heap.size + 1) _ _ q _ rfl ownw2 _ _ rfl (by omega) (by omega) ?_; intro gw3 cw3 w3 ownw3 hbw3 sz2w3; have hblw3 : Below w.heap.size w w3 := Below.trans hblw2 (hbw3.mono (by omega)); have szw3 : w.heap.size < w3.heap.size := Nat.lt_trans szw2 sz2w3; have bxw3 := PBox.below (B := w.heap.size + 1) bxw2 hbw3 (by omega); have LDw3 := LD.out w3 hblw3); obtain ⟨e30, e31, e32⟩ := LDw3; obtain ⟨b30, b31⟩ := id bxw3) | (go_at_call 18; refine (rdec_any k hk18 _).mono ?_; rintro e w2 ⟨rfl, hbw2⟩; have hblw2 : Below w.heap.size w w2 := Below.trans hblW0 (hbw2.mono hblW0.size); have ownw2 := own_below ownW0 hbw2; have szw2 : w.heap.size < w2.heap.size := Nat.lt_of_lt_of_le szW0 hbw2.size; have bxw2 := PBox.below bxW0 hbw2 szW0))
          go_roundw
          case rel => exact ⟨k + 1, _, _, (q + 1 + 1), _, by omega, by go_num, rfl, ownw5, HF, hblw5, szw5, bxw5⟩
          case measure => simp [intOf]; omega
        · by_cases h3 : 3 < r.kind
          · have HF : Hid (Fl l n (k + 1) (q + 1 + 1)) := Lib.hid (HBDr.out (by omega) _ (by omega) (by omega))
            clear HOKr HBDr
            go_wp2_with (first | (at_builtin; refine push_flt rfl _ _ rfl (w.heap.size + 1) _ _ (q + 1) _ rfl ownw4 _ _ rfl (by omega) (by omega) ?_; intro gw5 cw5 w5 ownw5 hbw5 sz2w5; have hblw5 : Below w.heap.size w w5 := Below.trans hblw4 (hbw5.mono (by omega)); have szw5 : w.heap.size < w5.heap.size := Nat.lt_trans szw4 sz2w5; have bxw5 := PBox.below (B := w.heap.size + 1) bxw4 hbw5 (by omega); have LDw5 := LD.out w5 hblw5) | (go_at_call 18; refine (rdec_any k hk18 _).mono ?_; rintro e w4 ⟨rfl, hbw4⟩; have hblw4 : Below w.heap.size w w4 := Below.trans hblw3 (hbw4.mono hblw3.size); have ownw4 := own_below ownw3 hbw4; have szw4 : w.heap.size < w4.heap.size := Nat.lt_of_lt_of_le szw3 hbw4.size; have bxw4 := PBox.below bxw3 hbw4 szw3) | ((at_builtin; refine push_flt rfl _ _ rfl (w.heap.size + 1) _ _ q _ rfl ownw2 _ _ rfl (by omega) (by omega) ?_; intro gw3 cw3 w3 ownw3 hbw3 sz2w3; have hblw3 : Below w.heap.size w w3 := Below.trans hblw2 (hbw3.mono (by omega)); have szw3 : w.heap.size < w3.heap.size := Nat.lt_trans szw2 sz2w3; have bxw3 := PBox.below (B := w.heap.size + 1) bxw2 hbw3 (by omega); have LDw3 := LD.out w3 hblw3); obtain ⟨e30, e31, e32⟩ := LDw3; obtain ⟨b30, b31⟩ := id bxw3) | (go_at_call 18; refine (rdec_any k hk18 _).mono ?_; rintro e w2 ⟨rfl, hbw2⟩; have hblw2 : Below w.heap.size w w2 := Below.trans hblW0 (hbw2.mono hblW0.size); have ownw2 := own_below ownW0 hbw2; have szw2 : w.heap.size < w2.heap.size := Nat.lt_of_lt_of_le szW0 hbw2.size; have bxw2 := PBox.below bxW0 hbw2 szW0))
            go_roundw
            case rel => exact ⟨k + 1, _, _, (q + 1 + 1), _, by omega, by go_num, rfl, ownw5, HF, hblw5, szw5, bxw5⟩
            case measure => simp [intOf]; omega
          · have HF : Hid (Fl l n (k + 1) (q + 1)) := Lib.hid (HBDr.out (by omega) _ (by omega) (by omega))
            clear HOKr HBDr
            go_wp2_with (first | ((at_builtin; refine push_flt rfl _ _ rfl (w.heap.size + 1) _ _ q _ rfl ownw2 _ _ rfl (by omega) (by omega) ?_; intro gw3 cw3 w3 ownw3 hbw3 sz2w3; have hblw3 : Below w.heap.size w w3 := Below.trans hblw2 (hbw3.mono (by omega)); have szw3 : w.heap.size < w3.heap.size := Nat.lt_trans szw2 sz2w3; have bxw3 := PBox.below (B := w.heap.size + 1) bxw2 hbw3 (by omega); have LDw3 := LD.out w3 hblw3); obtain ⟨e30, e31, e32⟩ := LDw3; obtain ⟨b30, b31⟩ := id bxw3) | (go_at_call 18; refine (rdec_any k hk18 _).mono ?_; rintro e w2 ⟨rfl, hbw2⟩; have hblw2 : Below w.heap.size w w2 := Below.trans hblW0 (hbw2.mono hblW0.size); have ownw2 := own_below ownW0 hbw2; have szw2 : w.heap.size < w2.heap.size := Nat.lt_of_lt_of_le szW0 hbw2.size; have bxw2 := PBox.below bxW0 hbw2 szW0))
            go_roundw
            case rel => exact ⟨k + 1, _, _, (q + 1), _, by omega, by go_num, rfl, ownw3, HF, hblw3, szw3, bxw3⟩
            case measure => simp [intOf]; omega
    · obtain rfl : k = m := by omega
      clear hlt
      have hq2 : q ≤ 100 := by have := hfl.out.1; omega
      obtain ⟨b0, b1⟩ := hbx
      go_wp2
      go_ret
      exact ⟨A0, q, cA, rfl, hq2, hfl.out.2.trans HLO.out, hbel⟩
end Go.Proofs.YthcmopgdjibojaaGreatDoor.lnr
