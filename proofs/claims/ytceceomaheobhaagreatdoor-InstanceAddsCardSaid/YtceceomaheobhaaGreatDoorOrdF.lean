/- The parts of the errors of an order: the closure, names known, numbers. -/
import Derived.Test.YtceceomaheobhaaGreatDoorBase
namespace Go.Proofs.YtceceomaheobhaaGreatDoor.ord
open Go.RowKit
open Go.Proofs.YtceceomaheobhaaGreatDoor.lib Go.Proofs.YtceceomaheobhaaGreatDoor.rd Go.Proofs.YtceceomaheobhaaGreatDoor.typ Go.Proofs.YtceceomaheobhaaGreatDoor.note
set_option linter.unusedVariables false
set_option linter.unusedSimpArgs false

theorem add_yes (b base : Nat) (xs : List Int) (u : Int) (w : World) (h : BoxRow w b base xs) :
    Calls Tryz.prog 101 #[.bool true, .int .i64 u, .pointer (some ⟨b, 0, none⟩)] w (AddOut w b base xs) := by
  go_enter Tryz.func101, Tryz.ntmps101
  go_wp2
  refine bodyPost_ret (v := .tuple #[]) (by simp [results, Tryz.results101, go_sem]) rfl ⟨rfl, h, Below.refl _ _, fun _ _ _ => rfl, Nat.le_refl _⟩
theorem add_no (b base : Nat) (xs : List Int) (u : Int) (w : World) (h : BoxRow w b base xs) (hx : xs.length < 100) :
    Calls Tryz.prog 101 #[.bool false, .int .i64 u, .pointer (some ⟨b, 0, none⟩)] w (AddOut w b base (xs ++ [u])) := by
  obtain ⟨A, c, h1, h2, h3, h4, h5⟩ := h
  have hc := h1.cell
  have hf := h1.frozen
  go_enter Tryz.func101, Tryz.ntmps101
  go_wp2_with (at_builtin; refine push_errno rfl _ _ rfl base _ xs.length xs rfl h2 u rfl (by omega) h4 ?_; intro A1 c1 w1 hown1 hb1 hz1; have hbx : Boxed w1 b 109 (.slice A xs.length c) := (hb1.block b h3).trans h1; have hc1 := hbx.cell; have hf1 := hbx.frozen)
  go_end0
  refine ⟨rfl, ⟨A1, c1, by rw [List.length_append]; exact hbx.set _, ?_, h3, ?_, by simp; omega⟩, ?_, ?_, ?_⟩
  · rw [List.length_append]
    exact ownsRow_setCell_below (a := ⟨b, 0, none⟩) hown1 h3 _
  · simp; omega
  · have hb2 : Below b w w1 := hb1.mono (by omega)
    exact hb2.setCell (p := ⟨b, 0, none⟩) (Nat.le_refl _) _
  · intro k hk1 hk2
    exact (Below.heap_setCell w1 ⟨b, 0, none⟩ _ k (show k ≠ b by omega)).trans (hb1.block k hk2)
  · simp; omega
theorem add_any (b base : Nat) (xs : List Int) (right : Bool) (u : Int) (w : World) (h : BoxRow w b base xs) (hx : xs.length < 100) :
    Calls Tryz.prog 101 #[.bool right, .int .i64 u, .pointer (some ⟨b, 0, none⟩)] w (AddOut w b base (pushIf xs right u)) := by
  cases right
  · exact add_no b base xs u w h hx
  · exact add_yes b base xs u w h

theorem named_any (x : Ord) (C : Option Addr) (c : Nat) (bt : Nat) (nm : ByteArray) (w : World) (hbt : bt < w.heap.size) (hc : w.cell? ⟨bt, 0, none⟩ = some (.string nm)) :
    Calls Tryz.prog 102 #[.agg #[.string x.name, .slice C x.load.length c, .int .i64 x.pick.place, .int .i64 x.pick.opn, .int .i64 x.pick.close, .int .i64 x.pick.service, .int .i64 x.drop.place, .int .i64 x.drop.opn, .int .i64 x.drop.close, .int .i64 x.drop.service, .int .i64 x.skills, .int .i64 x.penalty, .int .i64 x.split, .int .i64 x.last, .int .i64 x.now, .bool x.off], .pointer (some ⟨bt, 0, none⟩)] w fun e w' => e = .returned (.bool (sameS x.name nm)) ∧ Below w.heap.size w w' := by
  go_enter Tryz.func102, Tryz.ntmps102
  go_wp2
  go_ret
  exact ⟨rfl, (Below.refl _ _).alloc (Nat.le_refl _) _⟩

set_option maxHeartbeats 1000000 in
theorem idxOrds_any (A : Option Addr) (c : Nat) (l : List Ord) (n : Nat) (hn : l.length = n) (bt : Nat) (nm : ByteArray) (w : World) (B : Nat) (hB : B ≤ w.heap.size) (hL : RowAt rOrd w B A l) (hbt : bt < w.heap.size) (hc : w.cell? ⟨bt, 0, none⟩ = some (.string nm)) :
    Calls Tryz.prog 120 #[.slice A n c, .func (.func 102) #[] #[.pointer (some ⟨bt, 0, none⟩)]] w (IdxOut (l.any (fun x => sameS x.name nm)) w) := by
  obtain ⟨R, hR⟩ : ∃ R, l.any (fun x => sameS x.name nm) = R := ⟨_, rfl⟩
  have HR : Hid ((l.drop 0).any (fun x => sameS x.name nm) = R) := Lib.hid hR
  rw [hR]
  clear hR
  have hlen := hL.len
  rw [hn] at hlen
  have HN := Lib.hid hn
  clear hn
  go_enter Tryz.func120, Tryz.ntmps120
  go_wp2
  go_loopw [5, 8] (fun _ i wr => ∃ k : Nat, k ≤ n ∧ i = .int .i64 k ∧ Hid ((l.drop k).any (fun x => sameS x.name nm) = R) ∧ Below w.heap.size w wr) (fun _ i _ => n - (intOf i).toNat)
  case atStart => exact ⟨0, by omega, rfl, HR, Below.refl _ _⟩
  case round =>
    obtain ⟨k, hk, rfl, hr, hb⟩ := hrel
    have hz := hb.size
    by_cases hlt : k < n
    · obtain ⟨x, hx⟩ : ∃ x, l[k]? = some x := ⟨_, List.getElem?_eq_getElem (by rw [HN.out]; exact hlt)⟩
      obtain ⟨ad, C0, c0, rfl, hadb, ⟨m0, m1, m2, m3, m4, m5, m6, m7, m8, m9, m10, m11, m12, m13, m14, m15⟩, _, _⟩ := row_Ord (hL.below (hb.mono hB)) hx
      have hst := Lib.hid (any_at (p := fun x : Ord => sameS x.name nm) hx)
      have hk0 : (0 : Int) ≤ (k : Int) := by omega
      have hkn : (k : Int) < (n : Int) := by omega
      have hc' : wr.cell? ⟨bt, 0, none⟩ = some (.string nm) := (hb.cell (p := ⟨bt, 0, none⟩) hbt).trans hc
      clear hx
      cases hs : sameS x.name nm
      · have HT : Hid ((l.drop (k + 1)).any (fun x => sameS x.name nm) = R) := Lib.hid (by have h := hst.out; rw [hr.out, hs] at h; exact h.symm)
        go_wp2_with (go_at_call 102; refine (named_any x C0 c0 bt nm _ (by omega) hc').mono ?_; rintro e w1 ⟨rfl, hb1⟩)
        go_roundw
        case rel => exact ⟨k + 1, by omega, by go_num, HT, hb.trans (hb1.mono hz)⟩
        case measure => simp [intOf]; omega
      · have HT : Hid (R = true) := Lib.hid (by rw [← hr.out, hst.out, hs]; rfl)
        go_wp2_with (go_at_call 102; refine (named_any x C0 c0 bt nm _ (by omega) hc').mono ?_; rintro e w1 ⟨rfl, hb1⟩)
        go_ret
        exact ⟨k, rfl, by rw [HT.out]; simp, hb.trans (hb1.mono hz)⟩
    · have HT : Hid (R = false) := Lib.hid (by rw [← hr.out, any_end (by rw [HN.out]; omega)])
      go_wp2
      go_ret
      exact ⟨-1, rfl, by rw [HT.out]; simp, hb⟩

theorem hasOrds_any (A : Option Addr) (c : Nat) (l : List Ord) (n : Nat) (hn : l.length = n) (bt : Nat) (nm : ByteArray) (w : World) (B : Nat) (hB : B ≤ w.heap.size) (hL : RowAt rOrd w B A l) (hbt : bt < w.heap.size) (hc : w.cell? ⟨bt, 0, none⟩ = some (.string nm)) :
    Calls Tryz.prog 88 #[.slice A n c, .func (.func 102) #[] #[.pointer (some ⟨bt, 0, none⟩)]] w fun e w' => e = .returned (.bool (l.any (fun x => sameS x.name nm))) ∧ Below w.heap.size w w' := by
  go_enter Tryz.func88, Tryz.ntmps88
  go_wp2_with fail
  refine (idxOrds_any A c l n hn bt nm w B hB hL hbt hc).mono ?_
  rintro e w1 ⟨r, rfl, hr, hb⟩
  have HR := Lib.hid hr
  clear hr
  go_wp2
  go_ret
  exact ⟨ret_bool HR.out, hb⟩

/-- The numbers of an order are right. -/
def numB (o : Ord) (types : Int) : Bool :=
  inB o.penalty (-1) 1000000 && inB o.split 1 4 && (o.split == 1 || o.pick.place == -1 || o.drop.place == -1) && decide (-1 ≤ o.last) && decide (o.last < types) && decide (-1 ≤ o.now) && decide (o.now < types)
theorem winB_any (a b c : Int) (w : World) : Calls Tryz.prog 103 #[.int .i64 a, .int .i64 b, .int .i64 c] w fun e w' => e = .returned (.bool (inB a b c)) ∧ w = w' := within_any a b c w
set_option maxHeartbeats 4000000 in
theorem numbers_any (o : Ord) (C : Option Addr) (c : Nat) (types : Int) (w : World) :
    Calls Tryz.prog 105 #[.agg #[.string o.name, .slice C o.load.length c, .int .i64 o.pick.place, .int .i64 o.pick.opn, .int .i64 o.pick.close, .int .i64 o.pick.service, .int .i64 o.drop.place, .int .i64 o.drop.opn, .int .i64 o.drop.close, .int .i64 o.drop.service, .int .i64 o.skills, .int .i64 o.penalty, .int .i64 o.split, .int .i64 o.last, .int .i64 o.now, .bool o.off], .int .i64 types] w fun e w' => e = .returned (.bool (numB o types)) ∧ Below w.heap.size w w' := by
  have hw4 : inB o.penalty (-1) 1000000 = false ∨ (inB o.penalty (-1) 1000000 = true ∧ inB o.split 1 4 = false) ∨ (inB o.penalty (-1) 1000000 = true ∧ inB o.split 1 4 = true) := by
    cases inB o.penalty (-1) 1000000 <;> cases inB o.split 1 4 <;> simp
  have HN : Hid (numB o types = (inB o.penalty (-1) 1000000 && inB o.split 1 4 && (o.split == 1 || o.pick.place == -1 || o.drop.place == -1) && decide (-1 ≤ o.last) && decide (o.last < types) && decide (-1 ≤ o.now) && decide (o.now < types))) := Lib.hid rfl
  rcases hw4 with hq | ⟨hq, hq2⟩ | ⟨hq, hq2⟩
  · go_enter Tryz.func105, Tryz.ntmps105
    go_wp2_with (go_at_call 103; refine (winB_any _ _ _ _).mono ?_; rintro e w1 ⟨rfl, rfl⟩)
    all_goals go_ret
    all_goals exact ⟨ret_bool (by rw [HN.out, hq]; rfl), (Below.refl _ _).alloc (Nat.le_refl _) _⟩
  · go_enter Tryz.func105, Tryz.ntmps105
    go_wp2_with (go_at_call 103; refine (winB_any _ _ _ _).mono ?_; rintro e w1 ⟨rfl, rfl⟩)
    all_goals go_ret
    all_goals exact ⟨ret_bool (by rw [HN.out, hq, hq2]; rfl), (Below.refl _ _).alloc (Nat.le_refl _) _⟩
  · have HN2 : Hid (numB o types = ((o.split == 1 || o.pick.place == -1 || o.drop.place == -1) && decide (-1 ≤ o.last) && decide (o.last < types) && decide (-1 ≤ o.now) && decide (o.now < types))) := Lib.hid (by rw [HN.out, hq, hq2]; rfl)
    go_enter Tryz.func105, Tryz.ntmps105
    go_wp2_with (go_at_call 103; refine (winB_any _ _ _ _).mono ?_; rintro e w1 ⟨rfl, rfl⟩)
    all_goals go_ret
    all_goals refine ⟨ret_bool ?_, (Below.refl _ _).alloc (Nat.le_refl _) _⟩
    all_goals rw [HN2.out]
    all_goals clear HN HN2 hq hq2
    all_goals (first | (simp [*]; done) | (simp [*]; omega) | (simp; omega))
end Go.Proofs.YtceceomaheobhaaGreatDoor.ord
