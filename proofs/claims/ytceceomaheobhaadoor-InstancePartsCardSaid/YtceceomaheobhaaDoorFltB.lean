/- Capacities; is a name there already? -/
import Derived.Test.YtceceomaheobhaaDoorFltA
namespace Go.Proofs.YtceceomaheobhaaDoor.flt
open Go.RowKit
open Go.Proofs.YtceceomaheobhaaDoor.lib Go.Proofs.YtceceomaheobhaaDoor.rd Go.Proofs.YtceceomaheobhaaDoor.typ
set_option linter.unusedVariables false

theorem any_not (l : List Int) : l.any (fun x => !inB x 0 1000) = !(l.all (fun x => inB x 0 1000)) := by
  induction l with
  | nil => rfl
  | cons x l ih => simp only [List.any_cons, List.all_cons, ih, Bool.not_and]

set_option maxHeartbeats 1000000 in
theorem capacity_any (A : Option Addr) (c : Nat) (l : List Int) (A' : Option Addr) (m c' : Nat) (w : World) (hL : Ints w w.heap.size A l) :
    Calls Tryd.prog 65 #[.slice A l.length c, .slice A' m c'] w fun e w' => e = .returned (.bool (capB l m)) ∧ Below w.heap.size w w' := by
  obtain ⟨R, hR⟩ : ∃ R, capB l m = R := ⟨_, rfl⟩
  rw [hR]
  have HR : Hid (capB l m = R) := Lib.hid hR
  clear hR
  have hi := Lib.hid (show inB (l.length : Int) 1 3 = decide (1 ≤ (l.length : Int) ∧ (l.length : Int) ≤ 3) from rfl)
  cases h1 : inB (l.length : Int) 1 3
  · have HT : Hid (R = false) := Lib.hid (by
      rw [← HR.out]; unfold capB
      have h2 := hi.out
      rw [h1] at h2
      have h3 := of_decide_eq_false h2.symm
      rw [decide_eq_false (by omega)]; rfl)
    go_enter Tryd.func65, Tryd.ntmps65
    go_wp2_with (go_at_call 49; refine (within_any _ _ _ _).mono ?_; rintro e w1 ⟨rfl, rfl⟩)
    go_ret
    exact ⟨ret_bool HT.out.symm, Below.refl _ _⟩
  · by_cases h2 : l.length = m
    · have HT : Hid (R = !(l.any (fun x => !inB x 0 1000))) := Lib.hid (by
        rw [← HR.out]; unfold capB
        have h4 := hi.out
        rw [h1] at h4
        have h3 := of_decide_eq_true h4.symm
        rw [decide_eq_true (by omega), any_not]; simp)
      subst h2
      have hL' := hL
      go_enter Tryd.func65, Tryd.ntmps65
      go_wp2_with (first | (go_at_call 49; refine (within_any _ _ _ _).mono ?_; rintro e w1 ⟨rfl, rfl⟩) | (go_at_call 79; refine (hasInts_any A c l _ hL').mono ?_; rintro e w1 ⟨rfl, hb1⟩))
      go_ret
      exact ⟨ret_bool HT.out.symm, hb1⟩
    · have HT : Hid (R = false) := Lib.hid (by
        rw [← HR.out]; unfold capB
        rw [decide_eq_false (by omega)]; rfl)
      have hne : ((l.length : Int) != (m : Int)) = true := by simp; omega
      have hne2 : ((l.length : Int) == (m : Int)) = false := by simp; omega
      clear h2
      go_enter Tryd.func65, Tryd.ntmps65
      go_wp2_with (go_at_call 49; refine (within_any _ _ _ _).mono ?_; rintro e w1 ⟨rfl, rfl⟩)
      go_ret
      exact ⟨ret_bool HT.out.symm, Below.refl _ _⟩

theorem all_at {α : Type} {p : α → Bool} {l : List α} {k : Nat} {x : α} (h : l[k]? = some x) : (l.drop k).all p = (p x && (l.drop (k + 1)).all p) := by rw [drop_at' h]; rfl
theorem all_end {α : Type} {p : α → Bool} {l : List α} {k : Nat} (h : l.length ≤ k) : (l.drop k).all p = true := by rw [List.drop_of_length_le h]; rfl

/-- Two texts are equal, as Go asks it. -/
def sameS (a b : ByteArray) : Bool := a.toList == b.toList
theorem named_any (x : Ty) (C : Option Addr) (c : Nat) (bt : Nat) (nm : ByteArray) (w : World) (hbt : bt < w.heap.size) (hc : w.cell? ⟨bt, 0, none⟩ = some (.string nm)) :
    Calls Tryd.prog 64 #[.agg #[.string x.name, .int .i64 x.count, .int .i64 x.frm, .int .i64 x.to, .slice C x.cap.length c, .int .i64 x.skills, .int .i64 x.profile, .int .i64 x.opn, .int .i64 x.close, .int .i64 x.drive, .int .i64 x.rest, .int .i64 x.fixed, .int .i64 x.mile, .int .i64 x.tick], .pointer (some ⟨bt, 0, none⟩)] w fun e w' => e = .returned (.bool (sameS x.name nm)) ∧ Below w.heap.size w w' := by
  go_enter Tryd.func64, Tryd.ntmps64
  go_wp2
  go_ret
  exact ⟨rfl, (Below.refl _ _).alloc (Nat.le_refl _) _⟩

set_option maxHeartbeats 1000000 in
theorem idxTys_any (A : Option Addr) (c : Nat) (l : List Ty) (n : Nat) (hn : l.length = n) (bt : Nat) (nm : ByteArray) (w : World) (B : Nat) (hB : B ≤ w.heap.size) (hL : RowAt rTy w B A l) (hbt : bt < w.heap.size) (hc : w.cell? ⟨bt, 0, none⟩ = some (.string nm)) :
    Calls Tryd.prog 78 #[.slice A n c, .func (.func 64) #[] #[.pointer (some ⟨bt, 0, none⟩)]] w (IdxOut (l.any (fun x => sameS x.name nm)) w) := by
  obtain ⟨R, hR⟩ : ∃ R, l.any (fun x => sameS x.name nm) = R := ⟨_, rfl⟩
  have HR : Hid ((l.drop 0).any (fun x => sameS x.name nm) = R) := Lib.hid hR
  rw [hR]
  clear hR
  have hlen := hL.len
  rw [hn] at hlen
  have HN := Lib.hid hn
  clear hn
  go_enter Tryd.func78, Tryd.ntmps78
  go_wp2
  go_loopw [5, 8] (fun _ i wr => ∃ k : Nat, k ≤ n ∧ i = .int .i64 k ∧ Hid ((l.drop k).any (fun x => sameS x.name nm) = R) ∧ Below w.heap.size w wr) (fun _ i _ => n - (intOf i).toNat)
  case atStart => exact ⟨0, by omega, rfl, HR, Below.refl _ _⟩
  case round =>
    obtain ⟨k, hk, rfl, hr, hb⟩ := hrel
    have hz := hb.size
    by_cases hlt : k < n
    · obtain ⟨x, hx⟩ : ∃ x, l[k]? = some x := ⟨_, List.getElem?_eq_getElem (by rw [HN.out]; exact hlt)⟩
      obtain ⟨ad, C0, c0, rfl, hadb, ⟨m0, m1, m2, m3, m4, m5, m6, m7, m8, m9, m10, m11, m12, m13⟩, _, _⟩ := row_Ty (hL.below (hb.mono hB)) hx
      have hst := Lib.hid (any_at (p := fun x : Ty => sameS x.name nm) hx)
      have hk0 : (0 : Int) ≤ (k : Int) := by omega
      have hkn : (k : Int) < (n : Int) := by omega
      have hc' : wr.cell? ⟨bt, 0, none⟩ = some (.string nm) := (hb.cell (p := ⟨bt, 0, none⟩) hbt).trans hc
      clear hx
      cases hs : sameS x.name nm
      · have HT : Hid ((l.drop (k + 1)).any (fun x => sameS x.name nm) = R) := Lib.hid (by have h := hst.out; rw [hr.out, hs] at h; exact h.symm)
        go_wp2_with (go_at_call 64; refine (named_any x C0 c0 bt nm _ (by omega) hc').mono ?_; rintro e w1 ⟨rfl, hb1⟩)
        go_roundw
        case rel => exact ⟨k + 1, by omega, by go_num, HT, hb.trans (hb1.mono hz)⟩
        case measure => simp [intOf]; omega
      · have HT : Hid (R = true) := Lib.hid (by rw [← hr.out, hst.out, hs]; rfl)
        go_wp2_with (go_at_call 64; refine (named_any x C0 c0 bt nm _ (by omega) hc').mono ?_; rintro e w1 ⟨rfl, hb1⟩)
        go_ret
        exact ⟨k, rfl, by rw [HT.out]; simp, hb.trans (hb1.mono hz)⟩
    · have HT : Hid (R = false) := Lib.hid (by rw [← hr.out, any_end (by rw [HN.out]; omega)])
      go_wp2
      go_ret
      exact ⟨-1, rfl, by rw [HT.out]; simp, hb⟩

theorem hasTys_any (A : Option Addr) (c : Nat) (l : List Ty) (n : Nat) (hn : l.length = n) (bt : Nat) (nm : ByteArray) (w : World) (B : Nat) (hB : B ≤ w.heap.size) (hL : RowAt rTy w B A l) (hbt : bt < w.heap.size) (hc : w.cell? ⟨bt, 0, none⟩ = some (.string nm)) :
    Calls Tryd.prog 63 #[.slice A n c, .func (.func 64) #[] #[.pointer (some ⟨bt, 0, none⟩)]] w fun e w' => e = .returned (.bool (l.any (fun x => sameS x.name nm))) ∧ Below w.heap.size w w' := by
  go_enter Tryd.func63, Tryd.ntmps63
  go_wp2_with fail
  refine (idxTys_any A c l n hn bt nm w B hB hL hbt hc).mono ?_
  rintro e w1 ⟨r, rfl, hr, hb⟩
  have HR := Lib.hid hr
  clear hr
  go_wp2
  go_ret
  exact ⟨ret_bool HR.out, hb⟩
end Go.Proofs.YtceceomaheobhaaDoor.flt
