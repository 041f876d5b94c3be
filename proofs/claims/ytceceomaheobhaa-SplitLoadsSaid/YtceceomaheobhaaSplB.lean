/- split.named. -/
import Derived.Test.YtceceomaheobhaaBase
import Derived.Deep.DeepCutAuto
namespace Go.Proofs.Ytceceomaheobhaa.spl
open Go.RowKit
open Go.Proofs.Ytceceomaheobhaa.lib Go.Proofs.Ytceceomaheobhaa.rd Go.Proofs.Ytceceomaheobhaa.typ Go.Proofs.Ytceceomaheobhaa.note
set_option linter.unusedVariables false
set_option linter.unusedSimpArgs false

theorem sameN_any (x : Ord) (C : Option Addr) (c : Nat) (bt : Nat) (nm : ByteArray) (w : World) (hbt : bt < w.heap.size) (hc : w.cell? ⟨bt, 0, none⟩ = some (.string nm)) :
    Calls Try.prog 53 #[.agg #[.string x.name, .slice C x.load.length c, .int .i64 x.pick.place, .int .i64 x.pick.opn, .int .i64 x.pick.close, .int .i64 x.pick.service, .int .i64 x.drop.place, .int .i64 x.drop.opn, .int .i64 x.drop.close, .int .i64 x.drop.service, .int .i64 x.skills, .int .i64 x.penalty, .int .i64 x.split, .int .i64 x.last, .int .i64 x.now, .bool x.off], .pointer (some ⟨bt, 0, none⟩)] w fun e w' => e = .returned (.bool (sameS x.name nm)) ∧ Below w.heap.size w w' := by
  go_enter Try.func53, Try.ntmps53
  go_wp2
  go_ret
  exact ⟨rfl, (Below.refl _ _).alloc (Nat.le_refl _) _⟩
set_option maxHeartbeats 1000000 in
theorem idxOrds_any (A : Option Addr) (c : Nat) (l : List Ord) (n : Nat) (hn : l.length = n) (bt : Nat) (nm : ByteArray) (w : World) (B : Nat) (hB : B ≤ w.heap.size) (hL : RowAt rOrd w B A l) (hbt : bt < w.heap.size) (hc : w.cell? ⟨bt, 0, none⟩ = some (.string nm)) :
    Calls Try.prog 73 #[.slice A n c, .func (.func 53) #[] #[.pointer (some ⟨bt, 0, none⟩)]] w (IdxOut (l.any (fun x => sameS x.name nm)) w) := by
  obtain ⟨R, hR⟩ : ∃ R, l.any (fun x => sameS x.name nm) = R := ⟨_, rfl⟩
  have HR : Hid ((l.drop 0).any (fun x => sameS x.name nm) = R) := Lib.hid hR
  rw [hR]
  clear hR
  have hlen := hL.len
  rw [hn] at hlen
  have HN := Lib.hid hn
  clear hn
  go_enter Try.func73, Try.ntmps73
  go_wp2
  go_loopw [5, 8] (fun _ i wr => ∃ k : Nat, k ≤ n ∧ i = .int .i64 k ∧ Hid ((l.drop k).any (fun x => sameS x.name nm) = R) ∧ Below w.heap.size w wr) (fun _ i _ => n - (intOf i).toNat)
  case atStart => exact ⟨0, by omega, rfl, HR, Below.refl _ _⟩
  case round =>
    obtain ⟨k, hk, rfl, hr, hb⟩ := hrel
    have hz := hb.size
    by_cases hlt : k < n
    · obtain ⟨x, hx⟩ : ∃ x, l[k]? = some x := ⟨_, List.getElem?_eq_getElem (by rw [HN.out]; exact hlt)⟩
      obtain ⟨ad, C0, c0, rfl, hadb, ⟨m0, m1, m2, m3, m4, m5, m6, m7, m8, m9, m10, m11, m12, m13, m14, m15⟩, _, _⟩ := row_Ord (hL.below (hb.mono hB)) hx
      have hst := Lib.hid (any_at (p := fun x : Ord => sameS x.name nm) hx)
      have hk0 : (0 : Int) ≤ (k : Int) := by omega
      have hkn : (k : Int) < (n : Int) := by omega
      have hc' : wr.cell? ⟨bt, 0, none⟩ = some (.string nm) := (hb.cell (p := ⟨bt, 0, none⟩) hbt).trans hc
      clear hx
      cases hs : sameS x.name nm
      · have HT : Hid ((l.drop (k + 1)).any (fun x => sameS x.name nm) = R) := Lib.hid (by have h := hst.out; rw [hr.out, hs] at h; exact h.symm)
        go_wp2_with (go_at_call 53; refine (sameN_any x C0 c0 bt nm _ (by omega) hc').mono ?_; rintro e w1 ⟨rfl, hb1⟩)
        go_roundw
        case rel => exact ⟨k + 1, by omega, by go_num, HT, hb.trans (hb1.mono hz)⟩
        case measure => simp [intOf]; omega
      · have HT : Hid (R = true) := Lib.hid (by rw [← hr.out, hst.out, hs]; rfl)
        go_wp2_with (go_at_call 53; refine (sameN_any x C0 c0 bt nm _ (by omega) hc').mono ?_; rintro e w1 ⟨rfl, hb1⟩)
        go_ret
        exact ⟨k, rfl, by rw [HT.out]; simp, hb.trans (hb1.mono hz)⟩
    · have HT : Hid (R = false) := Lib.hid (by rw [← hr.out, any_end (by rw [HN.out]; omega)])
      go_wp2
      go_ret
      exact ⟨-1, rfl, by rw [HT.out]; simp, hb⟩

theorem hasOrds_any (A : Option Addr) (c : Nat) (l : List Ord) (n : Nat) (hn : l.length = n) (bt : Nat) (nm : ByteArray) (w : World) (B : Nat) (hB : B ≤ w.heap.size) (hL : RowAt rOrd w B A l) (hbt : bt < w.heap.size) (hc : w.cell? ⟨bt, 0, none⟩ = some (.string nm)) :
    Calls Try.prog 54 #[.slice A n c, .func (.func 53) #[] #[.pointer (some ⟨bt, 0, none⟩)]] w fun e w' => e = .returned (.bool (l.any (fun x => sameS x.name nm))) ∧ Below w.heap.size w w' := by
  go_enter Try.func54, Try.ntmps54
  go_wp2_with fail
  refine (idxOrds_any A c l n hn bt nm w B hB hL hbt hc).mono ?_
  rintro e w1 ⟨r, rfl, hr, hb⟩
  have HR := Lib.hid hr
  clear hr
  go_wp2
  go_ret
  exact ⟨ret_bool HR.out, hb⟩

/-- The error of a part's name. -/
def namedE (os ahead : List Ord) (nm : ByteArray) : Int := if 16 < nm.size then 5 else if (ahead.any fun x => sameS x.name nm) || (os.any fun x => sameS x.name nm) then 6 else 0
theorem named_any (u0 u1 u2 u4 u5 : Value) (os ahead : List Ord) (A A' : Option Addr) (c c' : Nat) (nm : ByteArray) (w : World) (h : RowAt rOrd w w.heap.size A os) (h' : RowAt rOrd w w.heap.size A' ahead) :
    Calls Try.prog 29 #[.agg #[u0, u1, u2, .slice A os.length c, u4, u5], .slice A' ahead.length c', .string nm] w fun e w' => e = .returned (.int .i64 (namedE os ahead nm)) ∧ Below w.heap.size w w' := by
  obtain ⟨R1, hR1⟩ : ∃ R, (ahead.any fun x => sameS x.name nm) = R := ⟨_, rfl⟩
  obtain ⟨R2, hR2⟩ : ∃ R, (os.any fun x => sameS x.name nm) = R := ⟨_, rfl⟩
  have HE : Hid (namedE os ahead nm = if 16 < nm.size then 5 else if R1 || R2 then 6 else 0) := Lib.hid (by unfold namedE; rw [hR1, hR2])
  have HR := Lib.hid (And.intro hR1 hR2)
  have H1 := Lib.hid h
  have H2 := Lib.hid h'
  obtain ⟨n, hn⟩ : ∃ n, os.length = n := ⟨_, rfl⟩
  obtain ⟨m, hm⟩ : ∃ n, ahead.length = n := ⟨_, rfl⟩
  rw [hn, hm]
  have HN := Lib.hid (And.intro hn hm)
  clear hR1 hR2 h h' hn hm
  obtain ⟨W0, hW0⟩ : ∃ W0, (w.alloc (.cells #[u0, u1, u2, .slice A n c, u4, u5] 38)).alloc (.cells #[.string nm] 9) = W0 := ⟨_, rfl⟩
  have hB0 : Below w.heap.size w W0 := by rw [← hW0]; exact ((Below.refl _ _).alloc (Nat.le_refl _) _).alloc (by simp) _
  have z0 := hB0.size
  have hs0 : w.heap.size + 1 < W0.heap.size := by rw [← hW0]; simp
  have hc : W0.cell? ⟨w.heap.size + 1, 0, none⟩ = some (.string nm) := by
    rw [← hW0]
    have h := World.alloc_heap_new (w.alloc (.cells #[u0, u1, u2, .slice A n c, u4, u5] 38)) (.cells #[.string nm] 9)
    rw [show (w.alloc (.cells #[u0, u1, u2, .slice A n c, u4, u5] 38)).heap.size = w.heap.size + 1 by simp] at h
    unfold World.cell?
    rw [h]
    rfl
  have h3 : W0.cell? ⟨w.heap.size, 3, none⟩ = some (.slice A n c) := by
    rw [← hW0]
    have h := World.alloc_heap_new w (.cells #[u0, u1, u2, .slice A n c, u4, u5] 38)
    have h2 := (Below.heap_alloc (w.alloc (.cells #[u0, u1, u2, .slice A n c, u4, u5] 38)) (.cells #[.string nm] 9) w.heap.size (by simp)).trans h
    unfold World.cell?
    rw [h2]
    rfl
  have HW0 := Lib.hid hW0
  clear hW0
  go_enter Try.func29, Try.ntmps29
  go_wp2_with fail
  · have h16 : 16 < nm.size := by omega
    go_ret
    exact ⟨by rw [HE.out, if_pos h16]; rfl, ((Below.refl _ _).alloc (Nat.le_refl _) _).alloc (by simp) _⟩
  have h16 : ¬ 16 < nm.size := by omega
  have HE2 : Hid (namedE os ahead nm = if R1 || R2 then 6 else 0) := Lib.hid (by rw [HE.out, if_neg h16])
  rw [HW0.out]
  refine (hasOrds_any A' c' ahead m HN.out.2 (w.heap.size + 1) nm W0 w.heap.size z0 (H2.out.below hB0) hs0 hc).mono ?_
  rw [HR.out.1]
  rintro e w1 ⟨rfl, b1⟩
  have h31 : w1.cell? ⟨w.heap.size, 3, none⟩ = some (.slice A n c) := (b1.cell (p := ⟨w.heap.size, 3, none⟩) (by show w.heap.size < _; omega)).trans h3
  have hc1 : w1.cell? ⟨w.heap.size + 1, 0, none⟩ = some (.string nm) := (b1.cell (p := ⟨w.heap.size + 1, 0, none⟩) hs0).trans hc
  have HB1 := Lib.hid (hB0.trans (b1.mono z0))
  have z1 := b1.size
  clear hc h3
  cases R1
  · go_wp2_with fail
    refine (hasOrds_any A c os n HN.out.1 (w.heap.size + 1) nm w1 w.heap.size (by omega) (H1.out.below HB1.out) (by omega) hc1).mono ?_
    rw [HR.out.2]
    rintro e w2 ⟨rfl, b2⟩
    cases R2
    all_goals
      go_wp2_with fail
      go_ret
      exact ⟨by rw [HE2.out]; rfl, HB1.out.trans (b2.mono (by omega))⟩
  · go_wp2_with fail
    go_ret
    exact ⟨by rw [HE2.out]; rfl, HB1.out⟩
end Go.Proofs.Ytceceomaheobhaa.spl
