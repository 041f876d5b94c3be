/- Skills. -/
import Derived.Test.YthkbfmbohoclaaaDoorFltB
import Derived.Test.YthkbfmbohoclaaaDoorBitP
namespace Go.Proofs.YthkbfmbohoclaaaDoor.flt
open Go.RowKit
open Go.Proofs.YthkbfmbohoclaaaDoor.lib Go.Proofs.YthkbfmbohoclaaaDoor.rd Go.Proofs.YthkbfmbohoclaaaDoor.typ Go.Proofs.YthkbfmbohoclaaaDoor.sets
set_option linter.unusedVariables false

/-- A type with skills s has the skills k. -/
def ableB (s k : Int) : Bool := decide (0 ≤ s ∧ 0 ≤ k) && inN k.toNat s.toNat
set_option maxHeartbeats 1000000 in
theorem able_any (t : Ty) (C : Option Addr) (c : Nat) (k : Int) (hf : TyFits t) (hk : -9223372036854775808 ≤ k ∧ k ≤ 9223372036854775807) (w : World) :
    Calls Tryd.prog 16 #[.agg #[.string t.name, .int .i64 t.count, .int .i64 t.frm, .int .i64 t.to, .slice C t.cap.length c, .int .i64 t.skills, .int .i64 t.profile, .int .i64 t.opn, .int .i64 t.close, .int .i64 t.drive, .int .i64 t.rest, .int .i64 t.fixed, .int .i64 t.mile, .int .i64 t.tick], .int .i64 k] w fun e w' => e = .returned (.bool (ableB t.skills k)) ∧ Below w.heap.size w w' := by
  obtain ⟨R, hR⟩ : ∃ R, ableB t.skills k = R := ⟨_, rfl⟩
  rw [hR]
  have HR := Lib.hid hR
  clear hR
  have hs := hf.2.2.2.2.1
  have hB : ∀ o, Below w.heap.size w (w.alloc o) := fun o => (Below.refl _ _).alloc (Nat.le_refl _) _
  by_cases h1 : 0 ≤ t.skills
  · by_cases h2 : 0 ≤ k
    · have HA : Hid ((bits .andNot .i64 k t.skills == 0) = R) := Lib.hid (by
        rw [← HR.out]
        unfold ableB
        rw [decide_eq_true ⟨h1, h2⟩, Bool.true_and, ← andNot_zero _ _ (by omega) (by omega), Int.toNat_of_nonneg h1, Int.toNat_of_nonneg h2])
      go_enter Tryd.func16, Tryd.ntmps16
      go_wp2
      go_ret
      exact ⟨ret_bool HA.out, hB _⟩
    · have HA : Hid (R = false) := Lib.hid (by rw [← HR.out]; unfold ableB; rw [decide_eq_false (by omega)]; rfl)
      go_enter Tryd.func16, Tryd.ntmps16
      go_wp2
      go_ret
      exact ⟨ret_bool (by first | (rw [HA.out]; done) | (rw [HA.out]; simp <;> omega)), hB _⟩
  · have HA : Hid (R = false) := Lib.hid (by rw [← HR.out]; unfold ableB; rw [decide_eq_false (by omega)]; rfl)
    go_enter Tryd.func16, Tryd.ntmps16
    go_wp2
    go_ret
    exact ⟨ret_bool (by first | (rw [HA.out]; done) | (rw [HA.out]; simp <;> omega)), hB _⟩

/-- How far a bit is from the end. -/
def bitI (b : Int) : Nat := if 0 < b then (9223372036854775808 - b).toNat + 1 else 0
def bitM (v : Value) : Nat := bitI (intOf v)
theorem bitM_less {P Q : Int} (hP : 1 ≤ P) (h : Q = P * 2 ∨ Q < 0) (hl : P ≤ 4611686018427387904) : bitM (.int .i64 Q) < bitM (.int .i64 P) := by
  show bitI Q < bitI P
  unfold bitI
  rw [if_pos (show 0 < P by omega)]
  by_cases h1 : 0 < Q
  · rw [if_pos h1]; omega
  · rw [if_neg h1]; omega
set_option maxHeartbeats 2000000 in
theorem rable_any (t : Ty) (C : Option Addr) (c : Nat) (k : Int) (hf : TyFits t) (hk : -9223372036854775808 ≤ k ∧ k ≤ 9223372036854775807) (w : World) :
    Calls Tryd.prog 17 #[.agg #[.string t.name, .int .i64 t.count, .int .i64 t.frm, .int .i64 t.to, .slice C t.cap.length c, .int .i64 t.skills, .int .i64 t.profile, .int .i64 t.opn, .int .i64 t.close, .int .i64 t.drive, .int .i64 t.rest, .int .i64 t.fixed, .int .i64 t.mile, .int .i64 t.tick], .int .i64 k] w fun e w' => e = .returned (.bool (ableB t.skills k)) ∧ Below w.heap.size w w' := by
  obtain ⟨R, hR⟩ : ∃ R, ableB t.skills k = R := ⟨_, rfl⟩
  rw [hR]
  have HR := Lib.hid hR
  clear hR
  have hs := hf.2.2.2.2.1
  have hB : ∀ o, Below w.heap.size w (w.alloc o) := fun o => (Below.refl _ _).alloc (Nat.le_refl _) _
  by_cases h1 : 0 ≤ t.skills
  · by_cases h2 : 0 ≤ k
    · obtain ⟨a, rfl⟩ := Int.eq_ofNat_of_zero_le h2
      obtain ⟨s, hsk⟩ := Int.eq_ofNat_of_zero_le h1
      have ha : a < 9223372036854775808 := by omega
      have HA : Hid (R = inN a s) := Lib.hid (by
        rw [← HR.out]
        unfold ableB
        rw [decide_eq_true ⟨h1, h2⟩, hsk]
        rfl)
      have h1' : ¬ (t.skills < 0) := by omega
      have hs1 : (0 : Int) ≤ s := by omega
      have hs2 : (s : Int) ≤ 9223372036854775807 := by omega
      have HS := Lib.hid (And.intro hs hs)
      rw [hsk] at h1'
      clear h1 hs hf
      go_enter Tryd.func17, Tryd.ntmps17
      go_wp2
      go_loop [5] (fun v => ∃ (j : Nat) (b : Int), j ≤ 63 ∧ v = .int .i64 b ∧ Hid ((j ≤ 62 ∧ b = pow2 j) ∨ (j = 63 ∧ b = -9223372036854775808)) ∧ Hid (∀ i, i < j → a.testBit i = true → s.testBit i = true)) (fun v => bitM v)
      case atStart => exact ⟨0, 1, by omega, rfl, Lib.hid (.inl ⟨by omega, rfl⟩), Lib.hid (fun i hi => absurd hi (by omega))⟩
      case round =>
        obtain ⟨j, P, hj, rfl, hP, hall⟩ := hrel
        by_cases hend : j = 63
        · have hneg : P = -9223372036854775808 := by rcases hP.out with ⟨h, _⟩ | ⟨_, h⟩ <;> omega
          have HT : Hid (R = true) := Lib.hid (by
            rw [HA.out, inN_lt a s ha]
            intro i hi
            exact hall.out i (by omega))
          subst hneg
          go_wp2
          go_ret
          exact ⟨ret_bool HT.out.symm, hB _⟩
        · have hPj : P = pow2 j := by rcases hP.out with ⟨_, h⟩ | ⟨h, _⟩ <;> omega
          have hp1 : 1 ≤ P := by rw [hPj]; exact pow2_pos j
          have hp2 : P ≤ 4611686018427387904 := by rw [hPj]; exact pow2_le (by omega)
          have hp0 : 0 < P := by omega
          have ba := div_bit a j
          have bs := div_bit0 s j
          have bs1 := div_bit s j
          rw [← hPj] at ba bs bs1
          obtain ⟨Q, hQ, hQ2⟩ : ∃ Q, wrap64 (P * 2) = Q ∧ Hid (((j + 1 ≤ 62 ∧ Q = pow2 (j + 1)) ∨ (j + 1 = 63 ∧ Q = -9223372036854775808)) ∧ (Q = P * 2 ∨ Q < 0)) := by
            have hsu := pow2_succ j
            rw [← hPj] at hsu
            rcases Nat.lt_or_ge j 62 with h | h
            · have hle := pow2_le (j := j + 1) (by omega)
              refine ⟨P * 2, by unfold wrap64; omega, Lib.hid ⟨.inl ⟨by omega, by omega⟩, .inl rfl⟩⟩
            · obtain rfl : j = 62 := by omega
              have h62 : P = 4611686018427387904 := by rw [hPj]; rfl
              exact ⟨-9223372036854775808, by rw [h62]; unfold wrap64; omega, Lib.hid ⟨.inr ⟨rfl, rfl⟩, .inr (by omega)⟩⟩
          have HPJ := Lib.hid (And.intro hPj hend)
          obtain ⟨qa, hqa, hqa2⟩ : ∃ qa : Nat, (a : Int) / P = (qa : Int) ∧ qa ≤ a := by
            refine ⟨((a : Int) / P).toNat, by rw [Int.toNat_of_nonneg (Int.ediv_nonneg (by omega) (by omega))], ?_⟩
            have := Int.ediv_le_self (b := P) (show 0 ≤ (a : Int) by omega)
            omega
          obtain ⟨qs, hqs, hqs2⟩ : ∃ qs : Nat, (s : Int) / P = (qs : Int) ∧ qs ≤ s := by
            refine ⟨((s : Int) / P).toNat, by rw [Int.toNat_of_nonneg (Int.ediv_nonneg (by omega) (by omega))], ?_⟩
            have := Int.ediv_le_self (b := P) (show 0 ≤ (s : Int) by omega)
            omega
          rw [hqa] at ba
          rw [hqs] at bs bs1
          have hqa3 : qa ≤ 9223372036854775807 := by omega
          have hqs3 : qs ≤ 9223372036854775807 := by omega
          have hx2 : Hid ((j = 62 ∧ P * 2 = 9223372036854775808) ∨ P * 2 ≤ 4611686018427387904) := Lib.hid (by
            rcases Nat.lt_or_ge j 62 with h | h
            · right
              have hsu := pow2_succ j
              have hle := pow2_le (j := j + 1) (by omega)
              rw [← hPj] at hsu
              omega
            · left
              obtain rfl : j = 62 := by omega
              have h62 : P = 4611686018427387904 := by rw [hPj]; rfl
              omega)
          cases hba : a.testBit j
          · have fa : (((qa : Nat) : Int) % 2 == 1) = false := by
              rw [hba] at ba
              rw [beq_eq_false_iff_ne]
              intro h
              exact absurd (ba.1 h) (by decide)
            have HALL : Hid (∀ i, i < j + 1 → a.testBit i = true → s.testBit i = true) := Lib.hid (by
              intro i hi hi2
              rcases Nat.lt_or_ge i j with h | h
              · exact hall.out i h hi2
              · obtain rfl : i = j := by omega
                rw [hba] at hi2; cases hi2)
            clear hPj ba bs bs1 hba
            go_wp2
            go_round
            case rel => exact ⟨j + 1, Q, by omega, by rw [hQ], Lib.hid hQ2.out.1, HALL⟩
            case measure => rw [hQ]; exact bitM_less hp1 hQ2.out.2 hp2
          · have fa : (((qa : Nat) : Int) % 2 == 1) = true := by
              rw [hba] at ba
              rw [beq_iff_eq]
              exact ba.2 rfl
            cases hbs : s.testBit j
            · have fs : (((qs : Nat) : Int) % 2 == 0) = true := by
                rw [hbs] at bs
                rw [beq_iff_eq]
                exact bs.2 rfl
              have HF : Hid (R = false) := Lib.hid (by
                rw [HA.out]
                cases hx : inN a s
                · rfl
                · have := (inN_lt a s ha).1 hx j (by omega) hba
                  rw [hbs] at this; cases this)
              clear hPj ba bs bs1 hba hbs
              go_wp2
              go_ret
              exact ⟨ret_bool HF.out.symm, hB _⟩
            · have fs : (((qs : Nat) : Int) % 2 == 0) = false := by
                rw [hbs] at bs
                rw [beq_eq_false_iff_ne]
                intro h
                exact absurd (bs.1 h) (by decide)
              have HALL : Hid (∀ i, i < j + 1 → a.testBit i = true → s.testBit i = true) := Lib.hid (by
                intro i hi hi2
                rcases Nat.lt_or_ge i j with h | h
                · exact hall.out i h hi2
                · obtain rfl : i = j := by omega
                  exact hbs)
              clear hPj ba bs bs1 hba hbs
              go_wp2
              go_round
              case rel => exact ⟨j + 1, Q, by omega, by rw [hQ], Lib.hid hQ2.out.1, HALL⟩
              case measure => rw [hQ]; exact bitM_less hp1 hQ2.out.2 hp2
    · have HA : Hid (R = false) := Lib.hid (by rw [← HR.out]; unfold ableB; rw [decide_eq_false (by omega)]; rfl)
      go_enter Tryd.func17, Tryd.ntmps17
      go_wp2
      go_ret
      exact ⟨ret_bool (by rw [HA.out]), hB _⟩
  · have HA : Hid (R = false) := Lib.hid (by rw [← HR.out]; unfold ableB; rw [decide_eq_false (by omega)]; rfl)
    go_enter Tryd.func17, Tryd.ntmps17
    go_wp2
    go_ret
    exact ⟨ret_bool (by rw [HA.out]), hB _⟩
end Go.Proofs.YthkbfmbohoclaaaDoor.flt
