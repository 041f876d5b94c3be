/- The law that Sub inverts Add, and that Add is commutative and associative. -/
import Derived.Test.YtdmedphpddhjcaaLoadH
namespace Go.Proofs.Ytdmedphpddhjcaa.loads
open Go.RowKit
open Go.Proofs.Ytdmedphpddhjcaa.lib
set_option linter.unusedVariables false

abbrev addL (a b : List Int) : List Int := List.zipWith (fun x y => x + y) a b
abbrev subL (a b : List Int) : List Int := List.zipWith (fun x y => x - y) a b
theorem addL_comm (a b : List Int) : addL a b = addL b a := by
  apply List.ext_getElem
  · simp <;> omega
  · intro i h1 h2
    simp <;> omega
theorem addL_assoc (a b c : List Int) : addL (addL a b) c = addL a (addL b c) := by
  apply List.ext_getElem
  · simp <;> omega
  · intro i h1 h2
    simp <;> omega
theorem subL_add {a b : List Int} (h : a.length = b.length) : subL (addL a b) b = a := by
  apply List.ext_getElem
  · simp <;> omega
  · intro i h1 h2
    simp <;> omega
theorem inM_le {m k : Int} {l : List Int} (h : InM m l) (hk : m ≤ k) : InM k l := fun x hx => by have := h x hx; omega
theorem inM_add {m k : Int} {a b : List Int} (ha : InM m a) (hb : InM k b) : InM (m + k) (addL a b) := inM_zip ha hb (by intro x y h1 h2 h3 h4; omega)
theorem sameB_t {a b : List Int} (h : a = b) : sameB a b = true := by unfold sameB; rw [decide_eq_true h]

set_option maxHeartbeats 2000000 in
theorem law_group_eq (A : Option Addr) (c1 : Nat) (a : List Int) (A' : Option Addr) (c2 : Nat) (b : List Int) (A'' : Option Addr) (c3 : Nat) (c : List Int) (n : Nat) (hn : a.length = n) (hm : b.length = n) (ho : c.length = n) (w : World)
    (ha : Ints w w.heap.size A a) (hb : Ints w w.heap.size A' b) (hc : Ints w w.heap.size A'' c) (ia : withinB a 1048576 = true) (ib : withinB b 1048576 = true) (ic : withinB c 1048576 = true) :
    Calls Try.prog 4 #[.slice A n c1, .slice A' n c2, .slice A'' n c3] w fun e w' => e = .returned (.bool true) ∧ Below w.heap.size w w' := by
  have hlen := ha.len
  rw [hn] at hlen
  have WA := Lib.hid (within_any A c1 a 1048576 (by omega) (by omega) w _ ha)
  have WB := Lib.hid (within_any A' c2 b 1048576 (by omega) (by omega) w _ hb)
  have WC := Lib.hid (within_any A'' c3 c 1048576 (by omega) (by omega) w _ hc)
  rw [ia, hn] at WA
  rw [ib, hm] at WB
  rw [ic, ho] at WC
  have i1 := within_t ia
  have i2 := within_t ib
  have i3 := within_t ic
  have i12 := Lib.hid (inM_le (inM_add i1 i2) (by omega : (1048576 : Int) + 1048576 ≤ 1073741824))
  have i23 := Lib.hid (inM_le (inM_add i2 i3) (by omega : (1048576 : Int) + 1048576 ≤ 1073741824))
  have I1 := Lib.hid (inM_le i1 (by omega : (1048576 : Int) ≤ 1073741824))
  have I2 := Lib.hid (inM_le i2 (by omega : (1048576 : Int) ≤ 1073741824))
  have I3 := Lib.hid (inM_le i3 (by omega : (1048576 : Int) ≤ 1073741824))
  have N1 := Lib.hid hn
  have N2 := Lib.hid hm
  have N3 := Lib.hid ho
  have N12 : Hid ((addL a b).length = n) := Lib.hid (by simp; omega)
  have N21 : Hid ((addL b a).length = n) := Lib.hid (by simp; omega)
  have N23 : Hid ((addL b c).length = n) := Lib.hid (by simp; omega)
  have NX : Hid ((addL (addL a b) c).length = n) := Lib.hid (by simp; omega)
  have NY : Hid ((addL a (addL b c)).length = n) := Lib.hid (by simp; omega)
  have NZ : Hid ((subL (addL a b) b).length = n) := Lib.hid (by simp; omega)
  have S1 := Lib.hid (sameB_t (addL_comm a b))
  have S2 := Lib.hid (sameB_t (addL_assoc a b c))
  have S3 := Lib.hid (sameB_t (subL_add (hn.trans hm.symm)))
  clear hn hm ho ia ib ic i1 i2 i3
  go_enter Try.func4, Try.ntmps4
  go_wp2_with fail
  refine WA.out.mono ?_
  rintro e w' ⟨rfl, rfl⟩
  go_wp2_with fail
  refine WB.out.mono ?_
  rintro e w' ⟨rfl, rfl⟩
  go_wp2_with fail
  refine WC.out.mono ?_
  rintro e w' ⟨rfl, rfl⟩
  go_wp2_with fail
  refine (add_eq A c1 a n N1.out A' c2 b N2.out _ _ _ (by omega) (by omega) ha hb I1.out I2.out).mono ?_
  rintro e w1 ⟨Aab, cab, rfl, ownab, belab⟩
  have sab := belab.size
  replace ha := ha.below (belab.mono (show w.heap.size ≤ w.heap.size by omega))
  replace hb := hb.below (belab.mono (show w.heap.size ≤ w.heap.size by omega))
  replace hc := hc.below (belab.mono (show w.heap.size ≤ w.heap.size by omega))
  have hab : Ints w1 w1.heap.size Aab (addL a b) := Ints.of_own (c := cab) (by rw [N12.out]; exact ownab) (by rw [N12.out]; exact hlen)
  clear ownab
  go_wp2_with fail
  refine (add_eq A' c2 b n N2.out A c1 a N1.out _ _ _ (by omega) (by omega) hb ha I2.out I1.out).mono ?_
  rintro e w2 ⟨Aba, cba, rfl, ownba, belba⟩
  have sba := belba.size
  replace ha := ha.below (belba.mono (show w.heap.size ≤ w1.heap.size by omega))
  replace hb := hb.below (belba.mono (show w.heap.size ≤ w1.heap.size by omega))
  replace hc := hc.below (belba.mono (show w.heap.size ≤ w1.heap.size by omega))
  replace hab := hab.below (belba.mono (show w1.heap.size ≤ w1.heap.size by omega))
  have hba : Ints w2 w2.heap.size Aba (addL b a) := Ints.of_own (c := cba) (by rw [N21.out]; exact ownba) (by rw [N21.out]; exact hlen)
  clear ownba
  go_wp2_with fail
  refine (add_eq A' c2 b n N2.out A'' c3 c N3.out _ _ _ (by omega) (by omega) hb hc I2.out I3.out).mono ?_
  rintro e w3 ⟨Abc, cbc, rfl, ownbc, belbc⟩
  have sbc := belbc.size
  replace ha := ha.below (belbc.mono (show w.heap.size ≤ w2.heap.size by omega))
  replace hb := hb.below (belbc.mono (show w.heap.size ≤ w2.heap.size by omega))
  replace hc := hc.below (belbc.mono (show w.heap.size ≤ w2.heap.size by omega))
  replace hab := hab.below (belbc.mono (show w1.heap.size ≤ w2.heap.size by omega))
  replace hba := hba.below (belbc.mono (show w2.heap.size ≤ w2.heap.size by omega))
  have hbc : Ints w3 w3.heap.size Abc (addL b c) := Ints.of_own (c := cbc) (by rw [N23.out]; exact ownbc) (by rw [N23.out]; exact hlen)
  clear ownbc
  go_wp2_with fail
  refine (add_eq Aab cab (addL a b) n N12.out A'' c3 c N3.out _ _ _ (by omega) (by omega) hab hc i12.out I3.out).mono ?_
  rintro e w4 ⟨Ax, cx, rfl, ownx, belx⟩
  have sx := belx.size
  replace ha := ha.below (belx.mono (show w.heap.size ≤ w3.heap.size by omega))
  replace hb := hb.below (belx.mono (show w.heap.size ≤ w3.heap.size by omega))
  replace hc := hc.below (belx.mono (show w.heap.size ≤ w3.heap.size by omega))
  replace hab := hab.below (belx.mono (show w1.heap.size ≤ w3.heap.size by omega))
  replace hba := hba.below (belx.mono (show w2.heap.size ≤ w3.heap.size by omega))
  replace hbc := hbc.below (belx.mono (show w3.heap.size ≤ w3.heap.size by omega))
  have hx : Ints w4 w4.heap.size Ax (addL (addL a b) c) := Ints.of_own (c := cx) (by rw [NX.out]; exact ownx) (by rw [NX.out]; exact hlen)
  clear ownx
  go_wp2_with fail
  refine (add_eq A c1 a n N1.out Abc cbc (addL b c) N23.out _ _ _ (by omega) (by omega) ha hbc I1.out i23.out).mono ?_
  rintro e w5 ⟨Ay, cy, rfl, owny, bely⟩
  have sy := bely.size
  replace ha := ha.below (bely.mono (show w.heap.size ≤ w4.heap.size by omega))
  replace hb := hb.below (bely.mono (show w.heap.size ≤ w4.heap.size by omega))
  replace hc := hc.below (bely.mono (show w.heap.size ≤ w4.heap.size by omega))
  replace hab := hab.below (bely.mono (show w1.heap.size ≤ w4.heap.size by omega))
  replace hba := hba.below (bely.mono (show w2.heap.size ≤ w4.heap.size by omega))
  replace hbc := hbc.below (bely.mono (show w3.heap.size ≤ w4.heap.size by omega))
  replace hx := hx.below (bely.mono (show w4.heap.size ≤ w4.heap.size by omega))
  have hy : Ints w5 w5.heap.size Ay (addL a (addL b c)) := Ints.of_own (c := cy) (by rw [NY.out]; exact owny) (by rw [NY.out]; exact hlen)
  clear owny
  go_wp2_with fail
  refine (sub_eq Aab cab (addL a b) n N12.out A' c2 b N2.out _ _ _ (by omega) (by omega) hab hb i12.out I2.out).mono ?_
  rintro e w6 ⟨Az, cz, rfl, ownz, belz⟩
  have sz := belz.size
  replace ha := ha.below (belz.mono (show w.heap.size ≤ w5.heap.size by omega))
  replace hb := hb.below (belz.mono (show w.heap.size ≤ w5.heap.size by omega))
  replace hc := hc.below (belz.mono (show w.heap.size ≤ w5.heap.size by omega))
  replace hab := hab.below (belz.mono (show w1.heap.size ≤ w5.heap.size by omega))
  replace hba := hba.below (belz.mono (show w2.heap.size ≤ w5.heap.size by omega))
  replace hbc := hbc.below (belz.mono (show w3.heap.size ≤ w5.heap.size by omega))
  replace hx := hx.below (belz.mono (show w4.heap.size ≤ w5.heap.size by omega))
  replace hy := hy.below (belz.mono (show w5.heap.size ≤ w5.heap.size by omega))
  have hz : Ints w6 w6.heap.size Az (subL (addL a b) b) := Ints.of_own (c := cz) (by rw [NZ.out]; exact ownz) (by rw [NZ.out]; exact hlen)
  clear ownz
  go_wp2_with fail
  refine (lsame_any Aab cab (addL a b) n N12.out Aba cba (addL b a) n N21.out _ _ _ (by omega) (by omega) hab hba).mono ?_
  rintro e w7 ⟨rfl, bels7⟩
  rw [S1.out]
  have ss7 := bels7.size
  replace ha := ha.below (bels7.mono (show w.heap.size ≤ w6.heap.size by omega))
  replace hb := hb.below (bels7.mono (show w.heap.size ≤ w6.heap.size by omega))
  replace hc := hc.below (bels7.mono (show w.heap.size ≤ w6.heap.size by omega))
  replace hab := hab.below (bels7.mono (show w1.heap.size ≤ w6.heap.size by omega))
  replace hba := hba.below (bels7.mono (show w2.heap.size ≤ w6.heap.size by omega))
  replace hbc := hbc.below (bels7.mono (show w3.heap.size ≤ w6.heap.size by omega))
  replace hx := hx.below (bels7.mono (show w4.heap.size ≤ w6.heap.size by omega))
  replace hy := hy.below (bels7.mono (show w5.heap.size ≤ w6.heap.size by omega))
  replace hz := hz.below (bels7.mono (show w6.heap.size ≤ w6.heap.size by omega))
  go_wp2_with fail
  refine (lsame_any Ax cx (addL (addL a b) c) n NX.out Ay cy (addL a (addL b c)) n NY.out _ _ _ (by omega) (by omega) hx hy).mono ?_
  rintro e w8 ⟨rfl, bels8⟩
  rw [S2.out]
  have ss8 := bels8.size
  replace ha := ha.below (bels8.mono (show w.heap.size ≤ w7.heap.size by omega))
  replace hb := hb.below (bels8.mono (show w.heap.size ≤ w7.heap.size by omega))
  replace hc := hc.below (bels8.mono (show w.heap.size ≤ w7.heap.size by omega))
  replace hab := hab.below (bels8.mono (show w1.heap.size ≤ w7.heap.size by omega))
  replace hba := hba.below (bels8.mono (show w2.heap.size ≤ w7.heap.size by omega))
  replace hbc := hbc.below (bels8.mono (show w3.heap.size ≤ w7.heap.size by omega))
  replace hx := hx.below (bels8.mono (show w4.heap.size ≤ w7.heap.size by omega))
  replace hy := hy.below (bels8.mono (show w5.heap.size ≤ w7.heap.size by omega))
  replace hz := hz.below (bels8.mono (show w6.heap.size ≤ w7.heap.size by omega))
  go_wp2_with fail
  refine (lsame_any Az cz (subL (addL a b) b) n NZ.out A c1 a n N1.out _ _ _ (by omega) (by omega) hz ha).mono ?_
  rintro e w9 ⟨rfl, bels9⟩
  rw [S3.out]
  have ss9 := bels9.size
  replace ha := ha.below (bels9.mono (show w.heap.size ≤ w8.heap.size by omega))
  replace hb := hb.below (bels9.mono (show w.heap.size ≤ w8.heap.size by omega))
  replace hc := hc.below (bels9.mono (show w.heap.size ≤ w8.heap.size by omega))
  replace hab := hab.below (bels9.mono (show w1.heap.size ≤ w8.heap.size by omega))
  replace hba := hba.below (bels9.mono (show w2.heap.size ≤ w8.heap.size by omega))
  replace hbc := hbc.below (bels9.mono (show w3.heap.size ≤ w8.heap.size by omega))
  replace hx := hx.below (bels9.mono (show w4.heap.size ≤ w8.heap.size by omega))
  replace hy := hy.below (bels9.mono (show w5.heap.size ≤ w8.heap.size by omega))
  replace hz := hz.below (bels9.mono (show w6.heap.size ≤ w8.heap.size by omega))
  go_wp2_with fail
  refine (examples_any _).mono ?_
  rintro e w10 ⟨rfl, belE⟩
  go_wp2
  go_ret
  refine ⟨rfl, ?_⟩
  exact ((((((((belab.trans (belba.mono (by omega))).trans (belbc.mono (by omega))).trans (belx.mono (by omega))).trans (bely.mono (by omega))).trans (belz.mono (by omega))).trans (bels7.mono (by omega))).trans (bels8.mono (by omega))).trans (bels9.mono (by omega))).trans (belE.mono (by omega))

theorem law_group (A : Option Addr) (c1 : Nat) (a : List Int) (A' : Option Addr) (c2 : Nat) (b : List Int) (A'' : Option Addr) (c3 : Nat) (c : List Int) (w : World)
    (ha : Ints w w.heap.size A a) (hb : Ints w w.heap.size A' b) (hc : Ints w w.heap.size A'' c) :
    Calls Try.prog 4 #[.slice A a.length c1, .slice A' b.length c2, .slice A'' c.length c3] w fun e w' => e = .returned (.bool true) ∧ Below w.heap.size w w' := by
  have WA := Lib.hid (within_any A c1 a 1048576 (by omega) (by omega) w _ ha)
  have WB := Lib.hid (within_any A' c2 b 1048576 (by omega) (by omega) w _ hb)
  have WC := Lib.hid (within_any A'' c3 c 1048576 (by omega) (by omega) w _ hc)
  by_cases h1 : a.length = b.length
  · by_cases h2 : b.length = c.length
    · cases ia : withinB a 1048576
      · rw [ia] at WA
        have q1 : ((a.length : Int) != (b.length : Int)) = false := by simp; omega
        have q2 : ((b.length : Int) != (c.length : Int)) = false := by simp; omega
        clear h1 h2
        go_enter Try.func4, Try.ntmps4
        go_wp2_with fail
        refine WA.out.mono ?_
        rintro e w' ⟨rfl, rfl⟩
        go_wp2_with (go_at_call 10; refine (examples_any _).mono ?_; rintro e w2 ⟨rfl, hb2⟩)
        go_ret
        exact ⟨rfl, hb2⟩
      · cases ib : withinB b 1048576
        · rw [ia] at WA
          rw [ib] at WB
          have q1 : ((a.length : Int) != (b.length : Int)) = false := by simp; omega
          have q2 : ((b.length : Int) != (c.length : Int)) = false := by simp; omega
          clear h1 h2
          go_enter Try.func4, Try.ntmps4
          go_wp2_with fail
          refine WA.out.mono ?_
          rintro e w' ⟨rfl, rfl⟩
          go_wp2_with fail
          refine WB.out.mono ?_
          rintro e w' ⟨rfl, rfl⟩
          go_wp2_with (go_at_call 10; refine (examples_any _).mono ?_; rintro e w2 ⟨rfl, hb2⟩)
          go_ret
          exact ⟨rfl, hb2⟩
        · cases ic : withinB c 1048576
          · rw [ia] at WA
            rw [ib] at WB
            rw [ic] at WC
            have q1 : ((a.length : Int) != (b.length : Int)) = false := by simp; omega
            have q2 : ((b.length : Int) != (c.length : Int)) = false := by simp; omega
            clear h1 h2
            go_enter Try.func4, Try.ntmps4
            go_wp2_with fail
            refine WA.out.mono ?_
            rintro e w' ⟨rfl, rfl⟩
            go_wp2_with fail
            refine WB.out.mono ?_
            rintro e w' ⟨rfl, rfl⟩
            go_wp2_with fail
            refine WC.out.mono ?_
            rintro e w' ⟨rfl, rfl⟩
            go_wp2_with (go_at_call 10; refine (examples_any _).mono ?_; rintro e w2 ⟨rfl, hb2⟩)
            go_ret
            exact ⟨rfl, hb2⟩
          · have h := law_group_eq A c1 a A' c2 b A'' c3 c a.length rfl h1.symm (h2.symm.trans h1.symm) w ha hb hc ia ib ic
            rw [← h2, ← h1]
            exact h
    · have q1 : ((a.length : Int) != (b.length : Int)) = false := by simp; omega
      have q2 : ((b.length : Int) != (c.length : Int)) = true := by simp; omega
      clear h1 h2
      go_enter Try.func4, Try.ntmps4
      go_wp2_with (go_at_call 10; refine (examples_any _).mono ?_; rintro e w2 ⟨rfl, hb2⟩)
      go_ret
      exact ⟨rfl, hb2⟩
  · have q1 : ((a.length : Int) != (b.length : Int)) = true := by simp; omega
    clear h1
    go_enter Try.func4, Try.ntmps4
    go_wp2_with (go_at_call 10; refine (examples_any _).mono ?_; rintro e w2 ⟨rfl, hb2⟩)
    go_ret
    exact ⟨rfl, hb2⟩
end Go.Proofs.Ytdmedphpddhjcaa.loads
