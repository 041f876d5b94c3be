/- The tables of the library; text.Decimal and text.Number. -/
import Derived.Test.YthefooacfcagbaaGreatDoorBase
import Derived.Test.YthefooacfcagbaaGreatDoorStrP
import Derived.Test.YthefooacfcagbaaGreatDoorShelf
import Derived.Lib.LaidTab
import Derived.Lib.AtoiErrMem
import Derived.Deep.DeepCutAuto
import Derived.Outline
namespace Go.Proofs.YthefooacfcagbaaGreatDoor.txt
open Go.RowKit
open Go.Proofs.YthefooacfcagbaaGreatDoor.lib
set_option linter.unusedVariables false

theorem var_below {P : Program} {w w' : World} {n : String} {cs : Array Value} (h : w.var? P n = some cs) (hb : Below w.heap.size w w') : w'.var? P n = some cs := by
  unfold World.var? at h ⊢
  cases hg : P.globalNamed n with
  | none => rw [hg] at h; cases h
  | some g =>
    rw [hg] at h
    simp only [Option.bind_some] at h ⊢
    have hlt : g < w.heap.size := by
      by_cases hh : g < w.heap.size
      · exact hh
      · rw [Array.getElem?_eq_none (by omega)] at h; cases h
    rw [hb.block g hlt]; exact h
/-- The library's tables, as the program's start lays them. -/
structure Tabs (w : World) : Prop where
  pow : Lib.TabIs Tryz.prog w "internal/strconv.uint64pow10" .u64 Lib.pow10Tab
  rng : ∃ tp p, w.var? Tryz.prog "strconv.ErrRange" = some #[.iface tp p]
theorem Tabs.below {w w' : World} (h : Tabs w) (hb : Below w.heap.size w w') : Tabs w' :=
  ⟨var_below h.pow hb, h.rng.elim fun tp ⟨p, hp⟩ => ⟨tp, p, var_below hp hb⟩⟩
theorem below_grow (w : World) (k : Nat) (os : Array Obj) : Below w.heap.size w (Go.Sort.grow (w.drewN k) os) :=
  ⟨rfl, rfl, rfl, by show w.heap.size ≤ (w.heap ++ os).size; simp, fun j hj => by show (w.heap ++ os)[j]? = _; rw [Array.getElem?_append_left hj]⟩

theorem decW_any (n : Int) (h : in64 n) (w : World) (ht : Tabs w) : Calls Tryz.prog 41 #[.int .i64 n] w fun e w' => e = .returned (.string (decW n)) ∧ Below w.heap.size w w' := by
  have hc := Tryz.strconv_Itoa n h.1 h.2 w ht.pow
  clear h
  go_enter Tryz.func41, Tryz.ntmps41
  go_wp2_with (go_at_call 77; refine hc.mono ?_; rintro e w1 ⟨rfl, k, os, rfl⟩)
  go_ret
  exact ⟨rfl, below_grow _ _ _⟩

theorem trim_dgs (l : By) : Lib.trimPrefix l [45] = dgs l := by
  unfold dgs sgn Lib.trimPrefix
  cases l with
  | nil => rfl
  | cons c r =>
    by_cases hc : c = 45
    · subst hc; rfl
    · have h2 : ¬ decide ((c :: r).head? = some 45) = true := by intro h; exact hc (Option.some.inj (of_decide_eq_true h))
      rw [if_neg h2, if_neg]
      intro h
      unfold Lib.hasPrefix at h
      simp at h
      exact hc h.symm
theorem loop_list (s : ByteArray) : ∀ (m i : Nat) (r : List UInt8), s.size - i = m → ByteArray.toList.loop s i r = r.reverse ++ s.data.toList.drop i
  | 0, i, r, h => by
    rw [ByteArray.toList.loop, if_neg (by omega), List.drop_of_length_le (by simp; omega)]
    simp
  | m + 1, i, r, h => by
    have hl : i < s.data.toList.length := by simp; omega
    rw [ByteArray.toList.loop, if_pos (by omega), loop_list s m (i + 1) _ (by omega), List.drop_eq_getElem_cons hl]
    simp [ByteArray.get!]
    have hs : i < s.data.size := by simpa using hl
    exact getElem!_pos s.data i hs
theorem toList_data (s : ByteArray) : s.toList = s.data.toList := by
  show ByteArray.toList.loop s 0 [] = _
  rw [loop_list s s.size 0 [] (by omega)]
  simp
/-- The first test of Number. -/
def badH (l : By) : Bool := decide (dgs l = [] ∨ ((dgs l).head? = some 48 ∧ l ≠ [48]))
theorem badH_no {l : By} (h : badH l = false) : ¬ (dgs l = [] ∨ ((dgs l).head? = some 48 ∧ l ≠ [48])) := of_decide_eq_false h
theorem numL_bad {l : By} (h : badH l = true) : numL l = (0, 3) := by
  unfold numL
  simp only []
  rw [if_pos (of_decide_eq_true h)]
theorem numL_dig {l : By} (h : badH l = false) (h2 : (dgs l).all isD = false) : numL l = (0, 3) := by
  unfold numL
  simp only []
  rw [if_neg (badH_no h), if_pos h2]
theorem isD_digB (c : UInt8) : isD c = digB (c.toNat : Int) := by
  unfold isD digB
  rw [Bool.eq_iff_iff, decide_eq_true_eq, decide_eq_true_eq]
  omega
theorem at_list {d : ByteArray} {l : By} (h : d.toList = l) (k : Nat) (hk : k < d.size) : l[k]? = some d[k] := by
  rw [← h, toList_data]
  exact List.getElem?_eq_getElem (l := d.data.toList) (by simpa using hk)
theorem size_list {d : ByteArray} {l : By} (h : d.toList = l) : d.size = l.length := by
  rw [← h, toList_data]
  simp
theorem ret_nn {a b c d : Int} (h : a = b) (h' : c = d) : Ending.returned (.tuple #[.int .i64 a, .int .i64 c]) = .returned (.tuple #[.int .i64 b, .int .i64 d]) := by rw [h, h']
set_option maxRecDepth 100000 in
theorem number_any (s : ByteArray) (hm : s.size ≤ 140737488351232) (w : World) (ht : Tabs w) : Calls Tryz.prog 151 #[.string s] w fun e w' => e = .returned (.tuple #[.int .i64 (numL s.data.toList).1, .int .i64 (numL s.data.toList).2]) ∧ Below w.heap.size w w' := by
  have hT := Tryz.strings_TrimPrefix s ⟨#[45]⟩ w
  have hd : Lib.trimPrefix s.data.toList [45] = dgs s.data.toList := trim_dgs _
  have hT : Calls Tryz.prog 172 #[.string s, .string ⟨#[45]⟩] w fun e w' => ∃ d : ByteArray, e = .returned (.string d) ∧ w' = w ∧ d.toList = dgs s.data.toList ∧ d.size ≤ s.size := hT.mono (by
    rintro e w' ⟨rfl, rfl⟩
    refine ⟨_, rfl, rfl, ?_, ?_⟩
    · rw [toList_data]
      show (Lib.trimPrefix s.data.toList [45]).toArray.toList = _
      rw [hd]
    · show (Lib.trimPrefix s.data.toList [45]).toArray.size ≤ s.size
      have := Lib.trimPrefix_le s.data.toList [45]
      simpa using this)
  have hsl := toList_data s
  obtain ⟨l, hl⟩ : ∃ l, s.data.toList = l := ⟨_, rfl⟩
  obtain ⟨D, hD⟩ : ∃ D, dgs l = D := ⟨_, rfl⟩
  rw [hl] at hsl
  rw [hl, hD] at hT
  rw [hl]
  have HD := Lib.hid hD
  have HL := Lib.hid hl
  have HA : Hid (badH l = false → D.all isD = true → (∃ v, Lib.atoiAll l = .ok v ∧ numL l = (v, 0)) ∨ (Lib.atoiAll l = .range ∧ numL l = (0, 4))) := Lib.hid (fun h1 h2 => atoi_num (badH_no h1) (by rw [HD.out]; exact h2))
  clear hd hD hl
  go_enter Tryz.func151, Tryz.ntmps151
  go_upto_region 2 with (go_at_call 172; refine hT.mono ?_; rintro e w1 ⟨d, rfl, rfl, hdl, hds⟩)
  clear hT
  go_cut [20] (fun v wx => v = .bool (badH l) ∧ w1 = wx)
  case first => as_aux_lemma =>
    cases D with
    | nil =>
      have hB : badH l = true := decide_eq_true (.inl HD.out)
      have HB := Lib.hid hB; clear hB
      go_wp2
      go_meet
      exact ⟨by rw [HB.out]; try rfl, rfl⟩
    | cons c r =>
      have hz : 0 < d.size := by rw [size_list hdl]; simp
      have h0 : d[0] = c := by have := at_list hdl 0 hz; exact (Option.some.inj this).symm
      by_cases hc : c = 48
      · by_cases hl : l = [48]
        · have hB : badH l = false := by
            refine decide_eq_false ?_
            rw [HD.out]
            rintro (h | h)
            · cases h
            · exact h.2 hl
          have HB := Lib.hid hB; clear hB
          rw [hl] at hsl
          have hc2 : (c.toNat : Int) = 48 := by rw [hc]; rfl
          go_wp2
          go_meet
          exact ⟨by rw [HB.out]; try rfl, rfl⟩
        · have hB : badH l = true := by
            refine decide_eq_true ?_
            rw [HD.out]
            exact .inr ⟨by rw [hc]; rfl, hl⟩
          have HB := Lib.hid hB; clear hB
          have hl2 : (s.toList == [48]) = false := by rw [hsl]; simpa using hl
          have hc2 : (c.toNat : Int) = 48 := by rw [hc]; rfl
          clear hsl
          go_wp2
          go_meet
          exact ⟨by rw [HB.out]; try rfl, rfl⟩
      · have hB : badH l = false := by
          refine decide_eq_false ?_
          rw [HD.out]
          rintro (h | h)
          · cases h
          · exact hc (Option.some.inj h.1)
        have HB := Lib.hid hB; clear hB
        have hc2 : (c.toNat : Int) ≠ 48 := by intro e; apply hc; apply UInt8.toNat_inj.1; have : (48 : UInt8).toNat = 48 := rfl; omega
        go_wp2
        go_meet
        exact ⟨by rw [HB.out]; try rfl, rfl⟩
  obtain ⟨rfl, rfl⟩ := hcut
  cases hB : badH l
  case true =>
    have hN := Lib.hid (numL_bad hB)
    clear hB
    go_wp2
    refine bodyPost_ret (v := .tuple #[.int .i64 (0), .int .i64 3]) (by simp [results, Tryz.results151, go_sem]) rfl ?_
    exact ⟨ret_nn (by rw [hN.out]) (by rw [hN.out]), Below.refl _ _⟩
  have HB := Lib.hid hB
  clear hB
  go_upto_region 5 with fail
  go_loop [5, 23] (fun _ i => ∃ k : Nat, k ≤ d.size ∧ i = .int .i64 k ∧ Hid (D.all isD = (D.drop k).all isD)) (fun _ i => d.size - (intOf i).toNat)
  case atStart => exact ⟨0, by omega, rfl, Lib.hid rfl⟩
  case round =>
    obtain ⟨k, hk, rfl, hr⟩ := hrel
    by_cases hlt : k < d.size
    · have hst : Hid ((D.drop k).all isD = (digB (d[k].toNat : Int) && (D.drop (k + 1)).all isD)) := Lib.hid (by
        rw [drop_at' (at_list hdl k hlt), List.all_cons, isD_digB])
      cases hg : digB (d[k].toNat : Int)
      · have HF : Hid (numL l = (0, 3)) := Lib.hid (numL_dig HB.out (by rw [HD.out, hr.out, hst.out, hg]; rfl))
        go_wp2_with (go_at_call 114; refine (digit_any _ _).mono ?_; rintro e w2 ⟨rfl, rfl⟩)
        refine bodyPost_ret (v := .tuple #[.int .i64 (0), .int .i64 3]) (by simp [results, Tryz.results151, go_sem]) rfl ?_
        exact ⟨ret_nn (by rw [HF.out]) (by rw [HF.out]), Below.refl _ _⟩
      · have HF : Hid (D.all isD = (D.drop (k + 1)).all isD) := Lib.hid (by rw [hr.out, hst.out, hg]; rfl)
        go_wp2_with (go_at_call 114; refine (digit_any _ _).mono ?_; rintro e w2 ⟨rfl, rfl⟩)
        go_round
        case rel => exact ⟨k + 1, by omega, by go_num, HF⟩
        case measure => simp [intOf]; omega
    · have HF : D.all isD = true := by rw [hr.out, List.drop_of_length_le (by rw [← size_list hdl]; omega)]; rfl
      obtain ⟨tp, p, hvar⟩ := ht.rng
      rcases HA.out HB.out HF with ⟨v, h1, h2⟩ | ⟨h1, h2⟩
      · have HN := Lib.hid h2
        have hc := Tryz.strconv_Atoi_ok s (by omega) v (by rw [HL.out]; exact h1) w1
        clear h1 h2 HF
        go_wp2_with (go_at_call 173; refine hc.mono ?_; rintro e w2 ⟨rfl, hw2⟩)
        refine bodyPost_ret (v := .tuple #[.int .i64 (v), .int .i64 0]) (by simp [results, Tryz.results151, go_sem]) rfl ?_
        refine ⟨ret_nn (by rw [HN.out]) (by rw [HN.out]), ?_⟩
        rcases hw2 with rfl | ⟨t, rfl⟩
        · exact Below.refl _ _
        · exact Lib.bytesWorld_below _ _ _
      · have HN := Lib.hid h2
        have hc := Tryz.strconv_Atoi_range_var s (by omega) (by rw [HL.out]; exact h1) tp p w1 hvar
        clear h1 h2 HF
        go_wp2_with (go_at_call 173; refine hc.mono ?_; rintro e w2 ⟨N, rfl, hN1, hN2, hb2⟩)
        refine bodyPost_ret (v := .tuple #[.int .i64 (0), .int .i64 4]) (by simp [results, Tryz.results151, go_sem]) rfl ?_
        exact ⟨ret_nn (by rw [HN.out]) (by rw [HN.out]), hb2⟩
end Go.Proofs.YthefooacfcagbaaGreatDoor.txt
