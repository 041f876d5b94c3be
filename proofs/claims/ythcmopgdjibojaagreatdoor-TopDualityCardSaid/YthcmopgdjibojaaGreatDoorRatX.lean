import Derived.Test.YthcmopgdjibojaaGreatDoorWhoG
/- ratio: the text of a rational number; split, digits, Right, lowest. -/
namespace Go.Proofs.YthcmopgdjibojaaGreatDoor.rat
open Go.RowKit
open Go.Lib (decDigits nDigits itoa decDigits_length nDigits_pos)
open Go.Proofs.YthcmopgdjibojaaGreatDoor.lib Go.Proofs.YthcmopgdjibojaaGreatDoor.app Go.Proofs.YthcmopgdjibojaaGreatDoor.nt Go.Proofs.YthcmopgdjibojaaGreatDoor.rd Go.Proofs.YthcmopgdjibojaaGreatDoor.wh
set_option linter.unusedVariables false
set_option linter.unusedSimpArgs false

/-- The text of a rational number. -/
def ratL (q : Rat) : List UInt8 := if q.den = 1 then itoa q.num else itoa q.num ++ 47 :: decDigits q.den
def ratS (q : Rat) : ByteArray := ⟨(ratL q).toArray⟩
/-- At most k digits in each part. -/
def Dg (k : Nat) (q : Rat) : Prop := nDigits q.num.natAbs ≤ k ∧ nDigits q.den ≤ k
theorem Dg.mono {k l : Nat} {q : Rat} (h : Dg k q) (hk : k ≤ l) : Dg l q := ⟨Nat.le_trans h.1 hk, Nat.le_trans h.2 hk⟩
theorem no47_dec (n : Nat) : ∀ c, c ∈ decDigits n → c ≠ 47 := fun c hc e => by
  have := dec_digs n c hc
  rw [e] at this
  have h : (47 : UInt8).toNat = 47 := rfl
  omega
theorem no47_int (z : Int) : ∀ c, c ∈ itoa z → c ≠ 47 := fun c hc => by
  by_cases h : z < 0
  · rw [itoa_neg h] at hc
    rcases List.mem_cons.1 hc with rfl | hc
    · decide
    · exact no47_dec _ c hc
  · rw [itoa_nn h] at hc
    exact no47_dec _ c hc
theorem index_none {l : List UInt8} (h : ∀ c, c ∈ l → c ≠ 47) : Lib.index l [47] = -1 := by
  induction l with
  | nil => rfl
  | cons c l ih =>
    have hc := h c (List.mem_cons_self ..)
    have h2 := ih fun x hx => h x (List.mem_cons_of_mem _ hx)
    have h3 : ((47 : UInt8) == c) = false := by rw [beq_eq_false_iff_ne]; exact fun e => hc e.symm
    simp [Lib.index, List.isPrefixOf, h3, h2]
theorem index_some {l : List UInt8} (h : ∀ c, c ∈ l → c ≠ 47) (r : List UInt8) : Lib.index (l ++ 47 :: r) [47] = l.length := by
  induction l with
  | nil => simp [Lib.index, List.isPrefixOf]
  | cons c l ih =>
    have hc := h c (List.mem_cons_self ..)
    have h2 := ih fun x hx => h x (List.mem_cons_of_mem _ hx)
    have h3 : ((47 : UInt8) == c) = false := by rw [beq_eq_false_iff_ne]; exact fun e => hc e.symm
    rw [List.cons_append, Lib.index, h2]
    have h4 : (((l.length : Nat) : Int) == -1) = false := by simp
    simp [List.isPrefixOf, h3, h4]
theorem cut_none {l : List UInt8} (h : ∀ c, c ∈ l → c ≠ 47) : Lib.cut l [47] = (l, [], false) := by
  unfold Lib.cut
  rw [index_none h]
  rfl
theorem cut_some {l : List UInt8} (h : ∀ c, c ∈ l → c ≠ 47) (r : List UInt8) : Lib.cut (l ++ 47 :: r) [47] = (l, r, true) := by
  unfold Lib.cut
  rw [index_some h, if_pos (by omega)]
  simp
theorem ixb_none {l : List UInt8} (h : ∀ c, c ∈ l → c ≠ 47) : Lib.indexByte l 47 = -1 := by
  induction l with
  | nil => rfl
  | cons c l ih =>
    have hc := h c (List.mem_cons_self ..)
    have h2 := ih fun x hx => h x (List.mem_cons_of_mem _ hx)
    have h3 : (c == (47 : UInt8)) = false := by rw [beq_eq_false_iff_ne]; exact hc
    simp [Lib.indexByte, h3, h2]
theorem ixb_some {l : List UInt8} (h : ∀ c, c ∈ l → c ≠ 47) (r : List UInt8) : Lib.indexByte (l ++ 47 :: r) 47 = l.length := by
  induction l with
  | nil => simp [Lib.indexByte]
  | cons c l ih =>
    have hc := h c (List.mem_cons_self ..)
    have h2 := ih fun x hx => h x (List.mem_cons_of_mem _ hx)
    have h3 : (c == (47 : UInt8)) = false := by rw [beq_eq_false_iff_ne]; exact hc
    rw [List.cons_append, Lib.indexByte, h2]
    have h4 : (((l.length : Nat) : Int) == -1) = false := by simp
    simp [h3, h4]
theorem itoa_len_le (z : Int) : (itoa z).length ≤ nDigits z.natAbs + 1 := by
  by_cases h : z < 0
  · rw [itoa_neg h, List.length_cons, decDigits_length]; exact Nat.le_refl _
  · rw [itoa_nn h, decDigits_length]; omega
theorem ratS_size (q : Rat) : (ratS q).size ≤ nDigits q.num.natAbs + nDigits q.den + 2 := by
  show (ratL q).length ≤ _
  unfold ratL
  have h1 := itoa_len_le q.num
  by_cases h : q.den = 1
  · rw [if_pos h]; omega
  · rw [if_neg h, List.length_append, List.length_cons, decDigits_length]; omega
theorem split_any (q : Rat) (hq : Dg 4096 q) (w : World) (ht : TabT w) :
    Calls Tryz.prog 68 #[.string (ratS q)] w fun e w' => e = .returned (.tuple #[.string (intS q.num), .string (natS q.den)]) ∧ Below w.heap.size w w' := by
  obtain ⟨m, hm⟩ := ht.max
  have hc := Tryz.strings_Cut (ratS q) ⟨#[47]⟩ m w (by have := ratS_size q; have := hq.1; have := hq.2; omega) hm
  have e1 : (ratS q).data.toList = ratL q := rfl
  have e2 : (⟨#[47]⟩ : ByteArray).data.toList = [47] := rfl
  rw [e1, e2] at hc
  unfold ratL at hc
  by_cases h : q.den = 1
  · rw [if_pos h, cut_none (no47_int _)] at hc
    have HC : Hid (Calls Tryz.prog 112 #[.string (ratS q), .string ⟨#[47]⟩] w fun e w' => e = .returned (.tuple #[.string (intS q.num), .string ⟨#[]⟩, .bool false]) ∧ ∃ n, w' = w.drewN n) := Lib.hid hc
    rw [h, natS_one]
    generalize ratS q = S at HC ⊢
    generalize intS q.num = P at HC ⊢
    clear hc e1 h hq hm ht
    go_enter Tryz.func68, Tryz.ntmps68
    go_wp2_with (go_at_call 112; (with_reducible refine HC.out.mono ?_); rintro e w1 ⟨rfl, n, rfl⟩)
    go_ret2
    exact ⟨rfl, bel_drewN (Below.refl _ _) _⟩
  · rw [if_neg h, cut_some (no47_int _)] at hc
    have HC : Hid (Calls Tryz.prog 112 #[.string (ratS q), .string ⟨#[47]⟩] w fun e w' => e = .returned (.tuple #[.string (intS q.num), .string (natS q.den), .bool true]) ∧ ∃ n, w' = w.drewN n) := Lib.hid hc
    generalize ratS q = S at HC ⊢
    generalize intS q.num = P at HC ⊢
    generalize natS q.den = Q at HC ⊢
    clear hc e1 h hq hm ht
    go_enter Tryz.func68, Tryz.ntmps68
    go_wp2_with (go_at_call 112; (with_reducible refine HC.out.mono ?_); rintro e w1 ⟨rfl, n, rfl⟩)
    go_ret2
    exact ⟨rfl, bel_drewN (Below.refl _ _) _⟩
theorem digits_any (z : Int) (w : World) :
    Calls Tryz.prog 70 #[.string (intS z)] w fun e w' => e = .returned (.int .i64 (nDigits z.natAbs)) ∧ w = w' := by
  have HC := Lib.hid (fun w => trim45_any z w)
  have hz : (natS z.natAbs).size = nDigits z.natAbs := natS_size _
  rw [← hz]
  generalize intS z = S at HC ⊢
  generalize natS z.natAbs = D at HC ⊢
  clear hz
  go_enter Tryz.func70, Tryz.ntmps70
  go_wp2_with (go_at_call 74; (with_reducible refine (HC.out _).mono ?_); rintro e w1 ⟨rfl, rfl⟩)
  go_ret
  exact ⟨rfl, rfl⟩
theorem intS_is (z : Int) (m : Nat) (hm : m < 10) : ((intS z).toList == [UInt8.ofNat (48 + m)]) = decide (z = m) := by
  rw [toList_data, Bool.eq_iff_iff, beq_iff_eq, decide_eq_true_eq]
  have e : (intS z).data.toList = itoa z := rfl
  rw [e, ← dec_small hm]
  by_cases h : z < 0
  · rw [itoa_neg h]
    obtain ⟨c, r, h1, h2⟩ := dec_no45 m
    rw [h1]
    constructor
    · intro h3; injection h3 with h3; exact absurd h3.symm h2
    · intro h3; omega
  · rw [itoa_nn h]
    exact ⟨fun h3 => by have := dec_inj h3; omega, fun h3 => by rw [show z.natAbs = m by omega]⟩
set_option maxHeartbeats 1000000 in
theorem rright_any (q : Rat) (hq : Dg 4096 q) (w : World) (ht : TabT w) :
    Calls Tryz.prog 34 #[.string (ratS q)] w fun e w' => e = .returned (.bool true) ∧ Below w.heap.size w w' := by
  have HS := Lib.hid (split_any q hq w ht)
  have HW := Lib.hid (fun w => wright_any q.num (by have := hq.1; omega) w)
  have HN := Lib.hid (fun w => right_any q.den (by have := hq.2; omega) w)
  have HD1 := Lib.hid (fun w => digits_any q.num w)
  have HD2 := Lib.hid (fun w => digits_any (q.den : Int) w)
  have HT := Lib.hid (fun w => trim45_any q.num w)
  rw [intS_nat, Int.natAbs_natCast] at HD2
  have HG : Hid (∀ w', Below w.heap.size w w' → Calls Tryz.prog 73 #[.string (natS q.num.natAbs), .string (natS q.den)] w' (StrOut w' 1)) := Lib.hid (fun w' hb => by
    have h := gcd_any q.num.natAbs q.den hq.1 hq.2 w' (ht.below hb)
    rw [show Nat.gcd q.num.natAbs q.den = 1 from q.reduced] at h
    exact h)
  have HI := Lib.hid (fun w => Tryz.strings_Contains_one (ratS q) 47 w)
  have e1 : (ratS q).data.toList = ratL q := rfl
  rw [e1] at HI
  have hn1 := hq.1
  have hn2 := hq.2
  have d0 : ((natS q.den).toList == [48]) = decide (q.den = 0) := natS_is _ 0 (by decide)
  have d1 : ((natS q.den).toList == [49]) = decide (q.den = 1) := natS_is _ 1 (by decide)
  have p0 : ((intS q.num).toList == [48]) = decide (q.num = 0) := intS_is _ 0 (by decide)
  rw [decide_eq_false q.den_nz] at d0
  unfold StrOut at HG
  rw [natS_one] at HG
  unfold ratL at HI
  by_cases h : q.den = 1
  · rw [if_pos h, ixb_none (no47_int _)] at HI
    have HI : Hid (∀ w, Calls Tryz.prog 71 #[.string (ratS q), .string ⟨#[47]⟩] w fun e w' => e = .returned (.bool false) ∧ w' = w) := Lib.hid HI.out
    generalize ratS q = S at HS HI ⊢
    generalize intS q.num = P at HS HW HD1 HT p0
    generalize natS q.den = Q at HS HN HD2 HG d0 d1
    generalize nDigits q.num.natAbs = n1 at HD1 hn1
    generalize nDigits q.den = n2 at HD2 hn2
    clear h hq ht e1 p0 d0 d1 HG HT HN
    go_enter Tryz.func34, Tryz.ntmps34
    go_wp2_with (first | (go_at_call 68; (with_reducible refine HS.out.mono ?_); rintro e w1 ⟨rfl, hb1⟩) | (go_at_call 69; (with_reducible refine (HW.out _).mono ?_); rintro e w2 ⟨rfl, rfl⟩) | (go_at_call 70; (with_reducible refine (HD1.out _).mono ?_); rintro e w2 ⟨rfl, rfl⟩) | (go_at_call 70; (with_reducible refine (HD2.out _).mono ?_); rintro e w2 ⟨rfl, rfl⟩) | (go_at_call 71; (with_reducible refine (HI.out _).mono ?_); rintro e w2 ⟨rfl, rfl⟩))
    go_ret
    exact ⟨rfl, hb1⟩
  · rw [if_neg h, ixb_some (no47_int _)] at HI
    rw [decide_eq_false h] at d1
    have hp : q.num ≠ 0 := fun e => h (by have := q.reduced; rw [e] at this; simpa using this)
    rw [decide_eq_false hp] at p0
    have HI : Hid (∀ w, Calls Tryz.prog 71 #[.string (ratS q), .string ⟨#[47]⟩] w fun e w' => e = .returned (.bool true) ∧ w' = w) := Lib.hid (fun w => by
      have h := HI.out w
      rw [decide_eq_true (by omega)] at h
      exact h)
    generalize ratS q = S at HS HI ⊢
    generalize intS q.num = P at HS HW HD1 HT p0
    generalize natS q.den = Q at HS HN HD2 HG d0 d1
    generalize natS q.num.natAbs = D at HG HT
    generalize nDigits q.num.natAbs = n1 at HD1 hn1
    generalize nDigits q.den = n2 at HD2 hn2
    clear h hq ht e1 hp
    go_enter Tryz.func34, Tryz.ntmps34
    go_wp2_with (first | (go_at_call 68; (with_reducible refine HS.out.mono ?_); rintro e w1 ⟨rfl, hb1⟩) | (go_at_call 69; (with_reducible refine (HW.out _).mono ?_); rintro e w2 ⟨rfl, rfl⟩) | (go_at_call 70; (with_reducible refine (HD1.out _).mono ?_); rintro e w2 ⟨rfl, rfl⟩) | (go_at_call 70; (with_reducible refine (HD2.out _).mono ?_); rintro e w2 ⟨rfl, rfl⟩) | (go_at_call 71; (with_reducible refine (HI.out _).mono ?_); rintro e w2 ⟨rfl, rfl⟩) | (go_at_call 72; (with_reducible refine (HN.out _).mono ?_); rintro e w2 ⟨rfl, rfl⟩) | (go_at_call 74; (with_reducible refine (HT.out _).mono ?_); rintro e w2 ⟨rfl, rfl⟩) | (go_at_call 73; (with_reducible refine (HG.out _ hb1).mono ?_); rintro e w3 ⟨rfl, hb3⟩))
    go_ret
    exact ⟨rfl, hb1.trans (hb3.mono hb1.size)⟩
/-! lowest. -/
theorem cat_rat {q : Rat} (h : q.den ≠ 1) : intS q.num ++ (⟨#[47]⟩ : ByteArray) ++ natS q.den = ratS q := by
  unfold ratS ratL intS natS
  rw [if_neg h]
  apply ByteArray.ext
  apply Array.toList_inj.1
  simp
theorem one_rat {q : Rat} (h : q.den = 1) : intS q.num = ratS q := by
  unfold ratS ratL intS
  rw [if_pos h]
/-- A rational number's text handed back, without an error. -/
def RatOut (w : World) (q : Rat) (e : Ending) (w' : World) : Prop := e = .returned (.tuple #[.string (ratS q), .int .i64 0]) ∧ Below w.heap.size w w'
set_option maxHeartbeats 1000000 in
theorem lowest_any (p : Int) (n : Nat) (hn : 0 < n) (hp : nDigits p.natAbs ≤ 4095) (hq : nDigits n ≤ 4095) (w : World) (ht : TabT w) :
    Calls Tryz.prog 102 #[.string (intS p), .string (natS n)] w (RatOut w (mkRat p n)) := by
  obtain ⟨g, hg⟩ : ∃ g, Nat.gcd p.natAbs n = g := ⟨_, rfl⟩
  have hg0 : 0 < g := by rw [← hg]; exact Nat.gcd_pos_of_pos_right _ hn
  have hgd : nDigits g ≤ 4096 := by
    have h1 : g ≤ n := by rw [← hg]; exact Nat.gcd_le_right _ hn
    exact Nat.le_trans (nDigits_mono h1) (by omega)
  have enum : (mkRat p n).num = p / (g : Int) := by
    rw [Rat.num_mkRat, if_neg (by omega), Nat.gcd_comm, hg]
  have eden : (mkRat p n).den = n / g := by
    rw [Rat.den_mkRat, if_neg (by omega), Nat.gcd_comm, hg]
  have HT := Lib.hid (fun w => trim45_any p w)
  have HG : Hid (∀ w', Below w.heap.size w w' → Calls Tryz.prog 73 #[.string (natS p.natAbs), .string (natS n)] w' (StrOut w' g)) := Lib.hid (fun w' hb => by
    have h := gcd_any p.natAbs n (by omega) (by omega) w' (ht.below hb)
    rw [hg] at h
    exact h)
  have HD1 : Hid (∀ w', Below w.heap.size w w' → Calls Tryz.prog 119 #[.string (intS p), .string (natS g)] w' fun e w2 => ∃ R, e = .returned (.tuple #[.string (intS (mkRat p n).num), .string R, .int .i64 0]) ∧ Below w'.heap.size w' w2) := Lib.hid (fun w' hb => (wdiv_any p g hg0 hp hgd w' (ht.below hb)).mono (by rintro e w2 ⟨rfl, h⟩; rw [← enum]; exact ⟨_, rfl, h⟩))
  have HD2 : Hid (∀ w', Below w.heap.size w w' → Calls Tryz.prog 119 #[.string (natS n), .string (natS g)] w' fun e w2 => ∃ R, e = .returned (.tuple #[.string (natS (mkRat p n).den), .string R, .int .i64 0]) ∧ Below w'.heap.size w' w2) := Lib.hid (fun w' hb => by
    have h := wdiv_any (n : Int) g hg0 (by rw [Int.natAbs_natCast]; exact hq) hgd w' (ht.below hb)
    rw [intS_nat, show ((n : Int) / (g : Int)) = ((n / g : Nat) : Int) from rfl, intS_nat] at h
    exact h.mono (by rintro e w2 ⟨rfl, h⟩; rw [eden]; exact ⟨_, rfl, h⟩))
  have d1 : ((natS (mkRat p n).den).toList == [49]) = decide ((mkRat p n).den = 1) := natS_is _ 1 (by decide)
  have hs1 : (intS (mkRat p n).num).size ≤ 10000 := by
    have h1 := itoa_len_le (mkRat p n).num
    have h2 : nDigits (mkRat p n).num.natAbs ≤ 4095 := by
      rw [enum]
      refine Nat.le_trans (nDigits_mono ?_) hp
      rw [Int.natAbs_ediv_of_dvd (by rw [← hg]; exact Int.ofNat_dvd_left.2 (Nat.gcd_dvd_left _ _))]
      exact Nat.div_le_self _ _
    show (itoa _).length ≤ _
    omega
  have hs2 : (natS (mkRat p n).den).size ≤ 10000 := by
    rw [natS_size, eden]
    exact Nat.le_trans (nDigits_mono (Nat.div_le_self _ _)) (by omega)
  unfold StrOut at HG
  unfold RatOut
  by_cases h1 : (mkRat p n).den = 1
  · rw [← one_rat h1]
    rw [decide_eq_true h1] at d1
    generalize intS (mkRat p n).num = X at HD1 ⊢
    generalize natS (mkRat p n).den = Y at HD2 d1
    generalize intS p = P at HT HD1 ⊢
    generalize natS p.natAbs = D at HT HG
    generalize natS n = Q at HG HD2 ⊢
    generalize natS g = G at HG HD1 HD2
    clear hg enum eden h1 hp hq ht hgd hs1 hs2
    go_enter Tryz.func102, Tryz.ntmps102
    go_wp2_with (first | (go_at_call 74; (with_reducible refine (HT.out _).mono ?_); rintro e w2 ⟨rfl, rfl⟩) | (go_at_call 73; (with_reducible refine (HG.out _ (Below.refl _ _)).mono ?_); rintro e w3 ⟨rfl, hb3⟩) | (go_at_call 119; (with_reducible refine (HD1.out _ hb3).mono ?_); rintro e w4 ⟨R1, rfl, hb4⟩; have hbl4 := hb3.trans (hb4.mono hb3.size)) | (go_at_call 119; (with_reducible refine (HD2.out _ hbl4).mono ?_); rintro e w5 ⟨R2, rfl, hb5⟩; have hbl5 := hbl4.trans (hb5.mono hbl4.size)))
    go_ret2
    exact ⟨rfl, hbl5⟩
  · rw [← cat_rat h1]
    rw [decide_eq_false h1] at d1
    generalize intS (mkRat p n).num = X at HD1 hs1 ⊢
    generalize natS (mkRat p n).den = Y at HD2 d1 hs2 ⊢
    generalize intS p = P at HT HD1 ⊢
    generalize natS p.natAbs = D at HT HG
    generalize natS n = Q at HG HD2 ⊢
    generalize natS g = G at HG HD1 HD2
    clear hg enum eden h1 hp hq ht hgd
    go_enter Tryz.func102, Tryz.ntmps102
    go_wp2_with (first | (go_at_call 74; (with_reducible refine (HT.out _).mono ?_); rintro e w2 ⟨rfl, rfl⟩) | (go_at_call 73; (with_reducible refine (HG.out _ (Below.refl _ _)).mono ?_); rintro e w3 ⟨rfl, hb3⟩) | (go_at_call 119; (with_reducible refine (HD1.out _ hb3).mono ?_); rintro e w4 ⟨R1, rfl, hb4⟩; have hbl4 := hb3.trans (hb4.mono hb3.size)) | (go_at_call 119; (with_reducible refine (HD2.out _ hbl4).mono ?_); rintro e w5 ⟨R2, rfl, hb5⟩; have hbl5 := hbl4.trans (hb5.mono hbl4.size)))
    go_ret2
    exact ⟨rfl, hbl5⟩
end Go.Proofs.YthcmopgdjibojaaGreatDoor.rat

/- ratio: quotient, two, products. -/
namespace Go.Proofs.YthcmopgdjibojaaGreatDoor.rat
open Go.RowKit
open Go.Lib (decDigits nDigits itoa decDigits_length nDigits_pos)
open Go.Proofs.YthcmopgdjibojaaGreatDoor.lib Go.Proofs.YthcmopgdjibojaaGreatDoor.app Go.Proofs.YthcmopgdjibojaaGreatDoor.nt Go.Proofs.YthcmopgdjibojaaGreatDoor.rd Go.Proofs.YthcmopgdjibojaaGreatDoor.wh
set_option linter.unusedVariables false
set_option linter.unusedSimpArgs false

theorem digits_mul (a b : Nat) : nDigits (a * b) ≤ nDigits a + nDigits b := by
  refine nDigits_le (by have := nDigits_pos a; omega) ?_
  have h1 := Go.Lib.lt_pow_nDigits a
  have h2 := Go.Lib.lt_pow_nDigits b
  rw [Nat.pow_add]
  exact Nat.mul_lt_mul'' h1 h2
theorem digits_add {a b k : Nat} (ha : nDigits a ≤ k) (hb : nDigits b ≤ k) : nDigits (a + b) ≤ k + 1 := by
  refine nDigits_le (by omega) ?_
  have h1 := Go.Lib.lt_pow_nDigits a
  have h2 := Go.Lib.lt_pow_nDigits b
  have h3 : 10 ^ nDigits a ≤ 10 ^ k := Nat.pow_le_pow_right (by decide) ha
  have h4 : 10 ^ nDigits b ≤ 10 ^ k := Nat.pow_le_pow_right (by decide) hb
  rw [Nat.pow_succ]
  omega
set_option maxHeartbeats 1000000 in
theorem rtwo_any (a b : Rat) (ha : Dg 4096 a) (hb : Dg 4096 b) (w : World) (ht : TabT w) :
    Calls Tryz.prog 100 #[.string (ratS a), .string (ratS b)] w fun e w' => e = .returned (.tuple #[.string (intS a.num), .string (natS a.den), .string (intS b.num), .string (natS b.den), .int .i64 0]) ∧ Below w.heap.size w w' := by
  have HA : Hid (∀ w', Below w.heap.size w w' → Calls Tryz.prog 34 #[.string (ratS a)] w' fun e w2 => e = .returned (.bool true) ∧ Below w'.heap.size w' w2) := Lib.hid (fun w' h => rright_any a ha w' (ht.below h))
  have HB : Hid (∀ w', Below w.heap.size w w' → Calls Tryz.prog 34 #[.string (ratS b)] w' fun e w2 => e = .returned (.bool true) ∧ Below w'.heap.size w' w2) := Lib.hid (fun w' h => rright_any b hb w' (ht.below h))
  have HSA : Hid (∀ w', Below w.heap.size w w' → Calls Tryz.prog 68 #[.string (ratS a)] w' fun e w2 => e = .returned (.tuple #[.string (intS a.num), .string (natS a.den)]) ∧ Below w'.heap.size w' w2) := Lib.hid (fun w' h => split_any a ha w' (ht.below h))
  have HSB : Hid (∀ w', Below w.heap.size w w' → Calls Tryz.prog 68 #[.string (ratS b)] w' fun e w2 => e = .returned (.tuple #[.string (intS b.num), .string (natS b.den)]) ∧ Below w'.heap.size w' w2) := Lib.hid (fun w' h => split_any b hb w' (ht.below h))
  generalize ratS a = S at HA HSA ⊢
  generalize ratS b = T at HB HSB ⊢
  generalize intS a.num = P at HSA ⊢
  generalize natS a.den = Q at HSA ⊢
  generalize intS b.num = R at HSB ⊢
  generalize natS b.den = U at HSB ⊢
  clear ha hb ht
  go_enter Tryz.func100, Tryz.ntmps100
  go_wp2_with (first | (go_at_call 34; (with_reducible refine (HA.out _ (Below.refl _ _)).mono ?_); rintro e w1 ⟨rfl, hb1⟩; have hz1 := hb1.size) | (go_at_call 34; (with_reducible refine (HB.out _ hb1).mono ?_); rintro e w2 ⟨rfl, hb2⟩; have hz2 := hb2.size; have hbl2 := hb1.trans (hb2.mono hz1)) | (go_at_call 68; (with_reducible refine (HSA.out _ hbl2).mono ?_); rintro e w3 ⟨rfl, hb3⟩; have hz3 := hb3.size; have hbl3 := hbl2.trans (hb3.mono (by omega))) | (go_at_call 68; (with_reducible refine (HSB.out _ hbl3).mono ?_); rintro e w4 ⟨rfl, hb4⟩; have hbl4 := hbl3.trans (hb4.mono (by omega))))
  refine bodyPost_ret (v := .tuple #[.string P, .string Q, .string R, .string U, .int .i64 0]) (by simp [results, Tryz.results100, go_sem]) rfl ⟨rfl, hbl4⟩

/-! products. -/
theorem str_elem : ElemOf 45 9 (.string ⟨#[]⟩) 1 16 := ⟨Tryz.underlying45, by kernel_rfl, rfl, by decide, by decide⟩
def pairCs : List (Int × Int) → List Value
  | [] => []
  | x :: l => .string (intS x.1) :: .string (intS x.2) :: pairCs l
theorem pairCs_at {l : List (Int × Int)} {k : Nat} {z : Int × Int} (h : l[k]? = some z) : (pairCs l)[k * 2]? = some (.string (intS z.1)) ∧ (pairCs l)[k * 2 + 1]? = some (.string (intS z.2)) := by
  induction l generalizing k with
  | nil => simp at h
  | cons y l ih =>
    cases k with
    | zero =>
      simp at h
      subst h
      exact ⟨rfl, rfl⟩
    | succ k =>
      have h1 := ih (k := k) (by simpa using h)
      rw [show (k + 1) * 2 = k * 2 + 1 + 1 by omega]
      simpa [pairCs] using h1
def prodS (x : Int × Int) : Value := .string (intS (x.1 * x.2))
def ProdsOut (w : World) (l : List (Int × Int)) (e : Ending) (w' : World) : Prop := ∃ g c, e = .returned (.tuple #[.slice (some ⟨g, 0, none⟩) l.length c, .int .i64 0]) ∧ g < w'.heap.size ∧ (∀ k x, l[k]? = some x → w'.cell? ⟨g, k, none⟩ = some (prodS x)) ∧ Below w.heap.size w w'
theorem make_strs {ops : Array Oper} {rest : List Oper} {o : Oper} {a : Act} {Q : Exit → Act → World → Prop} {w : World} (hg : o.guard = none) (l c : Operand) (hop : o.op = Op.makeSlice 45 l c)
    (n : Nat) (hl : a.eval l = .int .i64 0) (hc : a.eval c = .int .i64 n) (hn : n < 17592186044)
    (h : ∀ c w', w'.ownsRow w.heap.size 9 1 (.slice (some ⟨w.heap.size, 0, none⟩) 0 c) 0 [] → Below w.heap.size w w' → wpList Tryz.prog ops Q rest (a.put o.dst (.slice (some ⟨w.heap.size, 0, none⟩) 0 c)) w') :
    wpList Tryz.prog ops Q (o :: rest) a w := by
  obtain ⟨i0, hi, hz0, hz1, hz2⟩ := info_parts str_elem.info
  refine wpList_make_own w hg l c 45 hop w.heap.size 9 i0 (.string ⟨#[]⟩) 1 Tryz.underlying45 hi hz0 hz1 .i64 .i64 n n hl hc rfl (by rw [hz2]; omega) (by unfold maxLen; omega) (Nat.le_refl _) ?_
  intro w' hown hg'
  exact h n w' hown ((Below.refl _ _).grown hg' (Nat.le_refl _) (by intro k hk; cases hk))
theorem one_new' (w : World) (a : Value) (t : TypeId) (j : Nat) (u : Value) (h : [a][j]? = some u) : (w.alloc (.cells #[a] t)).cell? ((⟨w.heap.size, 0, none⟩ : Addr).add j) = some u := by
  have h := World.news_of_block (w := w.alloc (.cells #[a] t)) (B := w.heap.size) (heap_alloc_new w _) j u (by simpa using h)
  exact h
set_option maxRecDepth 20000 in
set_option maxHeartbeats 2000000 in
theorem products_any (gb : Nat) (c : Nat) (l : List (Int × Int)) (hl0 : 0 < l.length) (hl : l.length ≤ 2) (hz : ∀ x ∈ l, nDigits x.1.natAbs ≤ 4096 ∧ nDigits x.2.natAbs ≤ 4096 ∧ nDigits (x.1.natAbs * x.2.natAbs) ≤ 4096) (w : World) (ht : TabT w) (B : Nat) (hB : B ≤ w.heap.size) (hr : Reads w B 2 (some ⟨gb, 0, none⟩) l.length (pairCs l)) :
    Calls Tryz.prog 101 #[.slice (some ⟨gb, 0, none⟩) l.length c] w (ProdsOut w l) := by
  have HM : Hid (∀ (k : Nat) (x : Int × Int) (w' : World), l[k]? = some x → Below w.heap.size w w' → Calls Tryz.prog 150 #[.string (intS x.1), .string (intS x.2)] w' (IntOut w' (x.1 * x.2))) := Lib.hid (fun k x w' hk hb => by
    obtain ⟨h1, h2, h3⟩ := hz x (List.mem_of_getElem? hk)
    exact wmul_any x.1 x.2 h1 h2 h3 w' (ht.below hb))
  obtain ⟨n, hn⟩ : ∃ n, l.length = n := ⟨_, rfl⟩
  have HN := Lib.hid hn
  rw [hn] at hr hl hl0 ⊢
  clear hz hn ht
  go_enter Tryz.func101, Tryz.ntmps101
  go_wp2_with (at_make; refine make_strs rfl _ _ rfl n rfl rfl (by omega) ?_; intro c1 w1 hown1 hb1)
  go_loopw [4, 14] (fun v i wr => ∃ (k : Nat), k ≤ n ∧ i = .int .i64 k ∧ (∃ A c, v = .slice A k c) ∧ wr.ownsRow w.heap.size 9 1 v k ((l.take k).map prodS) ∧ Below w.heap.size w wr) (fun _ i _ => n - (intOf i).toNat)
  case atStart => exact ⟨0, by omega, rfl, ⟨_, _, rfl⟩, hown1, hb1⟩
  case round =>
    obtain ⟨k, hk, rfl, ⟨A1, c1, rfl⟩, hown, hbel⟩ := hrel
    have hsz := hbel.size
    by_cases hlt : k < n
    · obtain ⟨x, hxk⟩ : ∃ x, l[k]? = some x := ⟨_, List.getElem?_eq_getElem (by rw [HN.out]; exact hlt)⟩
      obtain ⟨ad, hA, hadb, hcs⟩ := (hr.below (hbel.mono hB)).2 (by omega)
      obtain ⟨p1, p2⟩ := pairCs_at hxk
      obtain rfl := Option.some.inj hA
      have d0 := hcs _ _ p1
      have d1 := hcs _ _ p2
      rw [Addr.add_mid, Nat.zero_add] at d0 d1
      have hadw : gb < wr.heap.size := Nat.lt_of_lt_of_le hadb (by omega)
      have HMX := Lib.hid (fun (w' : World) (hb : Below w.heap.size w w') => HM.out k x w' hxk hb)
      have HT : Hid ((l.take (k + 1)).map prodS = (l.take k).map prodS ++ [.string (intS (x.1 * x.2))]) := Lib.hid (by
        obtain ⟨hlt', rfl⟩ := List.getElem?_eq_some_iff.1 hxk
        rw [List.take_succ_eq_append_getElem hlt', List.map_append]
        rfl)
      unfold IntOut at HMX
      clear p1 p2 hxk hcs hA
      generalize intS (x.1 * x.2) = R at HMX HT
      generalize intS x.1 = S at HMX d0
      generalize intS x.2 = T at HMX d1
      have hal : Below w.heap.size w (wr.alloc (.cells #[.string S, .string T] 162)) := hbel.alloc hsz _
      go_wp2_with (first | (go_at_call 150; (with_reducible refine (HMX.out _ hal).mono ?_); rintro e w2 ⟨rfl, hb2⟩; have hz2 : wr.heap.size < w2.heap.size := (by have := hb2.size; simp at this; omega); have hown2 := own_below (hown.alloc (.cells #[.string S, .string T] 162)) hb2; have hbl2 := hal.trans (hb2.mono (by simp; omega))) | (at_builtin; refine wpList_app str_elem _ _ rfl w.heap.size A1 k c1 ((l.take k).map prodS) rfl (hown2.alloc _) ⟨w2.heap.size, 0, none⟩ 1 [.string R] rfl rfl (one_new' _ _ _) (by simp [Value.oneCell']) (by omega) (by simp; omega) rfl ?_; intro g3 c3 w3 hown3 hg3 hd3))
      go_roundw
      case rel => exact ⟨k + 1, by omega, by go_num, ⟨_, c3, rfl⟩, by rw [HT.out]; exact hown3, hbl2.trans (((Below.refl _ _).alloc (by omega) _).grown hg3 (by simp; omega) (fun k hk => own_base hown2 k hk))⟩
      case measure => simp [intOf]; omega
    · have hkn : k = n := by omega
      subst hkn
      have hlt' : l.take k = l := List.take_of_length_le (by rw [HN.out]; exact Nat.le_refl _)
      rw [hlt'] at hown
      obtain ⟨g, cap, hv, hg, hgl⟩ := hown.form hl0
      injection hv with hv _ hc
      subst hv
      subst hc
      have HC : Hid (∀ j x, l[j]? = some x → wr.cell? ⟨g, j, none⟩ = some (prodS x)) := Lib.hid (fun j x hj => by
        have hjl := (List.getElem?_eq_some_iff.1 hj).1
        rw [HN.out] at hjl
        rw [hown.cellAt j (by omega), List.getElem?_map, hj]
        rfl)
      clear hlt hlt'
      go_wp2
      go_ret2
      exact ⟨g, _, by rw [HN.out]; rfl, hgl, HC.out, hbel⟩
/-- Products of one pair, and of two, that the caller lays. -/
theorem prods1 (p q : Int) (hp : nDigits p.natAbs ≤ 4096) (hq : nDigits q.natAbs ≤ 4096) (hpq : nDigits (p.natAbs * q.natAbs) ≤ 4096) (w : World) (ht : TabT w) :
    Calls Tryz.prog 101 #[.slice (some ⟨w.heap.size, 0, none⟩) 1 1] (w.alloc (.cells #[.string (intS p), .string (intS q)] 162)) fun e W => ∃ g c, e = .returned (.tuple #[.slice (some ⟨g, 0, none⟩) 1 c, .int .i64 0]) ∧ W.cell? ⟨g, 0, none⟩ = some (.string (intS (p * q))) ∧ g < W.heap.size ∧ Below w.heap.size w W ∧ w.heap.size < W.heap.size := by
  have hb0 : Below w.heap.size w (w.alloc (.cells #[.string (intS p), .string (intS q)] 162)) := (Below.refl _ _).alloc (Nat.le_refl _) _
  have h := products_any w.heap.size 1 [(p, q)] (by simp) (by simp) (by intro x hx; simp at hx; subst hx; exact ⟨hp, hq, hpq⟩) _ (ht.below hb0) (w.heap.size + 1) (by simp) ⟨rfl, fun _ => ⟨_, rfl, Nat.lt_succ_self _, fun j u hu => two_new _ _ _ _ j u hu⟩⟩
  refine h.mono ?_
  rintro e W ⟨g, c, rfl, hg, hc, hb⟩
  have hz := hb.size
  exact ⟨g, c, rfl, hc 0 (p, q) rfl, hg, hb0.trans (hb.mono (by simp)), by simp at hz; omega⟩
theorem prods2 (p q r s : Int) (hp : nDigits p.natAbs ≤ 4096) (hq : nDigits q.natAbs ≤ 4096) (hpq : nDigits (p.natAbs * q.natAbs) ≤ 4096) (hr : nDigits r.natAbs ≤ 4096) (hs : nDigits s.natAbs ≤ 4096) (hrs : nDigits (r.natAbs * s.natAbs) ≤ 4096) (w : World) (ht : TabT w) :
    Calls Tryz.prog 101 #[.slice (some ⟨w.heap.size, 0, none⟩) 2 2] (w.alloc (.cells #[.string (intS p), .string (intS q), .string (intS r), .string (intS s)] 162)) fun e W => ∃ g c, e = .returned (.tuple #[.slice (some ⟨g, 0, none⟩) 2 c, .int .i64 0]) ∧ W.cell? ⟨g, 0, none⟩ = some (.string (intS (p * q))) ∧ W.cell? ⟨g, 1, none⟩ = some (.string (intS (r * s))) ∧ g < W.heap.size ∧ Below w.heap.size w W ∧ w.heap.size < W.heap.size := by
  have hb0 : Below w.heap.size w (w.alloc (.cells #[.string (intS p), .string (intS q), .string (intS r), .string (intS s)] 162)) := (Below.refl _ _).alloc (Nat.le_refl _) _
  have h := products_any w.heap.size 2 [(p, q), (r, s)] (by simp) (by simp) (by intro x hx; simp at hx; rcases hx with rfl | rfl; exact ⟨hp, hq, hpq⟩; exact ⟨hr, hs, hrs⟩) _ (ht.below hb0) (w.heap.size + 1) (by simp) ⟨rfl, fun _ => ⟨_, rfl, Nat.lt_succ_self _, fun j u hu => World.news_of_block (heap_alloc_new w _) j u hu⟩⟩
  refine h.mono ?_
  rintro e W ⟨g, c, rfl, hg, hc, hb⟩
  have hz := hb.size
  exact ⟨g, c, rfl, hc 0 (p, q) rfl, hc 1 (r, s) rfl, hg, hb0.trans (hb.mono (by simp)), by simp at hz; omega⟩
end Go.Proofs.YthcmopgdjibojaaGreatDoor.rat

/- ratio: combine, Add, Sub. -/
namespace Go.Proofs.YthcmopgdjibojaaGreatDoor.rat
open Go.RowKit
open Go.Lib (decDigits nDigits itoa decDigits_length nDigits_pos)
open Go.Proofs.YthcmopgdjibojaaGreatDoor.lib Go.Proofs.YthcmopgdjibojaaGreatDoor.app Go.Proofs.YthcmopgdjibojaaGreatDoor.nt Go.Proofs.YthcmopgdjibojaaGreatDoor.rd Go.Proofs.YthcmopgdjibojaaGreatDoor.wh
set_option linter.unusedVariables false
set_option linter.unusedSimpArgs false

theorem den_abs (n : Nat) : ((n : Int)).natAbs = n := Int.natAbs_natCast n
set_option maxHeartbeats 2000000 in
theorem combine_add (a b : Rat) (ha : Dg 2000 a) (hb : Dg 2000 b) (w : World) (ht : TabT w) :
    Calls Tryz.prog 57 #[.string (ratS a), .string (ratS b), .func (.func 58) #[] #[]] w (RatOut w (a + b)) := by
  have H2 := Lib.hid (rtwo_any a b (ha.mono (by omega)) (hb.mono (by omega)) w ht)
  have a1 := ha.1
  have a2 := ha.2
  have b1 := hb.1
  have b2 := hb.2
  have m1 : nDigits (a.num.natAbs * b.den) ≤ 4000 := Nat.le_trans (digits_mul _ _) (by omega)
  have m2 : nDigits (b.num.natAbs * a.den) ≤ 4000 := Nat.le_trans (digits_mul _ _) (by omega)
  have m3 : nDigits (a.den * b.den) ≤ 4000 := Nat.le_trans (digits_mul _ _) (by omega)
  have HPR : Hid (∀ w', Below w.heap.size w w' → Calls Tryz.prog 101 #[.slice (some ⟨w'.heap.size, 0, none⟩) 2 2] (w'.alloc (.cells #[.string (intS a.num), .string (natS b.den), .string (intS b.num), .string (natS a.den)] 162)) fun e W => ∃ g c, e = .returned (.tuple #[.slice (some ⟨g, 0, none⟩) 2 c, .int .i64 0]) ∧ W.cell? ⟨g, 0, none⟩ = some (.string (intS (a.num * b.den))) ∧ W.cell? ⟨g, 1, none⟩ = some (.string (intS (b.num * a.den))) ∧ g < W.heap.size ∧ Below w'.heap.size w' W ∧ w'.heap.size < W.heap.size) := Lib.hid (fun w' h => by
    have h := prods2 a.num b.den b.num a.den (by omega) (by rw [den_abs]; omega) (by rw [den_abs]; omega) (by omega) (by rw [den_abs]; omega) (by rw [den_abs]; omega) w' (ht.below h)
    rw [intS_nat, intS_nat] at h
    exact h)
  have HP1 : Hid (∀ w', Below w.heap.size w w' → Calls Tryz.prog 101 #[.slice (some ⟨w'.heap.size, 0, none⟩) 1 1] (w'.alloc (.cells #[.string (natS a.den), .string (natS b.den)] 162)) fun e W => ∃ g c, e = .returned (.tuple #[.slice (some ⟨g, 0, none⟩) 1 c, .int .i64 0]) ∧ W.cell? ⟨g, 0, none⟩ = some (.string (natS (a.den * b.den))) ∧ g < W.heap.size ∧ Below w'.heap.size w' W ∧ w'.heap.size < W.heap.size) := Lib.hid (fun w' h => by
    have h := prods1 a.den b.den (by rw [den_abs]; omega) (by rw [den_abs]; omega) (by rw [den_abs, den_abs]; omega) w' (ht.below h)
    rw [intS_nat, intS_nat, show (a.den : Int) * (b.den : Int) = ((a.den * b.den : Nat) : Int) from rfl, intS_nat] at h
    exact h)
  have n1 : nDigits (a.num * b.den).natAbs ≤ 4000 := by rw [Int.natAbs_mul, den_abs]; exact m1
  have n2 : nDigits (b.num * a.den).natAbs ≤ 4000 := by rw [Int.natAbs_mul, den_abs]; exact m2
  have n3 : nDigits ((a.num * b.den).natAbs + (b.num * a.den).natAbs) ≤ 4001 := digits_add n1 n2
  have HWO : Hid (∀ w', Below w.heap.size w w' → Calls Tryz.prog 58 #[.string (intS (a.num * b.den)), .string (intS (b.num * a.den))] w' (IntOut w' (a.num * b.den + b.num * a.den))) := Lib.hid (fun w' h => wadd_any _ _ (by omega) (by omega) (by omega) w' (ht.below h))
  have HLO : Hid (∀ w', Below w.heap.size w w' → Calls Tryz.prog 102 #[.string (intS (a.num * b.den + b.num * a.den)), .string (natS (a.den * b.den))] w' (RatOut w' (a + b))) := Lib.hid (fun w' h => by
    rw [Rat.add_def']
    exact lowest_any _ _ (Nat.mul_pos a.den_pos b.den_pos) (Nat.le_trans (nDigits_mono (by omega)) (show nDigits ((a.num * b.den).natAbs + (b.num * a.den).natAbs) ≤ 4095 by omega)) (by omega) w' (ht.below h))
  unfold RatOut at HLO ⊢
  unfold IntOut at HWO
  generalize ratS a = S at H2 ⊢
  generalize ratS b = T at H2 ⊢
  generalize ratS (a + b) = Z at HLO ⊢
  generalize intS (a.num * b.den + b.num * a.den) = X at HWO HLO
  generalize intS (a.num * b.den) = X1 at HPR HWO
  generalize intS (b.num * a.den) = X2 at HPR HWO
  generalize natS (a.den * b.den) = X3 at HP1 HLO
  generalize intS a.num = P at H2 HPR
  generalize natS a.den = Q at H2 HPR HP1
  generalize intS b.num = R at H2 HPR
  generalize natS b.den = U at H2 HPR HP1
  clear ha hb ht a1 a2 b1 b2 m1 m2 m3 n1 n2 n3
  go_enter Tryz.func57, Tryz.ntmps57
  go_wp2_with (first | (go_at_call 100; (with_reducible refine H2.out.mono ?_); rintro e w1 ⟨rfl, hb1⟩; have hz1 := hb1.size) | (go_at_call 101; (with_reducible refine (HPR.out _ hb1).mono ?_); rintro e w2 ⟨g, c, rfl, c0, c1, hg, hb2, hz2⟩; have hbl2 := hb1.trans (hb2.mono hz1)))
  (refine wp_region_held_drew (S := (fun w' => w'.cell? ⟨g, 0, none⟩ = some (.string X1) ∧ w'.cell? ⟨g, 1, none⟩ = some (.string X2))) (by kernel_rfl) ?_ (fun hHeld => ?_))
  · exact ⟨c0, c1⟩
  (refine wpAnyH_take (i := 0) (v := ?_) rfl (by kernel_rfl) (by kernel_rfl) (by kernel_rfl) (fun _ _ _ h => h) (Or.inl ⟨by kernel_rfl, ?_⟩) (by assumption) ?_; rotate_left; (focus (intro w hSw; (try dsimp only at hSw); go_simp; all_goals with_reducible rfl)); (try simp only [Act.put, List.getElem_toArray, List.getElem_cons_succ, List.getElem_cons_zero, List.setIfInBounds_toArray, List.set_cons_zero, List.set_cons_succ]))
  (refine wpAnyH_take (i := 1) (v := ?_) rfl (by kernel_rfl) (by kernel_rfl) (by kernel_rfl) (fun _ _ _ h => h) (Or.inl ⟨by kernel_rfl, ?_⟩) (by assumption) ?_; rotate_left; (focus (intro w hSw; (try dsimp only at hSw); go_simp; all_goals with_reducible rfl)); (try simp only [Act.put, List.getElem_toArray, List.getElem_cons_succ, List.getElem_cons_zero, List.setIfInBounds_toArray, List.set_cons_zero, List.set_cons_succ]))
  (refine wpAnyH_take (i := 2) (v := ?_) rfl (by kernel_rfl) (by kernel_rfl) (by kernel_rfl) (fun _ _ _ h => h) (Or.inl ⟨by kernel_rfl, ?_⟩) (by assumption) ?_; rotate_left; (focus (intro w hSw; (try dsimp only at hSw); go_simp; all_goals with_reducible rfl)); (try simp only [Act.put, List.getElem_toArray, List.getElem_cons_succ, List.getElem_cons_zero, List.setIfInBounds_toArray, List.set_cons_zero, List.set_cons_succ]))
  (refine wpAnyH_take (i := 3) (v := ?_) rfl (by kernel_rfl) (by kernel_rfl) (by kernel_rfl) (fun _ _ _ h => h) (Or.inl ⟨by kernel_rfl, ?_⟩) (by assumption) ?_; rotate_left; (focus (intro w hSw; (try dsimp only at hSw); go_simp; all_goals with_reducible rfl)); (try simp only [Act.put, List.getElem_toArray, List.getElem_cons_succ, List.getElem_cons_zero, List.setIfInBounds_toArray, List.set_cons_zero, List.set_cons_succ]))
  (refine wpAnyH_take (i := 4) (v := ?_) rfl (by kernel_rfl) (by kernel_rfl) (by kernel_rfl) (fun _ _ _ h => h) (Or.inl ⟨by kernel_rfl, ?_⟩) (by assumption) ?_; rotate_left; (focus (intro w hSw; (try dsimp only at hSw); go_simp; all_goals with_reducible rfl)); (try simp only [Act.put, List.getElem_toArray, List.getElem_cons_succ, List.getElem_cons_zero, List.setIfInBounds_toArray, List.set_cons_zero, List.set_cons_succ]))
  (refine wpAnyH_take (i := 5) (v := ?_) rfl (by kernel_rfl) (by kernel_rfl) (by kernel_rfl) (fun _ _ _ h => h) (Or.inl ⟨by kernel_rfl, ?_⟩) (by assumption) ?_; rotate_left; (focus (intro w hSw; (try dsimp only at hSw); go_simp; all_goals with_reducible rfl)); (try simp only [Act.put, List.getElem_toArray, List.getElem_cons_succ, List.getElem_cons_zero, List.setIfInBounds_toArray, List.set_cons_zero, List.set_cons_succ]))
  (refine wpAnyH_take (i := 6) (v := ?_) rfl (by kernel_rfl) (by kernel_rfl) (by kernel_rfl) (fun _ _ _ h => h) (Or.inl ⟨by kernel_rfl, ?_⟩) (by assumption) ?_; rotate_left; (focus (intro w hSw; (try dsimp only at hSw); go_simp; all_goals with_reducible rfl)); (try simp only [Act.put, List.getElem_toArray, List.getElem_cons_succ, List.getElem_cons_zero, List.setIfInBounds_toArray, List.set_cons_zero, List.set_cons_succ]))
  (refine wpAnyH_ready (rs := [7]) (by kernel_rfl) (by simp) ?_; refine AllReadyH.cons rfl (fun K hK => ?_) AllReadyH.nil; go_simp)
  go_at_call 58
  refine (HWO.out _ hbl2.drew).mono ?_
  rintro e w3 ⟨rfl, hb3⟩
  have k (o : Nat) : w3.cell? ⟨g, o, none⟩ = w2.cell? ⟨g, o, none⟩ := hb3.cell (p := ⟨g, o, none⟩) hg
  have hbl3 : Below w.heap.size w w3 := hbl2.drew.trans (hb3.mono hbl2.size)
  (refine hK.out _ _ ?_ (fun hHeld => ?_))
  · exact ⟨(k _).trans c0, (k _).trans c1⟩
  clear hK K k c0 c1
  (try simp only [Act.put, List.getElem_toArray, List.getElem_cons_succ, List.getElem_cons_zero, List.setIfInBounds_toArray, List.set_cons_zero, List.set_cons_succ])
  (refine wpAnyH_take (i := 8) (v := ?_) rfl (by kernel_rfl) (by kernel_rfl) (by kernel_rfl) (fun _ _ _ h => h) (Or.inl ⟨by kernel_rfl, ?_⟩) (by assumption) ?_; rotate_left; (focus (intro w hSw; (try dsimp only at hSw); go_simp; all_goals with_reducible rfl)); (try simp only [Act.put, List.getElem_toArray, List.getElem_cons_succ, List.getElem_cons_zero, List.setIfInBounds_toArray, List.set_cons_zero, List.set_cons_succ]))
  (refine wpAnyH_take (i := 9) (v := ?_) rfl (by kernel_rfl) (by kernel_rfl) (by kernel_rfl) (fun _ _ _ h => h) (Or.inl ⟨by kernel_rfl, ?_⟩) (by assumption) ?_; rotate_left; (focus (intro w hSw; (try dsimp only at hSw); go_simp; all_goals with_reducible rfl)); (try simp only [Act.put, List.getElem_toArray, List.getElem_cons_succ, List.getElem_cons_zero, List.setIfInBounds_toArray, List.set_cons_zero, List.set_cons_succ]))
  (refine wpAnyH_take (i := 10) (v := ?_) rfl (by kernel_rfl) (by kernel_rfl) (by kernel_rfl) (fun _ _ _ h => h) (Or.inl ⟨by kernel_rfl, ?_⟩) (by assumption) ?_; rotate_left; (focus (intro w hSw; (try dsimp only at hSw); go_simp; all_goals with_reducible rfl)); (try simp only [Act.put, List.getElem_toArray, List.getElem_cons_succ, List.getElem_cons_zero, List.setIfInBounds_toArray, List.set_cons_zero, List.set_cons_succ]))
  (refine wpAnyH_take (i := 11) (v := ?_) rfl (by kernel_rfl) (by kernel_rfl) (by kernel_rfl) (fun _ _ _ h => h) (Or.inl ⟨by kernel_rfl, ?_⟩) (by assumption) ?_; rotate_left; (focus (intro w hSw; (try dsimp only at hSw); go_simp; all_goals with_reducible rfl)); (try simp only [Act.put, List.getElem_toArray, List.getElem_cons_succ, List.getElem_cons_zero, List.setIfInBounds_toArray, List.set_cons_zero, List.set_cons_succ]))
  (refine wpAnyH_take (i := 12) (v := ?_) rfl (by kernel_rfl) (by kernel_rfl) (by kernel_rfl) (fun _ _ _ h => h) (Or.inl ⟨by kernel_rfl, ?_⟩) (by assumption) ?_; rotate_left; (focus (intro w hSw; (try dsimp only at hSw); go_simp; all_goals with_reducible rfl)); (try simp only [Act.put, List.getElem_toArray, List.getElem_cons_succ, List.getElem_cons_zero, List.setIfInBounds_toArray, List.set_cons_zero, List.set_cons_succ]))
  (refine wpAnyH_done (by kernel_rfl) ?_ _)
  clear hHeld
  go_wp2_with (first | (go_at_call 101; (with_reducible refine (HP1.out _ hbl3).mono ?_); rintro e w4 ⟨g4, c4, rfl, d0, hg4, hb4, hz4⟩; have hbl4 := hbl3.trans (hb4.mono hbl3.size)) | (go_at_call 102; (with_reducible refine (HLO.out _ hbl4).mono ?_); rintro e w5 ⟨rfl, hb5⟩; have hbl5 := hbl4.trans (hb5.mono hbl4.size)))
  go_ret2
  exact ⟨rfl, hbl5⟩

set_option maxHeartbeats 2000000 in
theorem combine_sub (a b : Rat) (ha : Dg 2000 a) (hb : Dg 2000 b) (w : World) (ht : TabT w) :
    Calls Tryz.prog 57 #[.string (ratS a), .string (ratS b), .func (.func 156) #[] #[]] w (RatOut w (a - b)) := by
  have H2 := Lib.hid (rtwo_any a b (ha.mono (by omega)) (hb.mono (by omega)) w ht)
  have a1 := ha.1
  have a2 := ha.2
  have b1 := hb.1
  have b2 := hb.2
  have m1 : nDigits (a.num.natAbs * b.den) ≤ 4000 := Nat.le_trans (digits_mul _ _) (by omega)
  have m2 : nDigits (b.num.natAbs * a.den) ≤ 4000 := Nat.le_trans (digits_mul _ _) (by omega)
  have m3 : nDigits (a.den * b.den) ≤ 4000 := Nat.le_trans (digits_mul _ _) (by omega)
  have HPR : Hid (∀ w', Below w.heap.size w w' → Calls Tryz.prog 101 #[.slice (some ⟨w'.heap.size, 0, none⟩) 2 2] (w'.alloc (.cells #[.string (intS a.num), .string (natS b.den), .string (intS b.num), .string (natS a.den)] 162)) fun e W => ∃ g c, e = .returned (.tuple #[.slice (some ⟨g, 0, none⟩) 2 c, .int .i64 0]) ∧ W.cell? ⟨g, 0, none⟩ = some (.string (intS (a.num * b.den))) ∧ W.cell? ⟨g, 1, none⟩ = some (.string (intS (b.num * a.den))) ∧ g < W.heap.size ∧ Below w'.heap.size w' W ∧ w'.heap.size < W.heap.size) := Lib.hid (fun w' h => by
    have h := prods2 a.num b.den b.num a.den (by omega) (by rw [den_abs]; omega) (by rw [den_abs]; omega) (by omega) (by rw [den_abs]; omega) (by rw [den_abs]; omega) w' (ht.below h)
    rw [intS_nat, intS_nat] at h
    exact h)
  have HP1 : Hid (∀ w', Below w.heap.size w w' → Calls Tryz.prog 101 #[.slice (some ⟨w'.heap.size, 0, none⟩) 1 1] (w'.alloc (.cells #[.string (natS a.den), .string (natS b.den)] 162)) fun e W => ∃ g c, e = .returned (.tuple #[.slice (some ⟨g, 0, none⟩) 1 c, .int .i64 0]) ∧ W.cell? ⟨g, 0, none⟩ = some (.string (natS (a.den * b.den))) ∧ g < W.heap.size ∧ Below w'.heap.size w' W ∧ w'.heap.size < W.heap.size) := Lib.hid (fun w' h => by
    have h := prods1 a.den b.den (by rw [den_abs]; omega) (by rw [den_abs]; omega) (by rw [den_abs, den_abs]; omega) w' (ht.below h)
    rw [intS_nat, intS_nat, show (a.den : Int) * (b.den : Int) = ((a.den * b.den : Nat) : Int) from rfl, intS_nat] at h
    exact h)
  have n1 : nDigits (a.num * b.den).natAbs ≤ 4000 := by rw [Int.natAbs_mul, den_abs]; exact m1
  have n2 : nDigits (b.num * a.den).natAbs ≤ 4000 := by rw [Int.natAbs_mul, den_abs]; exact m2
  have n3 : nDigits ((a.num * b.den).natAbs + (b.num * a.den).natAbs) ≤ 4001 := digits_add n1 n2
  have HWO : Hid (∀ w', Below w.heap.size w w' → Calls Tryz.prog 156 #[.string (intS (a.num * b.den)), .string (intS (b.num * a.den))] w' (IntOut w' (a.num * b.den - b.num * a.den))) := Lib.hid (fun w' h => wsub_any _ _ (by omega) (by omega) (by omega) w' (ht.below h))
  have HLO : Hid (∀ w', Below w.heap.size w w' → Calls Tryz.prog 102 #[.string (intS (a.num * b.den - b.num * a.den)), .string (natS (a.den * b.den))] w' (RatOut w' (a - b))) := Lib.hid (fun w' h => by
    rw [Rat.sub_def']
    exact lowest_any _ _ (Nat.mul_pos a.den_pos b.den_pos) (Nat.le_trans (nDigits_mono (by omega)) (show nDigits ((a.num * b.den).natAbs + (b.num * a.den).natAbs) ≤ 4095 by omega)) (by omega) w' (ht.below h))
  unfold RatOut at HLO ⊢
  unfold IntOut at HWO
  generalize ratS a = S at H2 ⊢
  generalize ratS b = T at H2 ⊢
  generalize ratS (a - b) = Z at HLO ⊢
  generalize intS (a.num * b.den - b.num * a.den) = X at HWO HLO
  generalize intS (a.num * b.den) = X1 at HPR HWO
  generalize intS (b.num * a.den) = X2 at HPR HWO
  generalize natS (a.den * b.den) = X3 at HP1 HLO
  generalize intS a.num = P at H2 HPR
  generalize natS a.den = Q at H2 HPR HP1
  generalize intS b.num = R at H2 HPR
  generalize natS b.den = U at H2 HPR HP1
  clear ha hb ht a1 a2 b1 b2 m1 m2 m3 n1 n2 n3
  go_enter Tryz.func57, Tryz.ntmps57
  go_wp2_with (first | (go_at_call 100; (with_reducible refine H2.out.mono ?_); rintro e w1 ⟨rfl, hb1⟩; have hz1 := hb1.size) | (go_at_call 101; (with_reducible refine (HPR.out _ hb1).mono ?_); rintro e w2 ⟨g, c, rfl, c0, c1, hg, hb2, hz2⟩; have hbl2 := hb1.trans (hb2.mono hz1)))
  (refine wp_region_held_drew (S := (fun w' => w'.cell? ⟨g, 0, none⟩ = some (.string X1) ∧ w'.cell? ⟨g, 1, none⟩ = some (.string X2))) (by kernel_rfl) ?_ (fun hHeld => ?_))
  · exact ⟨c0, c1⟩
  (refine wpAnyH_take (i := 0) (v := ?_) rfl (by kernel_rfl) (by kernel_rfl) (by kernel_rfl) (fun _ _ _ h => h) (Or.inl ⟨by kernel_rfl, ?_⟩) (by assumption) ?_; rotate_left; (focus (intro w hSw; (try dsimp only at hSw); go_simp; all_goals with_reducible rfl)); (try simp only [Act.put, List.getElem_toArray, List.getElem_cons_succ, List.getElem_cons_zero, List.setIfInBounds_toArray, List.set_cons_zero, List.set_cons_succ]))
  (refine wpAnyH_take (i := 1) (v := ?_) rfl (by kernel_rfl) (by kernel_rfl) (by kernel_rfl) (fun _ _ _ h => h) (Or.inl ⟨by kernel_rfl, ?_⟩) (by assumption) ?_; rotate_left; (focus (intro w hSw; (try dsimp only at hSw); go_simp; all_goals with_reducible rfl)); (try simp only [Act.put, List.getElem_toArray, List.getElem_cons_succ, List.getElem_cons_zero, List.setIfInBounds_toArray, List.set_cons_zero, List.set_cons_succ]))
  (refine wpAnyH_take (i := 2) (v := ?_) rfl (by kernel_rfl) (by kernel_rfl) (by kernel_rfl) (fun _ _ _ h => h) (Or.inl ⟨by kernel_rfl, ?_⟩) (by assumption) ?_; rotate_left; (focus (intro w hSw; (try dsimp only at hSw); go_simp; all_goals with_reducible rfl)); (try simp only [Act.put, List.getElem_toArray, List.getElem_cons_succ, List.getElem_cons_zero, List.setIfInBounds_toArray, List.set_cons_zero, List.set_cons_succ]))
  (refine wpAnyH_take (i := 3) (v := ?_) rfl (by kernel_rfl) (by kernel_rfl) (by kernel_rfl) (fun _ _ _ h => h) (Or.inl ⟨by kernel_rfl, ?_⟩) (by assumption) ?_; rotate_left; (focus (intro w hSw; (try dsimp only at hSw); go_simp; all_goals with_reducible rfl)); (try simp only [Act.put, List.getElem_toArray, List.getElem_cons_succ, List.getElem_cons_zero, List.setIfInBounds_toArray, List.set_cons_zero, List.set_cons_succ]))
  (refine wpAnyH_take (i := 4) (v := ?_) rfl (by kernel_rfl) (by kernel_rfl) (by kernel_rfl) (fun _ _ _ h => h) (Or.inl ⟨by kernel_rfl, ?_⟩) (by assumption) ?_; rotate_left; (focus (intro w hSw; (try dsimp only at hSw); go_simp; all_goals with_reducible rfl)); (try simp only [Act.put, List.getElem_toArray, List.getElem_cons_succ, List.getElem_cons_zero, List.setIfInBounds_toArray, List.set_cons_zero, List.set_cons_succ]))
  (refine wpAnyH_take (i := 5) (v := ?_) rfl (by kernel_rfl) (by kernel_rfl) (by kernel_rfl) (fun _ _ _ h => h) (Or.inl ⟨by kernel_rfl, ?_⟩) (by assumption) ?_; rotate_left; (focus (intro w hSw; (try dsimp only at hSw); go_simp; all_goals with_reducible rfl)); (try simp only [Act.put, List.getElem_toArray, List.getElem_cons_succ, List.getElem_cons_zero, List.setIfInBounds_toArray, List.set_cons_zero, List.set_cons_succ]))
  (refine wpAnyH_take (i := 6) (v := ?_) rfl (by kernel_rfl) (by kernel_rfl) (by kernel_rfl) (fun _ _ _ h => h) (Or.inl ⟨by kernel_rfl, ?_⟩) (by assumption) ?_; rotate_left; (focus (intro w hSw; (try dsimp only at hSw); go_simp; all_goals with_reducible rfl)); (try simp only [Act.put, List.getElem_toArray, List.getElem_cons_succ, List.getElem_cons_zero, List.setIfInBounds_toArray, List.set_cons_zero, List.set_cons_succ]))
  (refine wpAnyH_ready (rs := [7]) (by kernel_rfl) (by simp) ?_; refine AllReadyH.cons rfl (fun K hK => ?_) AllReadyH.nil; go_simp)
  go_at_call 156
  refine (HWO.out _ hbl2.drew).mono ?_
  rintro e w3 ⟨rfl, hb3⟩
  have k (o : Nat) : w3.cell? ⟨g, o, none⟩ = w2.cell? ⟨g, o, none⟩ := hb3.cell (p := ⟨g, o, none⟩) hg
  have hbl3 : Below w.heap.size w w3 := hbl2.drew.trans (hb3.mono hbl2.size)
  (refine hK.out _ _ ?_ (fun hHeld => ?_))
  · exact ⟨(k _).trans c0, (k _).trans c1⟩
  clear hK K k c0 c1
  (try simp only [Act.put, List.getElem_toArray, List.getElem_cons_succ, List.getElem_cons_zero, List.setIfInBounds_toArray, List.set_cons_zero, List.set_cons_succ])
  (refine wpAnyH_take (i := 8) (v := ?_) rfl (by kernel_rfl) (by kernel_rfl) (by kernel_rfl) (fun _ _ _ h => h) (Or.inl ⟨by kernel_rfl, ?_⟩) (by assumption) ?_; rotate_left; (focus (intro w hSw; (try dsimp only at hSw); go_simp; all_goals with_reducible rfl)); (try simp only [Act.put, List.getElem_toArray, List.getElem_cons_succ, List.getElem_cons_zero, List.setIfInBounds_toArray, List.set_cons_zero, List.set_cons_succ]))
  (refine wpAnyH_take (i := 9) (v := ?_) rfl (by kernel_rfl) (by kernel_rfl) (by kernel_rfl) (fun _ _ _ h => h) (Or.inl ⟨by kernel_rfl, ?_⟩) (by assumption) ?_; rotate_left; (focus (intro w hSw; (try dsimp only at hSw); go_simp; all_goals with_reducible rfl)); (try simp only [Act.put, List.getElem_toArray, List.getElem_cons_succ, List.getElem_cons_zero, List.setIfInBounds_toArray, List.set_cons_zero, List.set_cons_succ]))
  (refine wpAnyH_take (i := 10) (v := ?_) rfl (by kernel_rfl) (by kernel_rfl) (by kernel_rfl) (fun _ _ _ h => h) (Or.inl ⟨by kernel_rfl, ?_⟩) (by assumption) ?_; rotate_left; (focus (intro w hSw; (try dsimp only at hSw); go_simp; all_goals with_reducible rfl)); (try simp only [Act.put, List.getElem_toArray, List.getElem_cons_succ, List.getElem_cons_zero, List.setIfInBounds_toArray, List.set_cons_zero, List.set_cons_succ]))
  (refine wpAnyH_take (i := 11) (v := ?_) rfl (by kernel_rfl) (by kernel_rfl) (by kernel_rfl) (fun _ _ _ h => h) (Or.inl ⟨by kernel_rfl, ?_⟩) (by assumption) ?_; rotate_left; (focus (intro w hSw; (try dsimp only at hSw); go_simp; all_goals with_reducible rfl)); (try simp only [Act.put, List.getElem_toArray, List.getElem_cons_succ, List.getElem_cons_zero, List.setIfInBounds_toArray, List.set_cons_zero, List.set_cons_succ]))
  (refine wpAnyH_take (i := 12) (v := ?_) rfl (by kernel_rfl) (by kernel_rfl) (by kernel_rfl) (fun _ _ _ h => h) (Or.inl ⟨by kernel_rfl, ?_⟩) (by assumption) ?_; rotate_left; (focus (intro w hSw; (try dsimp only at hSw); go_simp; all_goals with_reducible rfl)); (try simp only [Act.put, List.getElem_toArray, List.getElem_cons_succ, List.getElem_cons_zero, List.setIfInBounds_toArray, List.set_cons_zero, List.set_cons_succ]))
  (refine wpAnyH_done (by kernel_rfl) ?_ _)
  clear hHeld
  go_wp2_with (first | (go_at_call 101; (with_reducible refine (HP1.out _ hbl3).mono ?_); rintro e w4 ⟨g4, c4, rfl, d0, hg4, hb4, hz4⟩; have hbl4 := hbl3.trans (hb4.mono hbl3.size)) | (go_at_call 102; (with_reducible refine (HLO.out _ hbl4).mono ?_); rintro e w5 ⟨rfl, hb5⟩; have hbl5 := hbl4.trans (hb5.mono hbl4.size)))
  go_ret2
  exact ⟨rfl, hbl5⟩

theorem radd_any (a b : Rat) (ha : Dg 2000 a) (hb : Dg 2000 b) (w : World) (ht : TabT w) :
    Calls Tryz.prog 19 #[.string (ratS a), .string (ratS b)] w (RatOut w (a + b)) := by
  have HC := Lib.hid (combine_add a b ha hb w ht)
  unfold RatOut at HC ⊢
  clear ha hb ht
  generalize ratS (a + b) = Z at HC ⊢
  generalize ratS a = S at HC ⊢
  generalize ratS b = T at HC ⊢
  go_enter Tryz.func19, Tryz.ntmps19
  go_wp2_with (go_at_call 57; (with_reducible refine HC.out.mono ?_); rintro e w1 ⟨rfl, hb1⟩)
  go_ret2
  exact ⟨rfl, hb1⟩

theorem rsub_any (a b : Rat) (ha : Dg 2000 a) (hb : Dg 2000 b) (w : World) (ht : TabT w) :
    Calls Tryz.prog 109 #[.string (ratS a), .string (ratS b)] w (RatOut w (a - b)) := by
  have HC := Lib.hid (combine_sub a b ha hb w ht)
  unfold RatOut at HC ⊢
  clear ha hb ht
  generalize ratS (a - b) = Z at HC ⊢
  generalize ratS a = S at HC ⊢
  generalize ratS b = T at HC ⊢
  go_enter Tryz.func109, Tryz.ntmps109
  go_wp2_with (go_at_call 57; (with_reducible refine HC.out.mono ?_); rintro e w1 ⟨rfl, hb1⟩)
  go_ret2
  exact ⟨rfl, hb1⟩
end Go.Proofs.YthcmopgdjibojaaGreatDoor.rat
