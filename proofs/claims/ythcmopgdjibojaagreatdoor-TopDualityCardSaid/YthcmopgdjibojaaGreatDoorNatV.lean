import Derived.Test.YthcmopgdjibojaaGreatDoorNatZ
import Derived.Deep.LoopGhost
/- nat: Add, Sub, Div, Gcd. -/
namespace Go.Proofs.YthcmopgdjibojaaGreatDoor.nt
open Go.RowKit
open Go.Lib (decDigits nDigits itoa decDigits_length nDigits_pos)
open Go.Proofs.YthcmopgdjibojaaGreatDoor.lib Go.Proofs.YthcmopgdjibojaaGreatDoor.app
set_option linter.unusedVariables false
set_option linter.unusedSimpArgs false

/-- A number's text handed back, without an error. -/
def StrOut (w : World) (n : Nat) (e : Ending) (w' : World) : Prop := e = .returned (.tuple #[.string (natS n), .int .i64 0]) ∧ Below w.heap.size w w'
set_option maxHeartbeats 1000000 in
theorem sub_any (a b : Nat) (hab : b ≤ a) (ha : nDigits a ≤ 4096) (w : World) (ht : TabT w) :
    Calls Tryz.prog 154 #[.string (natS a), .string (natS b)] w (StrOut w (a - b)) := by
  have hb : nDigits b ≤ 4096 := Nat.le_trans (nDigits_mono hab) ha
  have hd : nDigits (a - b) ≤ 4096 := Nat.le_trans (nDigits_mono (Nat.sub_le _ _)) ha
  have H2 := Lib.hid (two_any a b ha hb w)
  have HC : Hid (∀ (w1 : World) A1 c1 A2 c2, NumAt w1 w1.heap.size A1 c1 a → NumAt w1 w1.heap.size A2 c2 b → Calls Tryz.prog 163 #[.slice A1 (limbs a).length c1, .slice A2 (limbs b).length c2] w1 fun e w' => ∃ v : Int, e = .returned (.int .i64 v) ∧ 0 ≤ v ∧ Below w1.heap.size w1 w') := Lib.hid (fun w1 A1 c1 A2 c2 h1 h2 => (compare_any A1 c1 a A2 c2 b w1 _ _ (Nat.le_refl _) (Nat.le_refl _) h1 h2).mono fun e w' h => ⟨_, h.1, by
    rcases Nat.lt_or_eq_of_le hab with h3 | h3
    · rw [ordN_gt (by omega)]; omega
    · rw [ordN_eq (by omega)]; omega, h.2⟩)
  have HM : Hid (∀ (w1 : World) A1 c1 A2 c2, NumAt w1 w1.heap.size A1 c1 a → NumAt w1 w1.heap.size A2 c2 b → Calls Tryz.prog 165 #[.slice A1 (limbs a).length c1, .slice A2 (limbs b).length c2] w1 (NumOut w1 (a - b))) := Lib.hid (fun w1 A1 c1 A2 c2 h1 h2 => minus_any A1 c1 a A2 c2 b hab w1 _ _ (Nat.le_refl _) (Nat.le_refl _) h1 h2)
  have HR : Hid (∀ (w1 : World) A1 c1, Below w.heap.size w w1 → NumAt w1 w1.heap.size A1 c1 (a - b) → Calls Tryz.prog 117 #[.slice A1 (limbs (a - b)).length c1] w1 fun e w' => e = .returned (.tuple #[.string (natS (a - b)), .int .i64 0]) ∧ Below w1.heap.size w1 w') := Lib.hid (fun w1 A1 c1 hb h1 => result_any A1 c1 (a - b) w1 _ (Nat.le_refl _) h1 (ht.below hb) hd)
  unfold StrOut
  generalize natS (a - b) = R at HR ⊢
  generalize natS a = S at H2 ⊢
  generalize natS b = T at H2 ⊢
  clear ha hb hd hab ht
  go_enter Tryz.func154, Tryz.ntmps154
  go_wp2_with (first | (go_at_call 115; (with_reducible refine H2.out.mono ?_); rintro e w1 ⟨A1, c1, A2, c2, rfl, hn1, hn2, hb1⟩; have hz1 := hb1.size) | (go_at_call 163; (with_reducible refine (HC.out _ _ _ _ _ hn1 hn2).mono ?_); rintro e w2 ⟨v, rfl, hv, hb2⟩; have hz2 := hb2.size; have hn1' := (hn1.below hb2).more hz2; have hn2' := (hn2.below hb2).more hz2; have hbl2 := hb1.trans (hb2.mono hz1)) | (go_at_call 165; (with_reducible refine (HM.out _ _ _ _ _ hn1' hn2').mono ?_); rintro e w3 ⟨A3, c3, rfl, hn3, hh3, hb3⟩; have hbl3 := hbl2.trans (hb3.mono (by omega))) | (go_at_call 117; (with_reducible refine (HR.out _ _ _ hbl3 hn3).mono ?_); rintro e w4 ⟨rfl, hb4⟩; have hbl4 := hbl3.trans (hb4.mono (by have := hb3.size; omega))))
  go_ret2
  exact ⟨rfl, hbl4⟩

set_option maxHeartbeats 1000000 in
theorem ndiv_any (a b : Nat) (hb0 : 0 < b) (ha : nDigits a ≤ 4096) (hb : nDigits b ≤ 4096) (w : World) (ht : TabT w) :
    Calls Tryz.prog 169 #[.string (natS a), .string (natS b)] w fun e w' => e = .returned (.tuple #[.string (natS (a / b)), .string (natS (a % b)), .int .i64 0]) ∧ Below w.heap.size w w' := by
  have hq : nDigits (a / b) ≤ 1000000 := Nat.le_trans (nDigits_mono (Nat.div_le_self _ _)) (by omega)
  have hr : nDigits (a % b) ≤ 1000000 := Nat.le_trans (nDigits_mono (Nat.mod_le _ _)) (by omega)
  have la : (limbs a).length ≤ 1000000 := Nat.le_trans (limbs_le_digits a) (by omega)
  have lb : (limbs b).length ≤ 1000000 := Nat.le_trans (limbs_le_digits b) (by omega)
  have hlb : 0 < (limbs b).length := by
    rcases Nat.eq_zero_or_pos (limbs b).length with h | h
    · have := limbs_nil.1 (List.eq_nil_of_length_eq_zero h); omega
    · exact h
  have H2 := Lib.hid (two_any a b ha hb w)
  have HM : Hid (∀ (w1 : World) A1 c1 A2 c2, NumAt w1 w1.heap.size A1 c1 a → NumAt w1 w1.heap.size A2 c2 b → Calls Tryz.prog 116 #[.slice A1 (limbs a).length c1, .slice A2 (limbs b).length c2] w1 (DivOut w1 a b)) := Lib.hid (fun w1 A1 c1 A2 c2 h1 h2 => divide_any A1 c1 a A2 c2 b w1 _ _ (Nat.le_refl _) (Nat.le_refl _) h1 h2 la lb hb0)
  have HQ : Hid (∀ (w1 : World) A1 c1, Below w.heap.size w w1 → NumAt w1 w1.heap.size A1 c1 (a / b) → Calls Tryz.prog 167 #[.slice A1 (limbs (a / b)).length c1] w1 fun e w' => e = .returned (.string (natS (a / b))) ∧ Below w1.heap.size w1 w') := Lib.hid (fun w1 A1 c1 hb h1 => str_any A1 c1 (a / b) w1 _ (Nat.le_refl _) h1 (ht.below hb) hq)
  have HR : Hid (∀ (w1 : World) A1 c1, Below w.heap.size w w1 → NumAt w1 w1.heap.size A1 c1 (a % b) → Calls Tryz.prog 167 #[.slice A1 (limbs (a % b)).length c1] w1 fun e w' => e = .returned (.string (natS (a % b))) ∧ Below w1.heap.size w1 w') := Lib.hid (fun w1 A1 c1 hb h1 => str_any A1 c1 (a % b) w1 _ (Nat.le_refl _) h1 (ht.below hb) hr)
  generalize natS (a / b) = Q at HQ ⊢
  generalize natS (a % b) = R at HR ⊢
  generalize natS a = S at H2 ⊢
  generalize natS b = T at H2 ⊢
  clear ha hb hq hr ht la lb
  go_enter Tryz.func169, Tryz.ntmps169
  go_wp2_with (first | (go_at_call 115; (with_reducible refine H2.out.mono ?_); rintro e w1 ⟨A1, c1, A2, c2, rfl, hn1, hn2, hb1⟩; have hz1 := hb1.size) | (go_at_call 116; (with_reducible refine (HM.out _ _ _ _ _ hn1 hn2).mono ?_); rintro e w3 ⟨A3, c3, A4, c4, rfl, hn3, hn4, hb3⟩; have hbl3 := hb1.trans (hb3.mono (by omega)); have hz3 := hb3.size; generalize a / b = q at hn3 HQ ⊢; generalize a % b = r at hn4 HR ⊢) | (go_at_call 167; (with_reducible refine (HQ.out _ _ _ hbl3 hn3).mono ?_); rintro e w4 ⟨rfl, hb4⟩; have hz4 := hb4.size; have hbl4 := hbl3.trans (hb4.mono (by omega)); have hn4' := (hn4.below hb4).more hz4) | (go_at_call 167; (with_reducible refine (HR.out _ _ _ hbl4 hn4').mono ?_); rintro e w5 ⟨rfl, hb5⟩; have hbl5 := hbl4.trans (hb5.mono (by omega))))
  go_ret3
  exact ⟨rfl, hbl5⟩
set_option maxHeartbeats 1000000 in
theorem gcd_any (a b : Nat) (ha : nDigits a ≤ 4096) (hb : nDigits b ≤ 4096) (w : World) (ht : TabT w) :
    Calls Tryz.prog 73 #[.string (natS a), .string (natS b)] w (StrOut w (Nat.gcd a b)) := by
  have H2 := Lib.hid (two_any a b ha hb w)
  have HT : Hid (∀ w', Below w.heap.size w w' → TabT w') := Lib.hid (fun w' h => ht.below h)
  have HD := Lib.hid (And.intro ha hb)
  obtain ⟨g, hg⟩ : ∃ g, Nat.gcd a b = g := ⟨_, rfl⟩
  have HG := Lib.hid hg
  rw [hg]
  unfold StrOut
  generalize natS a = S at H2 ⊢
  generalize natS b = T at H2 ⊢
  clear ha hb ht hg
  go_enter Tryz.func73, Tryz.ntmps73
  go_wp2_with (go_at_call 115; (with_reducible refine H2.out.mono ?_); rintro e w1 ⟨A1, c1, A2, c2, rfl, hn1, hn2, hb1⟩; have hz1 := hb1.size)
  go_loopg [6, 7, 9, 10] b (fun q x y _ _ wr => ∃ (p : Nat) (A1 : Option Addr) (c1 : Nat) (A2 : Option Addr) (c2 : Nat), x = .slice A1 (limbs p).length c1 ∧ y = .slice A2 (limbs q).length c2 ∧ NumAt wr wr.heap.size A1 c1 p ∧ NumAt wr wr.heap.size A2 c2 q ∧ Hid (Nat.gcd p q = g ∧ nDigits p ≤ 4096 ∧ nDigits q ≤ 4096) ∧ Below w.heap.size w wr)
  case atStart => exact ⟨a, A1, c1, A2, c2, rfl, rfl, hn1, hn2, Lib.hid ⟨HG.out, HD.out.1, HD.out.2⟩, hb1⟩
  case round =>
    obtain ⟨p, A1, c1, A2, c2, rfl, rfl, hn1, hn2, hin, hbel⟩ := hrel
    have hz := hbel.size
    by_cases h0 : gk = 0
    · subst h0
      have HR : Hid (Calls Tryz.prog 117 #[.slice A1 (limbs p).length c1] wr fun e w' => e = .returned (.tuple #[.string (natS g), .int .i64 0]) ∧ Below wr.heap.size wr w') := Lib.hid (by
        have h1 := hin.out.1
        rw [Nat.gcd_zero_right] at h1
        rw [← h1]
        exact result_any A1 c1 p wr _ (Nat.le_refl _) hn1 (HT.out _ hbel) hin.out.2.1)
      have hl0 : (limbs 0).length = 0 := by rw [limbs_zero]; rfl
      rw [hl0]
      clear hl0
      go_wp2_with (go_at_call 117; (with_reducible refine HR.out.mono ?_); rintro e w4 ⟨rfl, hb4⟩)
      go_ret2
      exact ⟨rfl, hbel.trans (hb4.mono hz)⟩
    · have hlb : 0 < (limbs gk).length := by
        rcases Nat.eq_zero_or_pos (limbs gk).length with h | h
        · have := limbs_nil.1 (List.eq_nil_of_length_eq_zero h); omega
        · exact h
      have HM : Hid (Calls Tryz.prog 116 #[.slice A1 (limbs p).length c1, .slice A2 (limbs gk).length c2] wr (DivOut wr p gk)) := Lib.hid (divide_any A1 c1 p A2 c2 gk wr _ _ (Nat.le_refl _) (Nat.le_refl _) hn1 hn2 (Nat.le_trans (limbs_le_digits p) (by have := hin.out.2.1; omega)) (Nat.le_trans (limbs_le_digits gk) (by have := hin.out.2.2; omega)) (by omega))
      have HN : Hid (Nat.gcd gk (p % gk) = g ∧ nDigits gk ≤ 4096 ∧ nDigits (p % gk) ≤ 4096) := Lib.hid ⟨by rw [Nat.gcd_comm, ← Nat.gcd_rec, Nat.gcd_comm]; exact hin.out.1, hin.out.2.2, Nat.le_trans (nDigits_mono (Nat.mod_le _ _)) hin.out.2.1⟩
      have hmod : p % gk < gk := Nat.mod_lt _ (by omega)
      obtain ⟨m, hm⟩ : ∃ m, (limbs gk).length = m := ⟨_, rfl⟩
      have HML := Lib.hid hm
      rw [hm] at HM hlb ⊢
      clear hm
      go_wp2_with (go_at_call 116; (with_reducible refine HM.out.mono ?_); rintro e w3 ⟨A3, c3, A4, c4, rfl, hn3, hn4, hb3⟩; have hz3 := hb3.size)
      go_roundg (p % gk)
      case measure => exact hmod
      case rel => exact ⟨gk, A2, c2, A4, c4, by rw [HML.out], rfl, (hn2.below hb3).more hz3, hn4, HN, hbel.trans (hb3.mono hz)⟩
end Go.Proofs.YthcmopgdjibojaaGreatDoor.nt

/- nat: Add. -/
namespace Go.Proofs.YthcmopgdjibojaaGreatDoor.nt
open Go.RowKit
open Go.Lib (decDigits nDigits itoa decDigits_length nDigits_pos)
open Go.Proofs.YthcmopgdjibojaaGreatDoor.lib Go.Proofs.YthcmopgdjibojaaGreatDoor.app
set_option linter.unusedVariables false
set_option linter.unusedSimpArgs false

/-- Where a sum stands. -/
structure AddSt (la lb : List Int) (M k : Nat) (o : List Int) (ca : Int) : Prop where
  len : o.length = k
  lim : Lim o
  val : valL o + b9 k * ca = valL (la.take k) + valL (lb.take k)
  top : k ≤ M ∨ (k = M + 1 ∧ ca = 0 ∧ b9 M ≤ valL o)
theorem AddSt.step {la lb o : List Int} {M k : Nat} {ca d ca' : Int} (h : AddSt la lb M k o ca) (hk : k ≤ M) (hd : d + 1000000000 * ca' = la[k]?.getD 0 + lb[k]?.getD 0 + ca) (hd0 : 0 ≤ d) (hd1 : d < 1000000000) (hlast : k = M → ca' = 0 ∧ d = 1) : AddSt la lb M (k + 1) (o ++ [d]) ca' := by
  refine ⟨by rw [List.length_append, h.len]; rfl, h.lim.snoc hd0 hd1, ?_, ?_⟩
  · have hv := h.val
    rw [valL_snoc, h.len, valL_takeD, valL_takeD, b9_succ]
    have e : b9 k * (d + 1000000000 * ca') = b9 k * (la[k]?.getD 0 + lb[k]?.getD 0 + ca) := by rw [hd]
    grind
  · rcases Nat.lt_or_eq_of_le hk with h1 | h1
    · exact .inl h1
    · obtain ⟨h2, h3⟩ := hlast h1
      refine .inr ⟨by omega, h2, ?_⟩
      rw [valL_snoc, h.len, h3, ← h1]
      have := valL_nonneg h.lim
      omega
theorem AddSt.fin {a b M k : Nat} {o : List Int} (hM : M = max (limbs a).length (limbs b).length) (h : AddSt (limbs a) (limbs b) M k o 0) (hk : M ≤ k) : o = limbs (a + b) := by
  have hv := h.val
  rw [List.take_of_length_le (by omega), List.take_of_length_le (by omega), valL_limbs, valL_limbs] at hv
  have hv' : valL o = ((a + b : Nat) : Int) := by omega
  by_cases h0 : o = []
  · subst h0
    simp [valL] at hv'
    rw [show a + b = 0 by omega, limbs_zero]
  · have hge : b9 (o.length - 1) ≤ valL o := by
      rw [h.len]
      rcases h.top with h1 | ⟨h1, _, h2⟩
      · have hkM : k = M := by omega
        have hM0 : 0 < M := by
          have := h.len
          rcases Nat.eq_zero_or_pos M with h3 | h3
          · exact absurd (List.eq_nil_of_length_eq_zero (by omega)) h0
          · exact h3
        rw [hv', hkM]
        rcases Nat.le_total (limbs a).length (limbs b).length with h3 | h3
        · have hb0 : b ≠ 0 := by rintro rfl; rw [limbs_zero] at h3 hM; simp at h3; rw [h3] at hM; simp at hM; omega
          have := limbs_len_lt hb0
          rw [show M = (limbs b).length by omega]
          omega
        · have ha0 : a ≠ 0 := by rintro rfl; rw [limbs_zero] at h3 hM; simp at h3; rw [h3] at hM; simp at hM; omega
          have := limbs_len_lt ha0
          rw [show M = (limbs a).length by omega]
          omega
      · rw [show k - 1 = M by omega]; exact h2
    have := limbs_of_ge h.lim h0 hge
    rw [hv', Int.toNat_natCast] at this
    exact this.symm
set_option maxRecDepth 20000 in
set_option maxHeartbeats 2000000 in
theorem nadd_any (a b : Nat) (ha : nDigits a ≤ 4096) (hb : nDigits b ≤ 4096) (hab : nDigits (a + b) ≤ 4096) (w : World) (ht : TabT w) :
    Calls Tryz.prog 151 #[.string (natS a), .string (natS b)] w (StrOut w (a + b)) := by
  have H2 := Lib.hid (two_any a b ha hb w)
  have HR : Hid (∀ (w1 : World) A1 c1, Below w.heap.size w w1 → NumAt w1 w1.heap.size A1 c1 (a + b) → Calls Tryz.prog 117 #[.slice A1 (limbs (a + b)).length c1] w1 fun e w' => e = .returned (.tuple #[.string (natS (a + b)), .int .i64 0]) ∧ Below w1.heap.size w1 w') := Lib.hid (fun w1 A1 c1 hb h1 => result_any A1 c1 (a + b) w1 _ (Nat.le_refl _) h1 (ht.below hb) hab)
  obtain ⟨M, hM⟩ : ∃ M, max (limbs a).length (limbs b).length = M := ⟨_, rfl⟩
  have hMl : M ≤ 4096 := by have := limbs_le_digits a; have := limbs_le_digits b; omega
  obtain ⟨la, hla⟩ : ∃ la, limbs a = la := ⟨_, rfl⟩
  obtain ⟨lb, hlb⟩ : ∃ lb, limbs b = lb := ⟨_, rfl⟩
  obtain ⟨na, hna⟩ : ∃ n, la.length = n := ⟨_, rfl⟩
  obtain ⟨nb, hnb⟩ : ∃ n, lb.length = n := ⟨_, rfl⟩
  have HP := Lib.hid (And.intro hla (And.intro hlb (And.intro hna hnb)))
  have hMab : max na nb = M := by rw [← hM, hla, hlb, hna, hnb]
  have HM := Lib.hid hM
  have HL : Hid (Lim la ∧ Lim lb) := Lib.hid (by rw [← hla, ← hlb]; exact ⟨limbs_lim a, limbs_lim b⟩)
  unfold StrOut
  generalize natS (a + b) = R at HR ⊢
  generalize natS a = S at H2 ⊢
  generalize natS b = T at H2 ⊢
  clear ha hb hab ht hM hla hlb hna hnb
  go_enter Tryz.func151, Tryz.ntmps151
  go_wp2_with (go_at_call 115; (with_reducible refine H2.out.mono ?_); rintro e w1 ⟨A1, c1, A2, c2, rfl, hn1, hn2, hb1'⟩; have hz1 := hb1'.size; rw [HP.out.1, HP.out.2.2.1, HP.out.2.1, HP.out.2.2.2])
  have hA1 : Ints w1 w1.heap.size A1 la := by have := hn1.1; rwa [HP.out.1] at this
  have hA2 : Ints w1 w1.heap.size A2 lb := by have := hn2.1; rwa [HP.out.2.1] at this
  have HLA : Hid (∀ (w2 : World) (k : Nat), Below w1.heap.size w1 w2 → Calls Tryz.prog 208 #[.slice A1 na c1, .int .i64 k] w2 fun e w' => e = .returned (.int .i64 (la[k]?.getD 0)) ∧ w2 = w') := Lib.hid (fun w2 k h => by rw [← HP.out.2.2.1]; exact limb_any A1 c1 la k w2 _ (hA1.below h))
  have HLB : Hid (∀ (w2 : World) (k : Nat), Below w1.heap.size w1 w2 → Calls Tryz.prog 208 #[.slice A2 nb c2, .int .i64 k] w2 fun e w' => e = .returned (.int .i64 (lb[k]?.getD 0)) ∧ w2 = w') := Lib.hid (fun w2 k h => by rw [← HP.out.2.2.2]; exact limb_any A2 c2 lb k w2 _ (hA2.below h))
  clear hn1 hn2 hA1 hA2
  go_loopw [9, 10, 11, 12] (fun v ca i _ wr => ∃ (k : Nat) (o : List Int) (b0 : Int), k ≤ M + 1 ∧ i = .int .i64 k ∧ (∃ A c, v = .slice A k c) ∧ ca = .int .i64 b0 ∧ 0 ≤ b0 ∧ b0 ≤ 1 ∧ wr.ownsRow w1.heap.size 3 1 v k (o.map (.int .i64)) ∧ Hid (AddSt la lb M k o b0) ∧ Below w1.heap.size w1 wr) (fun _ _ i _ _ => M + 2 - (intOf i).toNat)
  case atStart => exact ⟨0, [], 0, by omega, rfl, ⟨_, _, rfl⟩, rfl, by omega, by omega, World.ownsRow_nil _ _ _ _, Lib.hid ⟨rfl, Lim.nil, by simp [valL], .inl (Nat.zero_le _)⟩, Below.refl _ _⟩
  case round =>
    obtain ⟨k, o, b0, hk, rfl, ⟨A3, c3, rfl⟩, rfl, hb0, hb0', hown, hin, hbel⟩ := hrel
    have hz := hbel.size
    obtain ⟨x, hx⟩ : ∃ x, la[k]?.getD 0 = x := ⟨_, rfl⟩
    obtain ⟨y, hy⟩ : ∃ y, lb[k]?.getD 0 = y := ⟨_, rfl⟩
    have hx1 := HL.out.1.getD k
    have hy1 := HL.out.2.getD k
    rw [hx] at hx1
    rw [hy] at hy1
    have HX := Lib.hid (And.intro hx hy)
    have HLA' : Hid (Calls Tryz.prog 208 #[.slice A1 na c1, .int .i64 k] wr fun e w' => e = .returned (.int .i64 x) ∧ wr = w') := Lib.hid (by have := HLA.out wr k hbel; rwa [hx] at this)
    have HLB' : Hid (Calls Tryz.prog 208 #[.slice A2 nb c2, .int .i64 k] wr fun e w' => e = .returned (.int .i64 y) ∧ wr = w') := Lib.hid (by have := HLB.out wr k hbel; rwa [hy] at this)
    clear hx hy
    have hsum0 : 0 ≤ x + y + b0 := by omega
    have hsum1 : x + y + b0 < 2000000000 := by omega
    by_cases hlt : k < M
    · have hmx : (k : Int) < max (na : Int) (nb : Int) := by omega
      have HSt : Hid (AddSt la lb M (k + 1) (o ++ [(x + y + b0) % 1000000000]) ((x + y + b0) / 1000000000)) := Lib.hid (hin.out.step (by omega) (by rw [HX.out.1, HX.out.2]; omega) (by omega) (by omega) (fun h => by omega))
      go_wp2_with (first | (go_at_call 208; (with_reducible refine HLA'.out.mono ?_); rintro e w2 ⟨rfl, rfl⟩) | (go_at_call 208; (with_reducible refine HLB'.out.mono ?_); rintro e w2 ⟨rfl, rfl⟩) | (at_builtin; refine push_num rfl _ _ rfl w1.heap.size _ k o rfl hown _ rfl (by omega) (by omega) ?_; intro A4 c4 w4 hown4 hb4 hz4))
      all_goals
        go_roundw
        case rel => exact ⟨k + 1, _, _, by omega, by go_num, ⟨A4, c4, rfl⟩, rfl, by omega, by omega, hown4, HSt, hbel.trans hb4⟩
        case measure => simp [intOf]; omega
    · have hmx : ¬ (k : Int) < max (na : Int) (nb : Int) := by omega
      by_cases hb1 : 0 < b0
      · have hkM : k = M := by
          rcases hin.out.top with h | ⟨_, h, _⟩
          · omega
          · omega
        have hxy : x = 0 ∧ y = 0 := by
          have e1 : la.length ≤ k := by rw [HP.out.2.2.1]; omega
          have e2 : lb.length ≤ k := by rw [HP.out.2.2.2]; omega
          have h1 := HX.out.1
          have h2 := HX.out.2
          rw [List.getElem?_eq_none e1] at h1
          rw [List.getElem?_eq_none e2] at h2
          exact ⟨h1.symm, h2.symm⟩
        have hs1 : x + y + b0 = 1 := by omega
        have HSt : Hid (AddSt la lb M (k + 1) (o ++ [(x + y + b0) % 1000000000]) ((x + y + b0) / 1000000000)) := Lib.hid (hin.out.step (by omega) (by rw [HX.out.1, HX.out.2]; omega) (by omega) (by omega) (fun h => by rw [hs1]; exact ⟨rfl, rfl⟩))
        have hkM' : k ≤ M := by omega
        clear hs1 hxy hkM
        go_wp2_with (first | (go_at_call 208; (with_reducible refine HLA'.out.mono ?_); rintro e w2 ⟨rfl, rfl⟩) | (go_at_call 208; (with_reducible refine HLB'.out.mono ?_); rintro e w2 ⟨rfl, rfl⟩) | (at_builtin; refine push_num rfl _ _ rfl w1.heap.size _ k o rfl hown _ rfl (by omega) (by omega) ?_; intro A4 c4 w4 hown4 hb4 hz4))
        all_goals
          go_roundw
          case rel => exact ⟨k + 1, _, _, by omega, by go_num, ⟨A4, c4, rfl⟩, rfl, by omega, by omega, hown4, HSt, hbel.trans hb4⟩
          case measure => simp [intOf]; omega
      · obtain rfl : b0 = 0 := by omega
        have HE : Hid (o = limbs (a + b)) := Lib.hid (AddSt.fin (M := M) (k := k) HM.out.symm (by rw [HP.out.1, HP.out.2.1]; exact hin.out) (by omega))
        have HN : Hid ((limbs (a + b)).length = k) := Lib.hid (by rw [← HE.out]; exact hin.out.len)
        have hlo : o.length = k := hin.out.len
        have hnum : NumAt wr wr.heap.size A3 c3 (a + b) := by
          rw [HE.out] at hown
          refine ⟨Ints.of_own (c := c3) (e := 3) (base := w1.heap.size) (by rw [HN.out]; exact hown) (by rw [HN.out]; omega), by rw [HN.out]; exact own_cap hown⟩
        have HR' : Hid (Calls Tryz.prog 117 #[.slice A3 k c3] wr fun e w' => e = .returned (.tuple #[.string R, .int .i64 0]) ∧ Below wr.heap.size wr w') := Lib.hid (by
          have h := HR.out wr A3 c3 (hb1'.trans (hbel.mono hz1)) hnum
          rw [HN.out] at h
          exact h)
        clear hlo hnum hx1 hy1 hsum0 hsum1
        go_wp2_with (go_at_call 117; (with_reducible refine HR'.out.mono ?_); rintro e w5 ⟨rfl, hb5⟩)
        go_ret2
        exact ⟨rfl, (hb1'.trans (hbel.mono hz1)).trans (hb5.mono (by omega))⟩
end Go.Proofs.YthcmopgdjibojaaGreatDoor.nt

/- nat: Mul. -/
namespace Go.Proofs.YthcmopgdjibojaaGreatDoor.nt
open Go.RowKit
open Go.Lib (decDigits nDigits itoa decDigits_length nDigits_pos)
open Go.Proofs.YthcmopgdjibojaaGreatDoor.lib Go.Proofs.YthcmopgdjibojaaGreatDoor.app
set_option linter.unusedVariables false
set_option linter.unusedSimpArgs false

/-- Where a product stands: i limbs of the first number, and k limbs of the second one for the next limb x. -/
structure MulSt (la lb : List Int) (i k : Nat) (x : Int) (o : List Int) (ca : Int) : Prop where
  len : o.length = la.length + lb.length
  lim : Lim o
  val : valL o + b9 (i + k) * ca = valL (la.take i) * valL lb + b9 i * (x * valL (lb.take k))
  zero : ∀ j, i + lb.length ≤ j → o[j]?.getD 0 = 0
theorem MulSt.start {la lb : List Int} : MulSt la lb 0 0 0 (List.replicate (la.length + lb.length) 0) 0 := by
  refine ⟨by simp, Lim.zeros _, ?_, fun j _ => ?_⟩
  · rw [valL_zeros]; simp [valL]
  · rw [List.getElem?_replicate]
    by_cases h : j < la.length + lb.length
    · rw [if_pos h]; rfl
    · rw [if_neg h]; rfl
theorem MulSt.next {la lb o : List Int} {i : Nat} {x y : Int} (h : MulSt la lb i 0 x o 0) : MulSt la lb i 0 y o 0 := by
  refine ⟨h.len, h.lim, ?_, h.zero⟩
  have := h.val
  simp [valL] at this ⊢
  exact this
theorem MulSt.step {la lb o : List Int} {i k : Nat} {x y z ca d ca' : Int} (h : MulSt la lb i k x o ca) (hk : k < lb.length) (hy : lb[k]? = some y) (hz : o[i + k]? = some z) (hd : d + 1000000000 * ca' = z + x * y + ca) (h0 : 0 ≤ d) (h1 : d < 1000000000) : MulSt la lb i (k + 1) x (o.set (i + k) d) ca' := by
  refine ⟨by rw [List.length_set, h.len], h.lim.set _ h0 h1, ?_, fun j hj => ?_⟩
  · have hv := h.val
    rw [valL_set hz, valL_take hy, show i + (k + 1) = i + k + 1 by omega, b9_succ]
    have e : b9 (i + k) * (d + 1000000000 * ca') = b9 (i + k) * (z + x * y + ca) := by rw [hd]
    have e2 : b9 (i + k) = b9 i * b9 k := b9_add i k
    grind
  · rw [List.getElem?_set_ne (by omega)]
    exact h.zero j hj
theorem MulSt.fin {la lb o : List Int} {i : Nat} {x ca : Int} (h : MulSt la lb i lb.length x o ca) (hx : la[i]? = some x) (hz : o[i + lb.length]? = some 0) (h0 : 0 ≤ ca) (h1 : ca < 1000000000) (y : Int) : MulSt la lb (i + 1) 0 y (o.set (i + lb.length) ca) 0 := by
  refine ⟨by rw [List.length_set, h.len], h.lim.set _ h0 h1, ?_, fun j hj => ?_⟩
  · have hv := h.val
    rw [List.take_length] at hv
    rw [valL_set hz, valL_take hx]
    simp only [List.take_zero, valL]
    grind
  · rw [List.getElem?_set_ne (by omega)]
    exact h.zero j (by omega)
theorem mul_bd3 {x y z ca : Int} (hx0 : 0 ≤ x) (hx1 : x < 1000000000) (hy0 : 0 ≤ y) (hy1 : y < 1000000000) (hz0 : 0 ≤ z) (hz1 : z < 1000000000) (hc0 : 0 ≤ ca) (hc1 : ca < 1000000000) : 0 ≤ x * y ∧ x * y ≤ 999999998000000001 ∧ (z + x * y + ca) / 1000000000 < 1000000000 := by
  obtain ⟨h1, h2⟩ := mul_bd hx0 hx1 hy0 hy1
  exact ⟨h1, h2, by omega⟩
set_option maxRecDepth 20000 in
set_option maxHeartbeats 2000000 in
theorem nmul_any (a b : Nat) (ha : nDigits a ≤ 4096) (hb : nDigits b ≤ 4096) (hab : nDigits (a * b) ≤ 4096) (w : World) (ht : TabT w) :
    Calls Tryz.prog 207 #[.string (natS a), .string (natS b)] w (StrOut w (a * b)) := by
  have H2 := Lib.hid (two_any a b ha hb w)
  have HR : Hid (∀ (w1 : World) A1 c1, Below w.heap.size w w1 → NumAt w1 w1.heap.size A1 c1 (a * b) → Calls Tryz.prog 117 #[.slice A1 (limbs (a * b)).length c1] w1 fun e w' => e = .returned (.tuple #[.string (natS (a * b)), .int .i64 0]) ∧ Below w1.heap.size w1 w') := Lib.hid (fun w1 A1 c1 hb h1 => result_any A1 c1 (a * b) w1 _ (Nat.le_refl _) h1 (ht.below hb) hab)
  obtain ⟨la, hla⟩ : ∃ la, limbs a = la := ⟨_, rfl⟩
  obtain ⟨lb, hlb⟩ : ∃ lb, limbs b = lb := ⟨_, rfl⟩
  obtain ⟨na, hna⟩ : ∃ n, la.length = n := ⟨_, rfl⟩
  obtain ⟨nb, hnb⟩ : ∃ n, lb.length = n := ⟨_, rfl⟩
  have hnal : na ≤ 4096 := by rw [← hna, ← hla]; exact Nat.le_trans (limbs_le_digits a) ha
  have hnbl : nb ≤ 4096 := by rw [← hnb, ← hlb]; exact Nat.le_trans (limbs_le_digits b) hb
  have HP := Lib.hid (And.intro hla (And.intro hlb (And.intro hna hnb)))
  have HL : Hid (Lim la ∧ Lim lb) := Lib.hid (by rw [← hla, ← hlb]; exact ⟨limbs_lim a, limbs_lim b⟩)
  unfold StrOut
  generalize natS (a * b) = R at HR ⊢
  generalize natS a = S at H2 ⊢
  generalize natS b = T at H2 ⊢
  clear ha hb hab ht hla hlb hna hnb
  go_enter Tryz.func207, Tryz.ntmps207
  go_wp2_with (first | (go_at_call 115; (with_reducible refine H2.out.mono ?_); rintro e w1 ⟨A1, c1, A2, c2, rfl, hn1, hn2, hb1⟩; have hz1 := hb1.size; rw [HP.out.1, HP.out.2.2.1, HP.out.2.1, HP.out.2.2.2]; have hA1 : Ints w1 w1.heap.size A1 la := (by have := hn1.1; rwa [HP.out.1] at this); have hA2 : Ints w1 w1.heap.size A2 lb := (by have := hn2.1; rwa [HP.out.2.1] at this); clear hn1 hn2; have HNN : Hid ((na : Int) + (nb : Int) = ((na + nb : Nat) : Int)) := Lib.hid (by omega)) | (at_make; rw [HNN.out]; refine make_num rfl _ _ rfl (na + nb) rfl rfl (by omega) ?_; intro w2 hown2 hb2 hz2))
  clear hz2
  go_loopw [34] (fun i wr => ∃ (k : Nat) (o : List Int), k ≤ na ∧ i = .int .i64 k ∧ wr.ownsRow w1.heap.size 3 1 (.slice (some ⟨w1.heap.size, 0, none⟩) (na + nb) (na + nb)) (na + nb) (o.map (.int .i64)) ∧ Hid (MulSt la lb k 0 0 o 0) ∧ Below w1.heap.size w1 wr) (fun i _ => na - (intOf i).toNat)
  case atStart => exact ⟨0, _, by omega, rfl, hown2, Lib.hid (by have h := MulSt.start (la := la) (lb := lb); rw [HP.out.2.2.1, HP.out.2.2.2] at h; exact h), hb2⟩
  case round =>
    obtain ⟨k, o, hk, rfl, hown, hin, hbel⟩ := hrel
    have hz := hbel.size
    by_cases hlt : k < na
    · obtain ⟨ad, x, rfl, hadb, hx, hcx⟩ := (hA1.below hbel).at_ (k := k) (by rw [HP.out.2.2.1]; exact hlt)
      have hx1 := HL.out.1.at_ hx
      have HX := Lib.hid hx
      obtain ⟨wo, hwo⟩ : ∃ wo : World, wo = wr := ⟨_, rfl⟩
      subst hwo
      clear hx
      go_wp2
      go_loopw [12, 41] (fun ca j wr => ∃ (m : Nat) (o : List Int) (c0 : Int), m ≤ nb ∧ j = .int .i64 m ∧ ca = .int .i64 c0 ∧ 0 ≤ c0 ∧ c0 < 1000000000 ∧ wr.ownsRow w1.heap.size 3 1 (.slice (some ⟨w1.heap.size, 0, none⟩) (na + nb) (na + nb)) (na + nb) (o.map (.int .i64)) ∧ Hid (MulSt la lb k m x o c0) ∧ Below w1.heap.size w1 wr) (fun _ j _ => nb - (intOf j).toNat)
      case atStart => exact ⟨0, o, 0, by omega, rfl, rfl, by omega, by omega, hown, Lib.hid hin.out.next, hbel⟩
      case round =>
        obtain ⟨m, o', c0, hm, rfl, rfl, hc0, hc1, hown', hin', hbel'⟩ := hrel
        have hz' := hbel'.size
        have hol : o'.length = na + nb := by rw [hin'.out.len, HP.out.2.2.1, HP.out.2.2.2]
        by_cases hlm : m < nb
        · obtain ⟨ad', y, had, hadb', hy, hcy⟩ := (hA2.below hbel').at_ (k := m) (by rw [HP.out.2.2.2]; exact hlm)
          have hy1 := HL.out.2.at_ hy
          obtain ⟨z, hzz⟩ : ∃ z, o'[k + m]? = some z := ⟨_, List.getElem?_eq_getElem (by omega)⟩
          have hz1' := hin'.out.lim.at_ hzz
          have hcz := own_cells hown' (k + m) (by omega)
          rw [hzz] at hcz
          have hcz : wr.cell? ⟨w1.heap.size, k + m, none⟩ = some (.int .i64 z) := hcz
          have hfz : wr.frozen? ⟨w1.heap.size, k + m, none⟩ = false := hown'.frozenAt (k + m)
          obtain ⟨hp0, hp1, hp2⟩ := mul_bd3 hx1.1 hx1.2 hy1.1 hy1.2 hz1'.1 hz1'.2 hc0 hc1
          have HSt : Hid (MulSt la lb k (m + 1) x (o'.set (k + m) ((z + x * y + c0) % 1000000000)) ((z + x * y + c0) / 1000000000)) := Lib.hid (hin'.out.step (by rw [HP.out.2.2.2]; exact hlm) hy hzz (by omega) (by omega) (by omega))
          have hkm0 : (0 : Int) ≤ (k : Int) + (m : Int) := by omega
          have hkm1 : (k : Int) + (m : Int) < (na : Int) + (nb : Int) := by omega
          have hkm2 : ((k : Int) + (m : Int)).toNat = k + m := by omega
          subst had
          clear hy hzz hol
          go_wp2
          go_roundw
          case rel => exact ⟨m + 1, _, _, by omega, by go_num, rfl, by omega, by omega, by have h := hown'.stored (k + m) (.int .i64 ((z + x * y + c0) % 1000000000)); rw [List.map_set]; exact h.1, HSt, hbel'.setCell (p := ⟨w1.heap.size, k + m, none⟩) (Nat.le_refl _) _⟩
          case measure => simp [intOf]; omega
        · have hmn : m = nb := by omega
          subst hmn
          have hz0 : o'[k + m]? = some 0 := by
            have h1 := hin'.out.zero (k + m) (by rw [HP.out.2.2.2]; exact Nat.le_refl _)
            rw [List.getElem?_eq_getElem (by omega)] at h1 ⊢
            simp at h1
            rw [h1]
          have hcz := own_cells hown' (k + m) (by omega)
          rw [hz0] at hcz
          have hcz : wr.cell? ⟨w1.heap.size, k + m, none⟩ = some (.int .i64 0) := hcz
          have hfz : wr.frozen? ⟨w1.heap.size, k + m, none⟩ = false := hown'.frozenAt (k + m)
          have HSt : Hid (MulSt la lb (k + 1) 0 0 (o'.set (k + m) c0) 0) := Lib.hid (by
            have h := hin'.out
            have hm' : m = lb.length := HP.out.2.2.2.symm
            rw [hm'] at h hz0 ⊢
            exact h.fin HX.out hz0 hc0 hc1 0)
          have hkm0 : (0 : Int) ≤ (k : Int) + (m : Int) := by omega
          have hkm1 : (k : Int) + (m : Int) < (na : Int) + (m : Int) := by omega
          have hkm2 : ((k : Int) + (m : Int)).toNat = k + m := by omega
          clear hz0 hol hlm
          go_wp2
          go_roundw
          case rel => exact ⟨k + 1, _, by omega, by go_num, by have h := hown'.stored (k + m) (.int .i64 c0); rw [List.map_set]; exact h.1, HSt, hbel'.setCell (p := ⟨w1.heap.size, k + m, none⟩) (Nat.le_refl _) _⟩
          case measure => simp [intOf]; omega
    · have hkn : k = na := by omega
      subst hkn
      have hol : o.length = k + nb := by rw [hin.out.len, HP.out.2.2.1, HP.out.2.2.2]
      have HV : Hid (valL o = ((a * b : Nat) : Int)) := Lib.hid (by
        have h := hin.out.val
        have hk' : k = la.length := HP.out.2.2.1.symm
        rw [hk', List.take_length, ← HP.out.1, ← HP.out.2.1, valL_limbs, valL_limbs] at h
        simp [valL] at h
        rw [h, Int.natCast_mul])
      have HT : Hid (Calls Tryz.prog 162 #[.slice (some ⟨w1.heap.size, 0, none⟩) (k + nb) (k + nb)] wr fun e w' => ∃ m' c', e = .returned (.slice (some ⟨w1.heap.size, 0, none⟩) m' c') ∧ Hid ((limbs (a * b)).length = m') ∧ NumAt wr wr.heap.size (some ⟨w1.heap.size, 0, none⟩) c' (a * b) ∧ w' = wr) := Lib.hid (by
        have hown' : wr.ownsRow w1.heap.size 3 1 (.slice (some ⟨w1.heap.size, 0, none⟩) o.length (k + nb)) o.length (o.map (.int .i64)) := by rw [hol]; exact hown
        have h4 := trim_any (some ⟨w1.heap.size, 0, none⟩) (k + nb) o hin.out.lim wr wr.heap.size (Ints.of_own hown' (by rw [hol]; omega)) (by rw [hol]; exact Nat.le_refl _)
        rw [hol] at h4
        refine h4.mono ?_
        rintro e w2 ⟨m', c', rfl, ht, rfl⟩
        have h5 := trim_num ht hown' (by rw [hol]; omega) HV.out
        exact ⟨m', c', rfl, Lib.hid h5.1, h5.2.1, rfl⟩)
      have HR' : Hid (∀ m' c', Hid ((limbs (a * b)).length = m') → NumAt wr wr.heap.size (some ⟨w1.heap.size, 0, none⟩) c' (a * b) → Calls Tryz.prog 117 #[.slice (some ⟨w1.heap.size, 0, none⟩) m' c'] wr fun e w' => e = .returned (.tuple #[.string R, .int .i64 0]) ∧ Below wr.heap.size wr w') := Lib.hid (fun m' c' hm h => by
        rw [← hm.out]
        exact HR.out wr _ c' (hb1.trans (hbel.mono hz1)) h)
      clear hol hlt
      go_wp2_with (first | (go_at_call 162; (with_reducible refine HT.out.mono ?_); rintro e w5 ⟨m5, c5, rfl, hm5, hn5, rfl⟩) | (go_at_call 117; (with_reducible refine (HR'.out _ _ hm5 hn5).mono ?_); rintro e w6 ⟨rfl, hb6⟩))
      go_ret2
      exact ⟨rfl, (hb1.trans (hbel.mono hz1)).trans (hb6.mono (by omega))⟩
end Go.Proofs.YthcmopgdjibojaaGreatDoor.nt
