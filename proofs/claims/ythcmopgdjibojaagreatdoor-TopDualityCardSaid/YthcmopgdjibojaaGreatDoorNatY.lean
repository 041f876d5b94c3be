import Derived.Test.YthcmopgdjibojaaGreatDoorNatX
import Derived.Test.YthcmopgdjibojaaGreatDoorC1
/- nat: digit, divide. -/
namespace Go.Proofs.YthcmopgdjibojaaGreatDoor.nt
open Go.RowKit
open Go.Lib (decDigits nDigits itoa decDigits_length nDigits_pos)
open Go.Proofs.YthcmopgdjibojaaGreatDoor.lib Go.Proofs.YthcmopgdjibojaaGreatDoor.app
set_option linter.unusedVariables false
set_option linter.unusedSimpArgs false

set_option maxRecDepth 20000 in
set_option maxHeartbeats 1000000 in
theorem digit_any (A : Option Addr) (c : Nat) (r : Nat) (A' : Option Addr) (c' : Nat) (d : Nat) (w : World) (B B' : Nat) (hB : B ≤ w.heap.size) (hB' : B' ≤ w.heap.size) (hr : NumAt w B A c r) (hd : NumAt w B' A' c' d) (hsm : (limbs d).length ≤ 1000000) (hd0 : 0 < d) (hlt : r < 1000000000 * d) :
    Calls Tryz.prog 164 #[.slice A (limbs r).length c, .slice A' (limbs d).length c'] w fun e w' => e = .returned (.int .i64 ((r / d : Nat) : Int)) ∧ Below w.heap.size w w' := by
  have HD := Lib.hid (And.intro hd0 hlt)
  obtain ⟨nr, hnr⟩ : ∃ n, (limbs r).length = n := ⟨_, rfl⟩
  obtain ⟨nd, hnd⟩ : ∃ n, (limbs d).length = n := ⟨_, rfl⟩
  have HT : Hid (∀ (m : Int) (w1 : World), 0 ≤ m → m < 1000000000 → Below w.heap.size w w1 → Calls Tryz.prog 166 #[.slice A' nd c', .int .i64 m] w1 (NumOut w1 (d * m.toNat))) := Lib.hid (fun m w1 h0 h1 hb => by
    rw [← hnd]
    exact times_any A' c' d m h0 h1 w1 B' (by have := hb.size; omega) (hd.below (hb.mono hB')) hsm)
  have HC : Hid (∀ (n : Nat) (A1 : Option Addr) (c1 : Nat) (w1 : World), NumAt w1 w1.heap.size A1 c1 n → Below w.heap.size w w1 → Calls Tryz.prog 163 #[.slice A1 (limbs n).length c1, .slice A nr c] w1 fun e w' => e = .returned (.int .i64 (ordN n r)) ∧ Below w1.heap.size w1 w') := Lib.hid (fun n A1 c1 w1 h1 hb => by
    rw [← hnr]
    exact compare_any A1 c1 n A c r w1 w1.heap.size B (Nat.le_refl _) (by have := hb.size; omega) h1 (hr.below (hb.mono hB)))
  rw [hnr, hnd]
  clear hnr hnd hr hd hsm hd0 hlt
  go_enter Tryz.func164, Tryz.ntmps164
  go_wp2
  go_loopw [5, 6, 7] (fun lo hi _ wr => ∃ x y : Int, lo = .int .i64 x ∧ hi = .int .i64 y ∧ 0 ≤ x ∧ x ≤ y ∧ y ≤ 999999999 ∧ Hid (x * d ≤ r ∧ (r : Int) < (y + 1) * d) ∧ Below w.heap.size w wr) (fun lo hi _ _ => (intOf hi - intOf lo).toNat)
  case atStart => exact ⟨0, 999999999, rfl, rfl, by omega, by omega, by omega, Lib.hid ⟨by omega, by have := HD.out.2; omega⟩, Below.refl _ _⟩
  case round =>
    obtain ⟨x, y, rfl, rfl, hx0, hxy, hy, hin, hbel⟩ := hrel
    by_cases hlt : x < y
    · obtain ⟨m, hm⟩ : ∃ m, (x + y + 1) / 2 = m := ⟨_, rfl⟩
      have hm1 : x < m := by omega
      have hm2 : m ≤ y := by omega
      have HM := Lib.hid hm
      by_cases hle : m * d ≤ r
      · have HO : Hid (∀ w1 A1 c1, NumAt w1 w1.heap.size A1 c1 (d * m.toNat) → Below w.heap.size w w1 → Calls Tryz.prog 163 #[.slice A1 (limbs (d * m.toNat)).length c1, .slice A nr c] w1 fun e w' => ∃ v : Int, e = .returned (.int .i64 v) ∧ v ≤ 0 ∧ Below w1.heap.size w1 w') := Lib.hid (fun w1 A1 c1 h1 hb => (HC.out _ A1 c1 w1 h1 hb).mono fun e w' h => ⟨_, h.1, by
            have e1 : ((d * m.toNat : Nat) : Int) = m * d := by rw [Int.natCast_mul, Int.toNat_of_nonneg (by omega), Int.mul_comm]
            rw [e1]
            rcases Int.lt_or_eq_of_le hle with h2 | h2
            · rw [ordN_lt h2]; omega
            · rw [ordN_eq h2]; omega, h.2⟩)
        have HN : Hid (m * d ≤ r ∧ (r : Int) < (y + 1) * d) := Lib.hid ⟨hle, hin.out.2⟩
        clear hle hm
        go_wp2_with (first | (go_at_call 166; rw [HM.out]; refine (HT.out m _ (by omega) (by omega) hbel).mono ?_; rintro e w1 ⟨A1, c1, rfl, hn1, hh1, hb1⟩) | (go_at_call 163; refine (HO.out _ _ _ hn1 (hbel.trans (hb1.mono hbel.size))).mono ?_; rintro e w2 ⟨v, rfl, hv, hb2⟩))
        go_roundw
        case rel => exact ⟨m, y, rfl, rfl, by omega, by omega, hy, HN, hbel.trans ((hb1.trans (hb2.mono hb1.size)).mono hbel.size)⟩
        case measure => simp [intOf]; omega
      · have HO : Hid (∀ w1 A1 c1, NumAt w1 w1.heap.size A1 c1 (d * m.toNat) → Below w.heap.size w w1 → Calls Tryz.prog 163 #[.slice A1 (limbs (d * m.toNat)).length c1, .slice A nr c] w1 fun e w' => ∃ v : Int, e = .returned (.int .i64 v) ∧ 0 < v ∧ Below w1.heap.size w1 w') := Lib.hid (fun w1 A1 c1 h1 hb => (HC.out _ A1 c1 w1 h1 hb).mono fun e w' h => ⟨_, h.1, by
            have e1 : ((d * m.toNat : Nat) : Int) = m * d := by rw [Int.natCast_mul, Int.toNat_of_nonneg (by omega), Int.mul_comm]
            rw [e1, ordN_gt (by omega)]; omega, h.2⟩)
        have HN : Hid (x * d ≤ r ∧ (r : Int) < (m - 1 + 1) * d) := Lib.hid ⟨hin.out.1, by rw [Int.sub_add_cancel]; omega⟩
        clear hle hm
        go_wp2_with (first | (go_at_call 166; rw [HM.out]; refine (HT.out m _ (by omega) (by omega) hbel).mono ?_; rintro e w1 ⟨A1, c1, rfl, hn1, hh1, hb1⟩) | (go_at_call 163; refine (HO.out _ _ _ hn1 (hbel.trans (hb1.mono hbel.size))).mono ?_; rintro e w2 ⟨v, rfl, hv, hb2⟩))
        go_roundw
        case rel => exact ⟨x, m - 1, rfl, rfl, by omega, by omega, by omega, HN, hbel.trans ((hb1.trans (hb2.mono hb1.size)).mono hbel.size)⟩
        case measure => simp [intOf]; omega
    · obtain rfl : x = y := by omega
      have HR : Hid (((r / d : Nat) : Int) = x) := Lib.hid (by
        obtain ⟨h1, h2⟩ := hin.out
        have hd := HD.out.1
        obtain ⟨X, rfl⟩ : ∃ X : Nat, x = X := ⟨x.toNat, by omega⟩
        rw [Nat.div_eq_of_lt_le (k := X) (by exact_mod_cast h1) (by exact_mod_cast h2)])
      go_wp2
      go_ret
      exact ⟨ret_int (by rw [← Int.natCast_ediv, HR.out]), hbel⟩

/-! divide. -/
theorem elem_num : ElemOf 180 3 (.int .i64 0) 1 8 := ⟨Tryz.underlying180, int_info, rfl, by decide, by decide⟩
/-- make(number, n). -/
theorem make_num {ops : Array Oper} {rest : List Oper} {o : Oper} {a : Act} {Q : Exit → Act → World → Prop} {w : World} (hg : o.guard = none) (l c : Operand) (hop : o.op = Op.makeSlice 180 l c)
    (n : Nat) (hl : a.eval l = .int .i64 n) (hc : a.eval c = .int .i64 n) (hn : n < 17592186044416)
    (h : ∀ w', w'.ownsRow w.heap.size 3 1 (.slice (some ⟨w.heap.size, 0, none⟩) n n) n ((List.replicate n 0).map (.int .i64)) → Below w.heap.size w w' → w.heap.size < w'.heap.size → wpList Tryz.prog ops Q rest (a.put o.dst (.slice (some ⟨w.heap.size, 0, none⟩) n n)) w') :
    wpList Tryz.prog ops Q (o :: rest) a w := by
  obtain ⟨i0, hi, hz0, hz1, hz2⟩ := info_parts int_info
  refine wpList_make_full w hg l c 180 hop w.heap.size 3 i0 (.int .i64 0) 1 Tryz.underlying180 hi hz0 hz1 .i64 .i64 n n n hl hc rfl rfl (by rw [hz2]; omega) (by unfold maxLen; omega) (Nat.le_refl _) ?_
  intro w' hown hg'
  refine h w' ?_ ((Below.refl _ _).grown hg' (Nat.le_refl _) (by intro k hk; cases hk)) ?_
  · have e : (madeCells (Value.int .i64 0).cells (n * 1)).toList = List.replicate n (Value.int .i64 0) := by
      rw [Nat.mul_one]
      exact toList_madeCells_one (.int .i64 0) n
    rw [List.map_replicate, ← e]
    exact hown
  · obtain ⟨cur, hh⟩ : ∃ o, w'.heap[w.heap.size]? = some o := by
      rcases hown.2 with ⟨h1, _⟩ | ⟨g, cap, cur, h1, _, h2, _⟩
      · cases h1
      · injection h1 with h1 _ _
        injection h1 with h1
        injection h1 with h1
        subst h1
        exact ⟨_, h2⟩
    rcases Nat.lt_or_ge w.heap.size w'.heap.size with h | h
    · exact h
    · rw [Array.getElem?_eq_none h] at hh; cases hh
theorem num_store {w : World} {B lo c n : Nat} {A : Option Addr} (h : NumAt w B A c n) (hh : HiA lo A n) {p : Addr} (hp : p.block < lo) (u : Value) : NumAt (w.setCell p u) B A c n := by
  refine ⟨⟨⟨h.1.1.1, fun hn => ?_⟩, h.1.2⟩, h.2⟩
  obtain ⟨ad, h1, h2, h3⟩ := h.1.1.2 hn
  have hn0 : 0 < n := by
    rcases Nat.eq_zero_or_pos n with h0 | h0
    · subst h0; rw [limbs_zero] at hn; simp at hn
    · exact h0
  obtain ⟨ad', h4, h5⟩ := hh hn0
  rw [h1] at h4
  obtain rfl := Option.some.inj h4
  exact ⟨ad, h1, h2, fun j u' hu => (World.cell?_setCell_other w p (ad.add j) u (fun e => by rw [e, block_of_add] at hp; omega)).trans (h3 j u' hu)⟩
theorem trim_num {w1 : World} {A : Option Addr} {l : List Int} {lo c m c' : Nat} (ht : TrimIs l m c') (hown : w1.ownsRow lo 3 1 (.slice A l.length c) l.length (l.map (.int .i64))) (hl : l.length ≤ 17592186043904) {n : Nat} (hn : valL l = n) : (limbs n).length = m ∧ NumAt w1 w1.heap.size A c' n ∧ HiA lo A n := by
  have hm := ht.len
  have hi := ints_take (Ints.of_own hown hl) m
  rw [← ht.1] at hi
  rw [hn, Int.toNat_natCast] at hm hi
  refine ⟨hm, ⟨hi, by rw [hm]; exact ht.2.2⟩, fun hn0 => ?_⟩
  have hl0 : 0 < l.length := by
    rcases Nat.eq_zero_or_pos l.length with h0 | h0
    · obtain rfl := List.eq_nil_of_length_eq_zero h0
      simp [valL] at hn
      omega
    · exact h0
  obtain ⟨g, cap, hv, hg, hlt⟩ := hown.form hl0
  injection hv with hv
  exact ⟨_, hv, hg⟩
/-- The quotient and the remainder. -/
def DivOut (w : World) (a b : Nat) (e : Ending) (w' : World) : Prop := ∃ A c A' c', e = .returned (.tuple #[.slice A (limbs (a / b)).length c, .slice A' (limbs (a % b)).length c']) ∧ NumAt w' w'.heap.size A c (a / b) ∧ NumAt w' w'.heap.size A' c' (a % b) ∧ Below w.heap.size w w'
/-- What is known of a division down to limb k: the quotient's limbs, the rest. -/
structure DivSt (la : List Int) (b n k : Nat) (q : List Int) (r : Nat) : Prop where
  len : q.length = n
  lim : Lim q
  zero : ∀ j, j < k → q[j]? = some 0
  val : valL (la.drop k) = valL (q.drop k) * b + r
  lt : r < b
theorem drop_set_lt {l : List Int} {k : Nat} (hk : k < l.length) (x : Int) : (l.set k x).drop k = x :: l.drop (k + 1) := by
  rw [List.drop_set, if_neg (by omega), Nat.sub_self, List.drop_eq_getElem_cons hk, List.set_cons_zero]
theorem DivSt.step {la : List Int} {b n k : Nat} {q : List Int} {r : Nat} (h : DivSt la b n (k + 1) q r) (hk : k < n) {x : Int} (hx : la[k]? = some x) (hx0 : 0 ≤ x) {d : Nat} (hd : d < 1000000000) (hle : d * b ≤ x.toNat + 1000000000 * r) (hlt : x.toNat + 1000000000 * r - d * b < b) : DivSt la b n k (q.set k (d : Int)) (x.toNat + 1000000000 * r - d * b) := by
  refine ⟨by rw [List.length_set, h.len], h.lim.set k (by omega) (by omega), fun j hj => ?_, ?_, hlt⟩
  · rw [List.getElem?_set_ne (by omega)]
    exact h.zero j (by omega)
  · rw [drop_at hx, drop_set_lt (by rw [h.len]; exact hk), valL, valL, h.val]
    have e1 : ((x.toNat + 1000000000 * r - d * b : Nat) : Int) = x + 1000000000 * r - d * b := by
      have h3 : ((d * b : Nat) : Int) = (d : Int) * b := by simp
      omega
    rw [e1]; grind
theorem set_same {l : List Int} {k : Nat} {x : Int} (h : l[k]? = some x) : l.set k x = l := by
  obtain ⟨hk, rfl⟩ := List.getElem?_eq_some_iff.1 h
  exact List.set_getElem_self hk
theorem div_fin {a b : Nat} {q : List Int} {r n : Nat} (h : DivSt (limbs a) b n 0 q r) : valL q = ((a / b : Nat) : Int) ∧ r = a % b := by
  have hv := h.val
  rw [List.drop_zero, List.drop_zero, valL_limbs] at hv
  have h0 := valL_nonneg h.lim
  obtain ⟨Q, hQ⟩ : ∃ Q : Nat, valL q = Q := ⟨(valL q).toNat, by omega⟩
  rw [hQ] at hv ⊢
  have hv' : a = Q * b + r := by exact_mod_cast hv
  have hlt := h.lt
  have e1 : a / b = Q := by rw [hv', Nat.mul_comm, Nat.mul_add_div (by omega), Nat.div_eq_of_lt hlt, Nat.add_zero]
  have e2 : a % b = r := by rw [hv', Nat.mul_comm, Nat.mul_add_mod, Nat.mod_eq_of_lt hlt]
  exact ⟨by rw [e1], e2.symm⟩
end Go.Proofs.YthcmopgdjibojaaGreatDoor.nt

/- nat: divide. -/
namespace Go.Proofs.YthcmopgdjibojaaGreatDoor.nt
open Go.RowKit
open Go.Lib (decDigits nDigits itoa decDigits_length nDigits_pos)
open Go.Proofs.YthcmopgdjibojaaGreatDoor.lib Go.Proofs.YthcmopgdjibojaaGreatDoor.app
set_option linter.unusedVariables false
set_option linter.unusedSimpArgs false

theorem val_cons (x : Int) (r : Nat) : valL (x :: limbs r) = x + 1000000000 * r := by rw [valL, valL_limbs]
/-- Where the division stands. -/
def DivW (w wr : World) (n : Nat) (q : List Int) (r : Nat) (A : Option Addr) (c : Nat) : Prop :=
  wr.ownsRow w.heap.size 3 1 (.slice (some ⟨w.heap.size, 0, none⟩) n n) n (q.map (.int .i64)) ∧ NumAt wr wr.heap.size A c r ∧ HiA (w.heap.size + 1) A r ∧ Below w.heap.size w wr ∧ w.heap.size < wr.heap.size
set_option maxRecDepth 20000 in
set_option maxHeartbeats 4000000 in
theorem divide_any (A : Option Addr) (c : Nat) (a : Nat) (A' : Option Addr) (c' : Nat) (b : Nat) (w : World) (B B' : Nat) (hB : B ≤ w.heap.size) (hB' : B' ≤ w.heap.size) (ha : NumAt w B A c a) (hb : NumAt w B' A' c' b) (hsa : (limbs a).length ≤ 1000000) (hsb : (limbs b).length ≤ 1000000) (hb0 : 0 < b) :
    Calls Tryz.prog 116 #[.slice A (limbs a).length c, .slice A' (limbs b).length c'] w (DivOut w a b) := by
  obtain ⟨la, hla⟩ : ∃ la, limbs a = la := ⟨_, rfl⟩
  have hA := ha.1
  have LA : Lim la := by rw [← hla]; exact limbs_lim a
  rw [hla] at hA hsa ⊢
  obtain ⟨n, hn⟩ : ∃ n, la.length = n := ⟨_, rfl⟩
  obtain ⟨nb, hnb⟩ : ∃ n, (limbs b).length = n := ⟨_, rfl⟩
  have HP := Lib.hid (And.intro hla (And.intro LA (And.intro hn (And.intro hnb (And.intro hb0 hsb)))))
  have HCMP : Hid (∀ (x : Nat) (A1 : Option Addr) (c1 m : Nat) (w1 : World), (limbs x).length = m → NumAt w1 w1.heap.size A1 c1 x → Below w.heap.size w w1 → Calls Tryz.prog 163 #[.slice A1 m c1, .slice A' nb c'] w1 fun e w' => e = .returned (.int .i64 (ordN x b)) ∧ Below w1.heap.size w1 w') := Lib.hid (fun x A1 c1 m w1 hm h1 hbel => by
    rw [← hnb, ← hm]
    exact compare_any A1 c1 x A' c' b w1 w1.heap.size B' (Nat.le_refl _) (by have := hbel.size; omega) h1 (hb.below (hbel.mono hB')))
  have HDIG : Hid (∀ (x : Nat) (A1 : Option Addr) (c1 m : Nat) (w1 : World), (limbs x).length = m → NumAt w1 w1.heap.size A1 c1 x → Below w.heap.size w w1 → x < 1000000000 * b → Calls Tryz.prog 164 #[.slice A1 m c1, .slice A' nb c'] w1 fun e w' => e = .returned (.int .i64 ((x / b : Nat) : Int)) ∧ Below w1.heap.size w1 w') := Lib.hid (fun x A1 c1 m w1 hm h1 hbel hx => by
    rw [← hnb, ← hm]
    exact digit_any A1 c1 x A' c' b w1 w1.heap.size B' (Nat.le_refl _) (by have := hbel.size; omega) h1 (hb.below (hbel.mono hB')) hsb hb0 hx)
  have HTIM : Hid (∀ (m : Int) (w1 : World), 0 ≤ m → m < 1000000000 → Below w.heap.size w w1 → Calls Tryz.prog 166 #[.slice A' nb c', .int .i64 m] w1 (NumOut w1 (b * m.toNat))) := Lib.hid (fun m w1 h0 h1 hbel => by
    rw [← hnb]
    exact times_any A' c' b m h0 h1 w1 B' (by have := hbel.size; omega) (hb.below (hbel.mono hB')) hsb)
  rw [hn] at hsa ⊢
  rw [hnb]
  clear hla LA ha hb hsb hb0 hn hnb
  go_enter Tryz.func116, Tryz.ntmps116
  go_wp2
  go_step3
  go_wp2_with (at_make; refine make_num rfl _ _ rfl n rfl rfl (by omega) ?_; intro w1 hown1 hb1 hz1)
  go_step3
  go_wp2
  go_loopw [7, 8] (fun v i wr => ∃ (k : Nat) (q : List Int) (r m : Nat) (Ar : Option Addr) (cr : Nat), k ≤ n ∧ i = .int .i64 ((k : Int) - 1) ∧ v = .slice Ar m cr ∧ Hid ((limbs r).length = m) ∧ Hid (DivSt la b n k q r) ∧ DivW w wr n q r Ar cr) (fun _ i _ => (intOf i + 1).toNat)
  case atStart =>
    refine ⟨n, List.replicate n 0, 0, 0, none, 0, by omega, rfl, rfl, Lib.hid (by rw [limbs_zero]; rfl), Lib.hid ⟨by simp, Lim.zeros n, fun j hj => by rw [List.getElem?_replicate, if_pos hj], ?_, HP.out.2.2.2.2.1⟩, hown1, ⟨by rw [limbs_zero]; exact Ints.nil, by rw [limbs_zero]; simp⟩, fun h => absurd h (by omega), hb1, hz1⟩
    rw [List.drop_of_length_le (by rw [HP.out.2.2.1]; exact Nat.le_refl _), List.drop_of_length_le (by simp)]
    simp [valL]
  case round =>
    obtain ⟨k, q, r, m, Ar, cr, hk, rfl, rfl, hm, hst, hown, hnum, hhi, hbel, hz⟩ := hrel
    by_cases h0 : k = 0
    · subst h0
      have hlq : q.length = n := hst.out.len
      have HF : Hid (valL q = ((a / b : Nat) : Int) ∧ r = a % b) := Lib.hid (div_fin (n := n) (by rw [HP.out.1]; exact hst.out))
      have HT : Hid (Calls Tryz.prog 162 #[.slice (some ⟨w.heap.size, 0, none⟩) n n] wr fun e w' => ∃ m' c', e = .returned (.slice (some ⟨w.heap.size, 0, none⟩) m' c') ∧ Hid ((limbs (a / b)).length = m') ∧ NumAt wr wr.heap.size (some ⟨w.heap.size, 0, none⟩) c' (a / b) ∧ w' = wr) := Lib.hid (by
        have hown' : wr.ownsRow w.heap.size 3 1 (.slice (some ⟨w.heap.size, 0, none⟩) q.length n) q.length (q.map (.int .i64)) := by rw [hlq]; exact hown
        have h4 := trim_any (some ⟨w.heap.size, 0, none⟩) n q hst.out.lim wr wr.heap.size (Ints.of_own hown' (by rw [hlq]; omega)) (by rw [hlq]; exact Nat.le_refl _)
        rw [hlq] at h4
        refine h4.mono ?_
        rintro e w2 ⟨m', c', rfl, ht, rfl⟩
        have h5 := trim_num ht hown' (by rw [hlq]; omega) HF.out.1
        exact ⟨m', c', rfl, Lib.hid h5.1, h5.2.1, rfl⟩)
      clear hlq
      go_wp2_with (go_at_call 162; refine HT.out.mono ?_; rintro e w2 ⟨m1, c2, rfl, hm1, hn1, rfl⟩)
      rw [Exit.noGoto_ret]
      go_ret2
      have hr := HF.out.2
      subst hr
      exact ⟨_, c2, Ar, cr, by rw [hm1.out, hm.out]; rfl, hn1, hnum, hbel⟩
    · obtain ⟨k, rfl⟩ : ∃ j, k = j + 1 := ⟨k - 1, by omega⟩
      obtain ⟨ad, x, rfl, hadb, hx, hcx⟩ := (hA.below (hbel.mono hB)).at_ (k := k) (by rw [HP.out.2.2.1]; omega)
      have hx1 := HP.out.2.1.at_ hx
      have HX := Lib.hid hx
      have hk1 : (((k + 1 : Nat) : Int) - 1) = (k : Int) := by omega
      have hkn : (k : Int) < (n : Int) := by omega
      have hk0 : (0 : Int) ≤ (k : Int) := by omega
      rw [hk1]
      obtain ⟨r1, hr1⟩ : ∃ r1, x.toNat + 1000000000 * r = r1 := ⟨_, rfl⟩
      have HR1 := Lib.hid hr1
      have hrd : Reads wr wr.heap.size 1 Ar m ((limbs r).map (.int .i64)) := by
        have := hnum.1.1
        rw [hm.out] at this
        exact this
      have hm1 : m ≤ 1000000 := by
        have h1 := hst.out.lt
        have h2 := HP.out.2.2.2.2.2
        rcases Nat.lt_or_ge (limbs b).length (limbs r).length with h | h
        · have := len_lt_lt h; omega
        · have := hm.out; omega
      clear hx hr1
      have HT : Hid (∀ (A1 : Option Addr) (c1 : Nat) (w1 : World), w1.ownsRow wr.heap.size 3 1 (.slice A1 (1 + m) c1) (1 + m) ([.int .i64 x] ++ (limbs r).map (.int .i64)) → Calls Tryz.prog 162 #[.slice A1 (1 + m) c1] w1 fun e w' => ∃ m' c', e = .returned (.slice A1 m' c') ∧ Hid ((limbs r1).length = m') ∧ NumAt w1 w1.heap.size A1 c' r1 ∧ HiA (w.heap.size + 1) A1 r1 ∧ w' = w1) := Lib.hid (fun A1 c1 w1 h => by
        have hl : (x :: limbs r).length = 1 + m := by rw [List.length_cons, hm.out]; omega
        have hL : Lim (x :: limbs r) := Lim.cons hx1.1 hx1.2 (limbs_lim r)
        have hown' : w1.ownsRow wr.heap.size 3 1 (.slice A1 (x :: limbs r).length c1) (x :: limbs r).length ((x :: limbs r).map (.int .i64)) := by rw [hl]; exact h
        have h4 := trim_any A1 c1 (x :: limbs r) hL w1 w1.heap.size (Ints.of_own hown' (by rw [hl]; omega)) (by rw [hl]; exact own_cap h)
        rw [hl] at h4
        refine h4.mono ?_
        rintro e w2 ⟨m', c', rfl, ht, rfl⟩
        have h5 := trim_num ht (own_less (base' := w.heap.size + 1) hown' (by omega)) (by rw [hl]; omega) (n := r1) (by rw [val_cons, ← HR1.out]; omega)
        exact ⟨m', c', rfl, Lib.hid h5.1, h5.2.1, h5.2.2, rfl⟩)
      have HGB : Hid (∀ w1, (wr.alloc (.cells #[.int .i64 x] 3)).grownBy w1 (Value.slice (some ⟨wr.heap.size, 0, none⟩) 1 1).ownBlock → Below wr.heap.size wr w1) := Lib.hid (fun w1 hg => ((Below.refl _ wr).alloc (Nat.le_refl _) _).grown hg (by simp) (fun k hk => by simp [Value.ownBlock] at hk; omega))
      have hq0 : q[k]? = some 0 := hst.out.zero k (by omega)
      have HQ := Lib.hid hq0
      have HCQ : Hid (∀ w3 : World, w3.ownsRow w.heap.size 3 1 (.slice (some ⟨w.heap.size, 0, none⟩) n n) n (q.map (.int .i64)) → w3.cell? ⟨w.heap.size, k, none⟩ = some (.int .i64 0)) := Lib.hid (fun w3 h => by
        have h1 := own_cells h k (by omega)
        rw [HQ.out] at h1
        exact h1)
      clear hq0
      by_cases hlt : r1 < b
      · have HCM : Hid (∀ (A1 : Option Addr) (c1 m : Nat) (w1 : World), (limbs r1).length = m → NumAt w1 w1.heap.size A1 c1 r1 → Below w.heap.size w w1 → Calls Tryz.prog 163 #[.slice A1 m c1, .slice A' nb c'] w1 fun e w' => e = .returned (.int .i64 (-1)) ∧ Below w1.heap.size w1 w') := Lib.hid (fun A1 c1 m w1 h1 h2 h3 => by
          have h := HCMP.out r1 A1 c1 m w1 h1 h2 h3
          rw [ordN_lt (show (r1 : Int) < b by omega)] at h
          exact h)
        have HST : Hid (DivSt la b n k q r1) := Lib.hid (by
          have h := hst.out.step (by omega) HX.out hx1.1 (d := 0) (by omega) (by omega) (by rw [HR1.out]; omega)
          rw [show ((0 : Nat) : Int) = 0 from rfl, set_same HQ.out, HR1.out, Nat.zero_mul, Nat.sub_zero] at h
          exact h)
        clear hlt
        go_wp2_with (first | (at_builtin; refine wpList_appN elem_num _ _ rfl wr.heap.size _ 1 [.int .i64 x] rfl (World.ownsRow_lit wr #[.int .i64 x] 1 (Nat.le_refl _) (by decide) rfl) wr.heap.size Ar m cr _ rfl (hrd.alloc (Nat.le_refl _) _) (by intro u hu; obtain ⟨z, _, rfl⟩ := List.mem_map.1 hu; rfl) (by omega) (by simp) rfl ?_; intro A1 c1 w1 hown1 hg1; have hb1 : Below wr.heap.size wr w1 := HGB.out _ hg1; have hbel1 : Below w.heap.size w w1 := hbel.trans (hb1.mono (by omega)); have hz1 := hb1.size; clear hg1) | (go_at_call 162; refine (HT.out _ _ _ hown1).mono ?_; rintro e w2 ⟨m1, c2, rfl, hm1, hn1, hh1, rfl⟩) | (go_at_call 163; refine (HCM.out _ _ _ _ hm1.out hn1 hbel1).mono ?_; rintro e w3 ⟨rfl, hb3⟩; have hbel3 : Below w.heap.size w w3 := hbel1.trans (hb3.mono (by omega)); have hz3 := hb3.size; have hq3 := own_below (own_below hown hb1) hb3; have hn3 : NumAt w3 w3.heap.size A1 c2 r1 := (hn1.below hb3).more hz3))
        go_roundw
        case rel => exact ⟨k, q, r1, m1, A1, c2, by omega, rfl, rfl, hm1, HST, hq3, hn3, hh1, hbel3, by omega⟩
        case measure => simp [intOf]
      · by_cases heq : r1 = b
        · have HCM : Hid (∀ (A1 : Option Addr) (c1 m : Nat) (w1 : World), (limbs r1).length = m → NumAt w1 w1.heap.size A1 c1 r1 → Below w.heap.size w w1 → Calls Tryz.prog 163 #[.slice A1 m c1, .slice A' nb c'] w1 fun e w' => e = .returned (.int .i64 0) ∧ Below w1.heap.size w1 w') := Lib.hid (fun A1 c1 m w1 h1 h2 h3 => by
            have h := HCMP.out r1 A1 c1 m w1 h1 h2 h3
            rw [ordN_eq (show (r1 : Int) = b by omega)] at h
            exact h)
          have HST : Hid (DivSt la b n k (q.set k 1) 0) := Lib.hid (by
            have h := hst.out.step (by omega) HX.out hx1.1 (d := 1) (by omega) (by rw [HR1.out]; omega) (by rw [HR1.out]; have := HP.out.2.2.2.2.1; omega)
            rw [HR1.out, heq, Nat.one_mul, Nat.sub_self] at h
            exact h)
          clear hlt heq
          go_wp2_with (first | (at_builtin; refine wpList_appN elem_num _ _ rfl wr.heap.size _ 1 [.int .i64 x] rfl (World.ownsRow_lit wr #[.int .i64 x] 1 (Nat.le_refl _) (by decide) rfl) wr.heap.size Ar m cr _ rfl (hrd.alloc (Nat.le_refl _) _) (by intro u hu; obtain ⟨z, _, rfl⟩ := List.mem_map.1 hu; rfl) (by omega) (by simp) rfl ?_; intro A1 c1 w1 hown1 hg1; have hb1 : Below wr.heap.size wr w1 := HGB.out _ hg1; have hbel1 : Below w.heap.size w w1 := hbel.trans (hb1.mono (by omega)); have hz1 := hb1.size; clear hg1) | (go_at_call 162; refine (HT.out _ _ _ hown1).mono ?_; rintro e w2 ⟨m1, c2, rfl, hm1, hn1, hh1, rfl⟩) | (go_at_call 163; refine (HCM.out _ _ _ _ hm1.out hn1 hbel1).mono ?_; rintro e w3 ⟨rfl, hb3⟩; have hbel3 : Below w.heap.size w w3 := hbel1.trans (hb3.mono (by omega)); have hz3 := hb3.size; have hq3 := own_below (own_below hown hb1) hb3; have hn3 : NumAt w3 w3.heap.size A1 c2 r1 := (hn1.below hb3).more hz3; have cq : w3.cell? ⟨w.heap.size, k, none⟩ = some (.int .i64 0) := HCQ.out _ hq3; have fq : w3.frozen? ⟨w.heap.size, k, none⟩ = false := hq3.frozenAt k))
          go_roundw
          case rel =>
            refine ⟨k, q.set k 1, 0, 0, none, 0, by omega, rfl, rfl, Lib.hid (by rw [limbs_zero]; rfl), HST, ?_, ⟨by rw [limbs_zero]; exact Ints.nil, by rw [limbs_zero]; simp⟩, fun h => absurd h (by omega), hbel3.setCell (p := ⟨w.heap.size, k, none⟩) (Nat.le_refl _) _, by simp; omega⟩
            have h := hq3.stored k (.int .i64 1)
            rw [List.map_set]
            exact h.1
          case measure => simp [intOf]
        · have HCM : Hid (∀ (A1 : Option Addr) (c1 m : Nat) (w1 : World), (limbs r1).length = m → NumAt w1 w1.heap.size A1 c1 r1 → Below w.heap.size w w1 → Calls Tryz.prog 163 #[.slice A1 m c1, .slice A' nb c'] w1 fun e w' => e = .returned (.int .i64 1) ∧ Below w1.heap.size w1 w') := Lib.hid (fun A1 c1 m w1 h1 h2 h3 => by
            have h := HCMP.out r1 A1 c1 m w1 h1 h2 h3
            rw [ordN_gt (show (b : Int) < r1 by omega)] at h
            exact h)
          obtain ⟨d, hd⟩ : ∃ d, r1 / b = d := ⟨_, rfl⟩
          have hb0 := HP.out.2.2.2.2.1
          have hr1lt : r1 < 1000000000 * b := by have := hst.out.lt; have := HR1.out; omega
          have hdlt : d < 1000000000 := by rw [← hd]; exact Nat.div_lt_of_lt_mul (by rw [Nat.mul_comm]; exact hr1lt)
          have hdle : d * b ≤ r1 := by rw [← hd]; exact Nat.div_mul_le_self r1 b
          have hdrem : r1 - d * b < b := by
            have h1 := Nat.div_add_mod r1 b
            have h2 := Nat.mod_lt r1 hb0
            rw [hd, Nat.mul_comm] at h1
            omega
          have HDG : Hid (∀ (A1 : Option Addr) (c1 m : Nat) (w1 : World), (limbs r1).length = m → NumAt w1 w1.heap.size A1 c1 r1 → Below w.heap.size w w1 → Calls Tryz.prog 164 #[.slice A1 m c1, .slice A' nb c'] w1 fun e w' => e = .returned (.int .i64 (d : Int)) ∧ Below w1.heap.size w1 w') := Lib.hid (fun A1 c1 m w1 h1 h2 h3 => by
            have h := HDIG.out r1 A1 c1 m w1 h1 h2 h3 hr1lt
            rw [hd] at h
            exact h)
          have HTM : Hid (∀ w1, Below w.heap.size w w1 → Calls Tryz.prog 166 #[.slice A' nb c', .int .i64 (d : Int)] w1 (NumOut w1 (b * d))) := Lib.hid (fun w1 h => by
            have h1 := HTIM.out d w1 (by omega) (by omega) h
            rw [Int.toNat_natCast] at h1
            exact h1)
          have HMI : Hid (∀ (A1 : Option Addr) (c1 m : Nat) (A2 : Option Addr) (c2 : Nat) (w1 : World), (limbs r1).length = m → NumAt w1 w1.heap.size A1 c1 r1 → NumAt w1 w1.heap.size A2 c2 (b * d) → Calls Tryz.prog 165 #[.slice A1 m c1, .slice A2 (limbs (b * d)).length c2] w1 (NumOut w1 (r1 - d * b))) := Lib.hid (fun A1 c1 m A2 c2 w1 h1 h2 h3 => by
            have h := minus_any A1 c1 r1 A2 c2 (b * d) (by rw [Nat.mul_comm]; exact hdle) w1 w1.heap.size w1.heap.size (Nat.le_refl _) (Nat.le_refl _) h2 h3
            rw [h1, Nat.mul_comm b d] at h
            rw [Nat.mul_comm b d]
            exact h)
          have HST : Hid (DivSt la b n k (q.set k (d : Int)) (r1 - d * b)) := Lib.hid (by
            have h := hst.out.step (by omega) HX.out hx1.1 (d := d) hdlt (by rw [HR1.out]; exact hdle) (by rw [HR1.out]; exact hdrem)
            rw [HR1.out] at h
            exact h)
          clear hlt heq hd hr1lt hdle hdrem
          go_wp2_with (first | (at_builtin; refine wpList_appN elem_num _ _ rfl wr.heap.size _ 1 [.int .i64 x] rfl (World.ownsRow_lit wr #[.int .i64 x] 1 (Nat.le_refl _) (by decide) rfl) wr.heap.size Ar m cr _ rfl (hrd.alloc (Nat.le_refl _) _) (by intro u hu; obtain ⟨z, _, rfl⟩ := List.mem_map.1 hu; rfl) (by omega) (by simp) rfl ?_; intro A1 c1 w1 hown1 hg1; have hb1 : Below wr.heap.size wr w1 := HGB.out _ hg1; have hbel1 : Below w.heap.size w w1 := hbel.trans (hb1.mono (by omega)); have hz1 := hb1.size; clear hg1) | (go_at_call 162; refine (HT.out _ _ _ hown1).mono ?_; rintro e w2 ⟨m1, c2, rfl, hm1, hn1, hh1, rfl⟩) | (go_at_call 163; refine (HCM.out _ _ _ _ hm1.out hn1 hbel1).mono ?_; rintro e w3 ⟨rfl, hb3⟩; have hbel3 : Below w.heap.size w w3 := hbel1.trans (hb3.mono (by omega)); have hz3 := hb3.size; have hq3 := own_below (own_below hown hb1) hb3; have hn3 : NumAt w3 w3.heap.size A1 c2 r1 := (hn1.below hb3).more hz3) | (go_at_call 164; refine (HDG.out _ _ _ _ hm1.out hn3 hbel3).mono ?_; rintro e w4 ⟨rfl, hb4⟩; have hbel4 : Below w.heap.size w w4 := hbel3.trans (hb4.mono (by omega)); have hz4 := hb4.size; have hq4 := own_below hq3 hb4; have hn4 : NumAt w4 w4.heap.size A1 c2 r1 := (hn3.below hb4).more hz4; have cq : w4.cell? ⟨w.heap.size, k, none⟩ = some (.int .i64 0) := HCQ.out _ hq4; have fq : w4.frozen? ⟨w.heap.size, k, none⟩ = false := hq4.frozenAt k) | (go_at_call 166; refine (HTM.out _ (hbel4.setCell (p := ⟨w.heap.size, k, none⟩) (Nat.le_refl _) _)).mono ?_; rintro e w5 ⟨A5, c5, rfl, hn5, hh5, hb5⟩) | (go_at_call 165; refine (HMI.out _ _ _ _ _ _ hm1.out (((num_store hn4 hh1 (p := ⟨w.heap.size, k, none⟩) (Nat.lt_succ_self _) (.int .i64 d)).below (hb5.mono (by simp))).more (by have := hb5.size; simp at this; omega)) hn5).mono ?_; rintro e w6 ⟨A6, c6, rfl, hn6, hh6, hb6⟩))
          go_roundw
          case rel =>
            have hs5 : w4.heap.size ≤ w5.heap.size := by have := hb5.size; simpa using this
            have hs6 := hb6.size
            refine ⟨k, q.set k (d : Int), r1 - d * b, _, A6, c6, by omega, rfl, rfl, Lib.hid rfl, HST, ?_, hn6, ?_, ((hbel4.setCell (p := ⟨w.heap.size, k, none⟩) (Nat.le_refl _) _).trans (hb5.mono (by simp; omega))).trans (hb6.mono (by omega)), by omega⟩
            · have h := hq4.stored k (.int .i64 d)
              rw [List.map_set]
              exact own_below (own_below h.1 hb5) hb6
            · intro h
              obtain ⟨ad6, e6, h6⟩ := hh6 h
              exact ⟨ad6, e6, by omega⟩
          case measure => simp [intOf]
end Go.Proofs.YthcmopgdjibojaaGreatDoor.nt

/- nat: read. -/
namespace Go.Proofs.YthcmopgdjibojaaGreatDoor.nt
open Go.RowKit
open Go.Lib (decDigits nDigits itoa decDigits_length nDigits_pos)
open Go.Proofs.YthcmopgdjibojaaGreatDoor.lib Go.Proofs.YthcmopgdjibojaaGreatDoor.app
set_option linter.unusedVariables false
set_option linter.unusedSimpArgs false

def ten (n : Nat) : Nat := 10 ^ n
theorem ten_succ (n : Nat) : ten (n + 1) = 10 * ten n := by unfold ten; rw [Nat.pow_succ, Nat.mul_comm]
theorem ten_le {n : Nat} (h : n ≤ 9) : ten n ≤ 1000000000 := by
  have : ten n ≤ ten 9 := Nat.pow_le_pow_right (by decide) h
  exact this
theorem valD_lt {l : List UInt8} (h : DigS l) : valD l < ten l.length := by
  have key : ∀ m : List UInt8, DigS m.reverse → valD m.reverse < ten m.length := by
    intro m
    induction m with
    | nil => intro _; exact Nat.lt_succ_self 0
    | cons c m ih =>
      intro hd
      rw [List.reverse_cons] at hd ⊢
      have h1 := ih (fun x hx => hd x (List.mem_append_left _ hx))
      have h2 := hd c (List.mem_append_right _ (List.mem_singleton.2 rfl))
      rw [valD_snoc, List.length_cons, ten_succ]
      omega
  have := key l.reverse (by rw [List.reverse_reverse]; exact h)
  rwa [List.reverse_reverse, List.length_reverse] at this
theorem valD_take {l : List UInt8} {k : Nat} (hk : k < l.length) : valD (l.take (k + 1)) = 10 * valD (l.take k) + (l[k].toNat - 48) := by
  rw [List.take_succ_eq_append_getElem hk, valD_snoc]
/-- Reading: what is left of the text, what has been read. -/
structure ReadSt (n : Nat) (l : List UInt8) (o : List Int) (k : Nat) : Prop where
  dig : DigS l
  lim : Lim o
  len : o.length = k
  val : b9 k * valD l + valL o = n
theorem ReadSt.step {n : Nat} {l : List UInt8} {o : List Int} {k a : Nat} (h : ReadSt n l o k) (ha : a ≤ l.length) (hw : l.length - a ≤ 9) (hfull : a = 0 ∨ l.length - a = 9) : ReadSt n (l.take a) (o ++ [((valD (l.drop a) : Nat) : Int)]) (k + 1) := by
  have h1 := valD_lt (h.dig.drop a)
  rw [List.length_drop] at h1
  have h2 := ten_le hw
  refine ⟨h.dig.take a, h.lim.snoc (by omega) (by omega), by rw [List.length_append, h.len]; rfl, ?_⟩
  have h3 := valD_app (l.take a) (l.drop a)
  rw [List.take_append_drop, List.length_drop] at h3
  have hv := h.val
  rw [h3] at hv
  rw [valL_snoc, h.len, b9_succ]
  rcases hfull with rfl | h9
  · rw [List.take_zero, valD_nil] at hv ⊢
    rw [← hv]
    simp
    omega
  · rw [h9] at hv
    rw [← hv]
    have : ((10 ^ 9 : Nat) : Int) = 1000000000 := by decide
    rw [Int.natCast_add, Int.natCast_mul, this]
    grind
theorem ext_list (t : ByteArray) (a : Nat) : (t.extract 0 a).data.toList = t.data.toList.take a := by
  simp
theorem ext_size (t : ByteArray) (a : Nat) (h : a ≤ t.size) : (t.extract 0 a).size = a := by
  simp; omega
set_option maxRecDepth 20000 in
set_option maxHeartbeats 1000000 in
theorem read_any (n : Nat) (hn : nDigits n ≤ 1000000) (w : World) :
    Calls Tryz.prog 161 #[.string (natS n)] w (NumOut w n) := by
  obtain ⟨s, hs⟩ : ∃ s, natS n = s := ⟨_, rfl⟩
  have hz : s.size ≤ 1000000 := by rw [← hs, natS_size]; exact hn
  have HS : Hid (ReadSt n s.data.toList [] 0) := Lib.hid (by
    rw [← hs]
    refine ⟨dec_digs n, Lim.nil, rfl, ?_⟩
    rw [natS_list, valD_dec, b9_zero, valL]; omega)
  rw [hs]
  clear hs hn
  go_enter Tryz.func161, Tryz.ntmps161
  go_wp2
  go_loopw [0, 3, 4, 5, 6] (fun v o _ _ _ wr => ∃ (t : ByteArray) (l : List Int) (k : Nat), v = .string t ∧ t.size ≤ 1000000 ∧ k + t.size ≤ 1000000 ∧ (∃ A c, o = .slice A k c) ∧ wr.ownsRow w.heap.size 3 1 o k (l.map (.int .i64)) ∧ Hid (ReadSt n t.data.toList l k) ∧ Below w.heap.size w wr) (fun v _ _ _ _ _ => match v with | .string t => t.size | _ => 0)
  case atStart => exact ⟨s, [], 0, rfl, hz, by omega, ⟨_, _, rfl⟩, World.ownsRow_nil _ _ _ _, HS, Below.refl _ _⟩
  case round =>
    obtain ⟨t, l, k, rfl, hts, hkt, ⟨A1, c1, rfl⟩, hown, hst, hbel⟩ := hrel
    have hz' := hbel.size
    have hlk : l.length = k := hst.out.len
    by_cases h0 : t.size = 0
    · have HV : Hid (valL l = (n : Int)) := Lib.hid (by
        have h1 := hst.out.val
        have h2 : t.data.toList = [] := List.eq_nil_of_length_eq_zero (by have : t.data.toList.length = t.size := rfl; omega)
        rw [h2, valD_nil] at h1
        omega)
      have HT : Hid (Calls Tryz.prog 162 #[.slice A1 k c1] wr fun e w' => ∃ m' c', e = .returned (.slice A1 m' c') ∧ Hid ((limbs n).length = m') ∧ NumAt wr wr.heap.size A1 c' n ∧ HiA w.heap.size A1 n ∧ w' = wr) := Lib.hid (by
        have hown' : wr.ownsRow w.heap.size 3 1 (.slice A1 l.length c1) l.length (l.map (.int .i64)) := by rw [hlk]; exact hown
        have h4 := trim_any A1 c1 l hst.out.lim wr wr.heap.size (Ints.of_own hown' (by rw [hlk]; omega)) (by rw [hlk]; exact own_cap hown)
        rw [hlk] at h4
        refine h4.mono ?_
        rintro e w2 ⟨m', c', rfl, ht, rfl⟩
        have h5 := trim_num ht hown' (by rw [hlk]; omega) HV.out
        exact ⟨m', c', rfl, Lib.hid h5.1, h5.2.1, h5.2.2, rfl⟩)
      clear hlk
      go_wp2_with (go_at_call 162; refine HT.out.mono ?_; rintro e w2 ⟨m1, c2, rfl, hm1, hn1, hh1, rfl⟩)
      go_ret
      exact ⟨A1, c2, by rw [hm1.out]; rfl, hn1, hh1, hbel⟩
    · clear hlk
      have HDG : Hid (∀ j (h : j < t.size), 48 ≤ t[j].toNat ∧ t[j].toNat ≤ 57) := Lib.hid (fun j h => hst.out.dig _ (List.getElem_mem (l := t.data.toList) (by simpa using h)))
      by_cases h9 : t.size ≤ 9
      · go_wp2
        have htl : ByteArray.empty.data.toList = t.data.toList.take 0 := rfl
        have htz : ByteArray.empty.size = 0 := rfl
        have HTT := Lib.hid (And.intro htl htz)
        clear htl htz
        go_loop [5, 6] (fun lv i => ∃ (j v : Nat), 0 ≤ j ∧ j ≤ t.size ∧ i = .int .i64 j ∧ lv = .int .i64 v ∧ v ≤ 999999999 ∧ Hid (v = valD ((t.data.toList.drop 0).take (j - 0)))) (fun _ i => t.size - (intOf i).toNat)
        case atStart => exact ⟨0, 0, by omega, by omega, rfl, rfl, by omega, Lib.hid (by rw [Nat.sub_self]; rfl)⟩
        case round =>
          obtain ⟨j, v, hj1, hj2, rfl, rfl, hv, hvv⟩ := hrel
          by_cases hlt : j < t.size
          · obtain ⟨g1, g2⟩ := HDG.out j hlt
            have HV' : Hid (10 * v + (t[j].toNat - 48) = valD ((t.data.toList.drop 0).take (j + 1 - 0))) := Lib.hid (by
              have h1 : j - 0 < (t.data.toList.drop 0).length := by rw [List.length_drop]; have : t.data.toList.length = t.size := rfl; omega
              have h2 := valD_take h1
              rw [show j + 1 - 0 = j - 0 + 1 by omega, h2, ← hvv.out]
              have h3 : (t.data.toList.drop 0)[j - 0] = t[j] := by
                rw [List.getElem_drop]
                have e : 0 + (j - 0) = j := by omega
                simp only [e]
                rfl
              have h4 : (t.data.toList.drop 0)[j - 0].toNat = t[j].toNat := by rw [h3]
              omega)
            have hv' : 10 * v + (t[j].toNat - 48) ≤ 999999999 := by
              have h1 := HV'.out
              have h2 := valD_lt (l := (t.data.toList.drop 0).take (j + 1 - 0)) ((hst.out.dig.drop 0).take _)
              have h3 := ten_le (n := ((t.data.toList.drop 0).take (j + 1 - 0)).length) (by rw [List.length_take]; omega)
              omega
            go_wp2
            go_round
            case rel => exact ⟨j + 1, 10 * v + (t[j].toNat - 48), by omega, by omega, by go_num, by congr 1; omega, hv', HV'⟩
            case measure => simp [intOf]; omega
          · obtain rfl : j = t.size := by omega
            have HE : Hid ((v : Int) = ((valD (t.data.toList.drop 0) : Nat) : Int)) := Lib.hid (by
              rw [hvv.out, List.take_of_length_le (by rw [List.length_drop]; have : t.data.toList.length = t.size := rfl; omega)])
            have hkb : k < 17592186044416 := by omega
            go_wp2_with (at_builtin; refine push_num rfl _ _ rfl w.heap.size _ k l rfl hown _ rfl hkb (by omega) ?_; intro A2 c2 w2 hown2 hb2 hz2)
            go_roundw
            case rel =>
              refine ⟨ByteArray.empty, l ++ [(v : Int)], k + 1, rfl, by rw [HTT.out.2]; omega, by rw [HTT.out.2]; omega, ⟨A2, c2, rfl⟩, hown2, Lib.hid ?_, hbel.trans hb2⟩
              rw [HTT.out.1, HE.out]
              have hl : t.data.toList.length = t.size := rfl
              refine hst.out.step (by omega) (by omega) ?_
              first
                | exact Or.inl rfl
                | exact Or.inr (by have := HGA.out; omega)
            case measure => show (ByteArray.empty).size < t.size; rw [HTT.out.2]; omega
      · have ha : (t.size : Int) - 9 = ((t.size - 9 : Nat) : Int) := by omega
        have HA := Lib.hid ha
        clear ha
        obtain ⟨a, hga⟩ : ∃ a, t.size - 9 = a := ⟨_, rfl⟩
        go_wp2
        rw [HA.out, hga]
        have hga' : t.size = a + 9 := by omega
        clear HA hga
        have HGA := Lib.hid hga'
        have hal : a < t.size := by omega
        have hal9 : t.size ≤ a + 9 := by omega
        clear hga'
        have HTT := Lib.hid (And.intro (ext_list t a) (ext_size t a (by omega)))
        go_loop [5, 6] (fun lv i => ∃ (j v : Nat), a ≤ j ∧ j ≤ t.size ∧ i = .int .i64 j ∧ lv = .int .i64 v ∧ v ≤ 999999999 ∧ Hid (v = valD ((t.data.toList.drop a).take (j - a)))) (fun _ i => t.size - (intOf i).toNat)
        case atStart => exact ⟨a, 0, by omega, by omega, rfl, rfl, by omega, Lib.hid (by rw [Nat.sub_self]; rfl)⟩
        case round =>
          obtain ⟨j, v, hj1, hj2, rfl, rfl, hv, hvv⟩ := hrel
          by_cases hlt : j < t.size
          · obtain ⟨g1, g2⟩ := HDG.out j hlt
            have HV' : Hid (10 * v + (t[j].toNat - 48) = valD ((t.data.toList.drop a).take (j + 1 - a))) := Lib.hid (by
              have h1 : j - a < (t.data.toList.drop a).length := by rw [List.length_drop]; have : t.data.toList.length = t.size := rfl; omega
              have h2 := valD_take h1
              rw [show j + 1 - a = j - a + 1 by omega, h2, ← hvv.out]
              have h3 : (t.data.toList.drop a)[j - a] = t[j] := by
                rw [List.getElem_drop]
                have e : a + (j - a) = j := by omega
                simp only [e]
                rfl
              have h4 : (t.data.toList.drop a)[j - a].toNat = t[j].toNat := by rw [h3]
              omega)
            have hv' : 10 * v + (t[j].toNat - 48) ≤ 999999999 := by
              have h1 := HV'.out
              have h2 := valD_lt (l := (t.data.toList.drop a).take (j + 1 - a)) ((hst.out.dig.drop a).take _)
              have h3 := ten_le (n := ((t.data.toList.drop a).take (j + 1 - a)).length) (by rw [List.length_take]; omega)
              omega
            go_wp2
            go_round
            case rel => exact ⟨j + 1, 10 * v + (t[j].toNat - 48), by omega, by omega, by go_num, by congr 1; omega, hv', HV'⟩
            case measure => simp [intOf]; omega
          · obtain rfl : j = t.size := by omega
            have HE : Hid ((v : Int) = ((valD (t.data.toList.drop a) : Nat) : Int)) := Lib.hid (by
              rw [hvv.out, List.take_of_length_le (by rw [List.length_drop]; have : t.data.toList.length = t.size := rfl; omega)])
            have hkb : k < 17592186044416 := by omega
            go_wp2_with (at_builtin; refine push_num rfl _ _ rfl w.heap.size _ k l rfl hown _ rfl hkb (by omega) ?_; intro A2 c2 w2 hown2 hb2 hz2)
            go_roundw
            case rel =>
              refine ⟨t.extract 0 a, l ++ [(v : Int)], k + 1, rfl, by rw [HTT.out.2]; omega, by rw [HTT.out.2]; omega, ⟨A2, c2, rfl⟩, hown2, Lib.hid ?_, hbel.trans hb2⟩
              rw [HTT.out.1, HE.out]
              have hl : t.data.toList.length = t.size := rfl
              refine hst.out.step (by omega) (by omega) ?_
              first
                | exact Or.inl rfl
                | exact Or.inr (by have := HGA.out; omega)
            case measure => show (t.extract 0 a).size < t.size; rw [HTT.out.2]; omega
end Go.Proofs.YthcmopgdjibojaaGreatDoor.nt
