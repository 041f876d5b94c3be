import Derived.Test.YthcmopgdjibojaaGreatDoorNatP
import Derived.Test.YthcmopgdjibojaaGreatDoorAimY
import Derived.Deep.QuietTactic
import Derived.BigQuiet
import Derived.Outline
/- nat: Right, trim, limb, compare (numbers that are right). -/
namespace Go.Proofs.YthcmopgdjibojaaGreatDoor.nt
open Go.RowKit
open Go.Lib (decDigits nDigits itoa decDigits_length nDigits_pos)
open Go.Proofs.YthcmopgdjibojaaGreatDoor.lib
set_option linter.unusedVariables false
set_option linter.unusedSimpArgs false

def natS (n : Nat) : ByteArray := ⟨(Go.Lib.decDigits n).toArray⟩
theorem natS_list (n : Nat) : (natS n).data.toList = Go.Lib.decDigits n := rfl
theorem natS_size (n : Nat) : (natS n).size = Go.Lib.nDigits n := by
  rw [← decDigits_length]; rfl
theorem limb_any (A : Option Addr) (c : Nat) (l : List Int) (k : Nat) (w : World) (B : Nat) (hl : Ints w B A l) :
    Calls Tryz.prog 208 #[.slice A l.length c, .int .i64 k] w fun e w' => e = .returned (.int .i64 (l[k]?.getD 0)) ∧ w = w' := by
  have hlen := hl.len
  by_cases h : k < l.length
  · obtain ⟨ad, x, rfl, hadb, hx, hcx⟩ := hl.at_ h
    have HX := Lib.hid hx
    clear hx
    go_enter Tryz.func208, Tryz.ntmps208
    go_wp2
    go_ret
    exact ⟨ret_int (by rw [HX.out]; rfl), rfl⟩
  · have HX : Hid (l[k]?.getD 0 = 0) := Lib.hid (by rw [List.getElem?_eq_none (by omega)]; rfl)
    go_enter Tryz.func208, Tryz.ntmps208
    go_wp2
    go_ret
    exact ⟨ret_int (by rw [HX.out]), rfl⟩
theorem loop_list (s : ByteArray) : ∀ (m i : Nat) (r : List UInt8), s.size - i = m → ByteArray.toList.loop s i r = r.reverse ++ s.data.toList.drop i
  | 0, i, r, h => by
    rw [ByteArray.toList.loop, if_neg (by omega), List.drop_of_length_le (by simp; omega)]
    simp
  | m + 1, i, r, h => by
    have hl : i < s.data.toList.length := by simp; omega
    rw [ByteArray.toList.loop, if_pos (by omega), loop_list s m (i + 1) _ (by omega), List.drop_eq_getElem_cons hl]
    simp [ByteArray.get!]
    have hs : i < s.data.size := by simpa using hl
    exact getElem!_pos s.data i hs
theorem toList_data (s : ByteArray) : s.toList = s.data.toList := by
  show ByteArray.toList.loop s 0 [] = _
  rw [loop_list s s.size 0 [] (by omega)]
  simp
theorem right_any (n : Nat) (hn : nDigits n ≤ 1000000) (w : World) :
    Calls Tryz.prog 72 #[.string (natS n)] w fun e w' => e = .returned (.bool true) ∧ w = w' := by
  obtain ⟨s, hs⟩ : ∃ s, natS n = s := ⟨_, rfl⟩
  have hz : s.size ≤ 1000000 := by rw [← hs, natS_size]; exact hn
  have hd : ∀ k (h : k < s.size), 48 ≤ s[k].toNat ∧ s[k].toNat ≤ 57 := fun k h => by
    subst hs
    exact dec_digs n _ (List.getElem_mem (l := (natS n).data.toList) (by simpa using h))
  have hne : 0 < s.size := by rw [← hs, natS_size]; exact nDigits_pos n
  have h0 : s.toList = decDigits n := by rw [toList_data, ← hs]; rfl
  have e1 : ¬ s.toList = [] := by rw [h0]; exact dec_ne_nil n
  have e2 : s.toList.isEmpty = false := by
    rw [h0]
    cases h : decDigits n with
    | nil => exact absurd h (dec_ne_nil n)
    | cons => rfl
  have hc : ¬ (s[0].toNat : Int) = 48 ∨ ((s[0].toNat : Int) = 48 ∧ (!s.toList == [48]) = false) := by
    by_cases h48 : (s[0].toNat : Int) = 48
    · refine .inr ⟨h48, ?_⟩
      obtain ⟨c, r, h1, h2⟩ := dec_head n
      have h3 : s.data.toList = c :: r := by rw [← hs]; exact h1
      have h4 : s[0] = c := by
        have : s.data.toList[0]'(by simpa using hne) = c := by simp only [h3]; rfl
        exact this
      rw [h4] at h48
      have h5 := h2 (by omega)
      subst h5
      rw [h0, h1]
      have h6 : c = 48 := UInt8.toNat_inj.1 (by show c.toNat = 48; omega)
      rw [h6]; rfl
    · exact .inl h48
  rw [hs]
  have HD := Lib.hid hd
  clear hd hs h0
  rcases hc with hc | ⟨hc, hc2⟩
  all_goals
    go_enter Tryz.func72, Tryz.ntmps72
    go_wp2
    go_loop [3, 17] (fun _ i => ∃ k : Nat, k ≤ s.size ∧ i = .int .i64 k) (fun _ i => s.size - (intOf i).toNat)
    case atStart => exact ⟨0, by omega, rfl⟩
    case round =>
      obtain ⟨k, hk, rfl⟩ := hrel
      by_cases hlt : k < s.size
      · obtain ⟨g1, g2⟩ := HD.out k hlt
        have g3 : ¬ (s[k].toNat : Int) < 48 := by omega
        have g4 : ¬ (57 : Int) < (s[k].toNat : Int) := by omega
        go_wp2
        go_round
        case rel => exact ⟨k + 1, by omega, by go_num⟩
        case measure => simp [intOf]; omega
      · have hkn : k = s.size := by omega
        subst hkn
        clear hlt
        go_wp2
        go_ret
        exact ⟨rfl, rfl⟩

/-! trim. -/
theorem trim_step {l : List Int} {k : Nat} (hk : 0 < k) (hx : l[k - 1]? = some 0) : valL (l.take (k - 1)) = valL (l.take k) := by
  have h := valL_take hx
  rw [show k - 1 + 1 = k by omega] at h
  rw [h]; omega
theorem trim_end {l : List Int} (hl : Lim l) {k : Nat} (hk : 0 < k) {x : Int} (hx : l[k - 1]? = some x) (h0 : x ≠ 0) : limbs (valL (l.take k)).toNat = l.take k := by
  refine limbs_of (hl.take k) fun y hy => ?_
  have h1 : l.take k = l.take (k - 1) ++ [x] := by
    obtain ⟨hlt, rfl⟩ := List.getElem?_eq_some_iff.1 hx
    have := List.take_succ_eq_append_getElem hlt
    rw [show k - 1 + 1 = k by omega] at this
    exact this
  rw [h1, List.getLast?_append] at hy
  simp at hy
  omega
/-- The limbs without leading zeros: how many. -/
def TrimIs (l : List Int) (m c : Nat) : Prop := limbs (valL l).toNat = l.take m ∧ m ≤ l.length ∧ m ≤ c
theorem TrimIs.len {l : List Int} {m c : Nat} (h : TrimIs l m c) : (limbs (valL l).toNat).length = m := by
  rw [h.1, List.length_take]; have := h.2.1; omega
def TrimOut (A : Option Addr) (l : List Int) (w : World) (e : Ending) (w' : World) : Prop := ∃ m c, e = .returned (.slice A m c) ∧ TrimIs l m c ∧ w = w'
theorem trimOut_mk {A : Option Addr} {l : List Int} {w : World} {k c : Nat} (hc : l.length ≤ c) (hk : k ≤ l.length) (hv : valL (l.take k) = valL l) (h : limbs (valL (l.take k)).toNat = l.take k) : TrimOut A l w (.returned (.slice A k c)) w := by
  rw [hv] at h
  exact ⟨k, c, rfl, ⟨h, hk, by omega⟩, rfl⟩
set_option maxHeartbeats 1000000 in
theorem trim_any (A : Option Addr) (c : Nat) (l : List Int) (hL : Lim l) (w : World) (B : Nat) (hl : Ints w B A l) (hc : l.length ≤ c) :
    Calls Tryz.prog 162 #[.slice A l.length c] w (TrimOut A l w) := by
  have hlen := hl.len
  have HL := Lib.hid hL
  clear hL
  go_enter Tryz.func162, Tryz.ntmps162
  go_wp2
  go_loop [0] (fun v => ∃ k : Nat, k ≤ l.length ∧ v = .slice A k c ∧ Hid (valL (l.take k) = valL l)) (fun v => match v with | .slice _ n _ => n | _ => 0)
  case atStart => exact ⟨l.length, by omega, rfl, Lib.hid (by rw [List.take_length])⟩
  case round =>
    obtain ⟨k, hk, rfl, hv⟩ := hrel
    by_cases h0 : k = 0
    · subst h0
      go_wp2
      go_ret
      exact trimOut_mk hc hk hv.out (by rw [List.take_zero]; exact limbs_zero)
    · obtain ⟨ad, x, hA, hadb, hx, hcx⟩ := hl.at_ (k := k - 1) (by omega)
      have HX := Lib.hid hx
      have hk1 : ((k : Int) - 1).toNat = k - 1 := by omega
      have hk2 : (1 : Int) ≤ (k : Int) := by omega
      have hk3 : (0 : Int) ≤ (k : Int) - 1 := by omega
      subst hA
      clear hx
      by_cases hx0 : x = 0
      · subst hx0
        have HV : Hid (valL (l.take (k - 1)) = valL l) := Lib.hid ((trim_step (by omega) HX.out).trans hv.out)
        go_wp2
        go_round
        case rel => exact ⟨k - 1, by omega, rfl, HV⟩
        case measure => simp; omega
      · have HE := Lib.hid (trim_end HL.out (by omega) HX.out hx0)
        go_wp2
        go_ret
        exact trimOut_mk hc hk hv.out HE.out
end Go.Proofs.YthcmopgdjibojaaGreatDoor.nt

/- nat: rows of limbs that grow; minus, times. -/
namespace Go.Proofs.YthcmopgdjibojaaGreatDoor.nt
open Go.RowKit
open Go.Lib (decDigits nDigits itoa decDigits_length nDigits_pos)
open Go.Proofs.YthcmopgdjibojaaGreatDoor.lib
set_option linter.unusedVariables false
set_option linter.unusedSimpArgs false

theorem own_cap {w : World} {base c n : Nat} {A : Option Addr} {e : TypeId} {xs : List Value} (h : w.ownsRow base e 1 (.slice A n c) n xs) : n ≤ c := by
  rcases h.2 with ⟨h1, h2⟩ | ⟨g, cap, cur, hv, _, _, hn, _⟩
  · omega
  · injection hv with _ _ hv
    omega
theorem ints_take {w : World} {B : Nat} {A : Option Addr} {l : List Int} (h : Ints w B A l) (k : Nat) : Ints w B A (l.take k) := by
  refine ⟨⟨by simp, fun hn => ?_⟩, by have := h.2; rw [List.length_take]; omega⟩
  have hl : 0 < l.length := by rw [List.length_take] at hn; omega
  obtain ⟨ad, h1, h2, h3⟩ := h.1.2 hl
  refine ⟨ad, h1, h2, fun j u hu => h3 j u ?_⟩
  rw [List.map_take, List.getElem?_take] at hu
  split at hu
  · exact hu
  · cases hu
/-- A number in memory. -/
def NumAt (w : World) (B : Nat) (A : Option Addr) (c : Nat) (n : Nat) : Prop := Ints w B A (limbs n) ∧ (limbs n).length ≤ c
theorem NumAt.below {w w' : World} {B : Nat} {A : Option Addr} {c n : Nat} (h : NumAt w B A c n) (hb : Below B w w') : NumAt w' B A c n := ⟨h.1.below hb, h.2⟩
theorem NumAt.more {w : World} {B B' : Nat} {A : Option Addr} {c n : Nat} (h : NumAt w B A c n) (hB : B ≤ B') : NumAt w B' A c n := ⟨h.1.more hB, h.2⟩
/-- A number that does not lie below a block. -/
def HiA (lo : Nat) (A : Option Addr) (n : Nat) : Prop := 0 < n → ∃ ad, A = some ad ∧ lo ≤ ad.block
/-- A number handed back. -/
def NumOut (w : World) (n : Nat) (e : Ending) (w' : World) : Prop := ∃ A c, e = .returned (.slice A (limbs n).length c) ∧ NumAt w' w'.heap.size A c n ∧ HiA w.heap.size A n ∧ Below w.heap.size w w'
/-- 'out = append(out, x)' of one limb. -/
theorem push_num {ops : Array Oper} {rest : List Oper} {o : Oper} {a : Act} {Q : Exit → Act → World → Prop} {w : World} (hgd : o.guard = none) (s x : Operand)
    (ho : o.op = .call { callee := .builtin .append, args := #[s, x], argTypes := #[180, 180] })
    (base : Nat) (v : Value) (n : Nat) (xs : List Int) (hs : a.eval s = v) (hown : w.ownsRow base 3 1 v n (xs.map (.int .i64)))
    (u : Int) (hx : a.eval x = .slice (some ⟨w.heap.size, 0, none⟩) 1 1) (hn : n < 17592186044416) (hbase : base ≤ w.heap.size)
    (h : ∀ A c w', w'.ownsRow base 3 1 (.slice A (n + 1) c) (n + 1) ((xs ++ [u]).map (.int .i64)) → Below base w w' → w.heap.size < w'.heap.size → wpList Tryz.prog ops Q rest (a.put o.dst (.slice A (n + 1) c)) w') :
    wpList Tryz.prog ops Q (o :: rest) a (w.alloc (.cells #[.int .i64 u] 3)) := by
  obtain ⟨i0, hi, hz0, hz1, hz2⟩ := info_parts int_info
  refine wpList_append_own _ hgd s x _ ho base 3 i0 (.int .i64 0) 1 8 Tryz.underlying180 hi hz0 hz1 hz2 rfl (by decide) v n (xs.map (.int .i64)) hs (hown.alloc _) ⟨w.heap.size, 0, none⟩ 1 1 [.int .i64 u] hx rfl (cell_one_new _ _ _) ?_ (by unfold maxLen; omega) (by omega) (by simp; omega) ?_
  · intro u hu
    simp at hu
    subst hu
    rfl
  intro v' w1 hown' hg _
  obtain ⟨A, c, rfl⟩ := own_form hown'
  refine h A c w1 (by simpa using hown') ?_ ?_
  · exact ((Below.refl base w).alloc hbase _).grown hg (by simp; omega) (own_base hown)
  · have := hg.size; simp at this; omega
/-- make(number, 0, n). -/
theorem make_room {ops : Array Oper} {rest : List Oper} {o : Oper} {a : Act} {Q : Exit → Act → World → Prop} {w : World} (hg : o.guard = none) (l c : Operand) (hop : o.op = Op.makeSlice 180 l c)
    (n : Nat) (hl : a.eval l = .int .i64 0) (hc : a.eval c = .int .i64 n) (hn : n < 17592186044416)
    (h : ∀ c w', w'.ownsRow w.heap.size 3 1 (.slice (some ⟨w.heap.size, 0, none⟩) 0 c) 0 (([] : List Int).map (.int .i64)) → Below w.heap.size w w' → wpList Tryz.prog ops Q rest (a.put o.dst (.slice (some ⟨w.heap.size, 0, none⟩) 0 c)) w') :
    wpList Tryz.prog ops Q (o :: rest) a w := by
  obtain ⟨i0, hi, hz0, hz1, hz2⟩ := info_parts int_info
  refine wpList_make_own w hg l c 180 hop w.heap.size 3 i0 (.int .i64 0) 1 Tryz.underlying180 hi hz0 hz1 .i64 .i64 n n hl hc rfl (by rw [hz2]; omega) (by unfold maxLen; omega) (Nat.le_refl _) ?_
  intro w' hown hg'
  exact h n w' hown ((Below.refl _ _).grown hg' (Nat.le_refl _) (by intro k hk; cases hk))
/-- Behind trim: the number. -/
theorem NumOut.of_trim {w w1 w' : World} {A : Option Addr} {l : List Int} {e : Ending} {c : Nat} (h : TrimOut A l w1 e w') (hown : w1.ownsRow w.heap.size 3 1 (.slice A l.length c) l.length (l.map (.int .i64))) (hl : l.length ≤ 17592186043904) (hb : Below w.heap.size w w1) {n : Nat} (hn : valL l = n) : NumOut w n e w' := by
  obtain ⟨m, c', rfl, ht, rfl⟩ := h
  have hm := ht.len
  have hi := ints_take (Ints.of_own hown hl) m
  rw [← ht.1] at hi
  rw [hn, Int.toNat_natCast] at hm hi
  refine ⟨A, c', by rw [hm], ⟨hi, by rw [hm]; exact ht.2.2⟩, fun hn0 => ?_, hb⟩
  have hl0 : 0 < l.length := by
    rcases Nat.eq_zero_or_pos l.length with h0 | h0
    · obtain rfl := List.eq_nil_of_length_eq_zero h0
      simp [valL] at hn
      omega
    · exact h0
  obtain ⟨g, cap, hv, hg, hlt⟩ := hown.form hl0
  injection hv with hv
  exact ⟨_, hv, hg⟩
theorem minus_step (o la lb : Int) (k : Nat) (bo bo' x y : Int) (h : o + lb = la + b9 k * bo) : o + b9 k * (x - y - bo + 1000000000 * bo') + (lb + b9 k * y) = la + b9 k * x + b9 (k + 1) * bo' := by
  rw [b9_succ]; grind
set_option maxRecDepth 20000 in
set_option maxHeartbeats 1000000 in
theorem minus_any (A : Option Addr) (c : Nat) (a : Nat) (A' : Option Addr) (c' : Nat) (b : Nat) (hab : b ≤ a) (w : World) (B B' : Nat) (hB : B ≤ w.heap.size) (hB' : B' ≤ w.heap.size) (ha : NumAt w B A c a) (hb : NumAt w B' A' c' b) :
    Calls Tryz.prog 165 #[.slice A (limbs a).length c, .slice A' (limbs b).length c'] w (NumOut w (a - b)) := by
  obtain ⟨la, hla⟩ : ∃ la, limbs a = la := ⟨_, rfl⟩
  obtain ⟨lb, hlb⟩ : ∃ lb, limbs b = lb := ⟨_, rfl⟩
  have hA := ha.1
  have hBi := hb.1
  have LA : Lim la := by rw [← hla]; exact limbs_lim a
  have LB : Lim lb := by rw [← hlb]; exact limbs_lim b
  have VA : valL la = a := by rw [← hla]; exact valL_limbs a
  have VB : valL lb = b := by rw [← hlb]; exact valL_limbs b
  have hll : lb.length ≤ la.length := by
    rw [← hla, ← hlb]
    rcases Nat.lt_or_ge (limbs a).length (limbs b).length with h | h
    · have := len_lt_lt h; omega
    · exact h
  rw [hla] at hA ⊢
  rw [hlb] at hBi ⊢
  have hlen := hA.len
  have HP := Lib.hid (And.intro LA (And.intro LB (And.intro VA (And.intro VB (And.intro hab hll)))))
  clear hla hlb LA LB VA VB hab ha hb hll
  go_enter Tryz.func165, Tryz.ntmps165
  go_wp2_with (at_make; refine make_room rfl _ _ rfl la.length rfl rfl (by omega) ?_; intro c1 w1 hown1 hb1)
  go_loopw [5, 6, 7, 8, 14] (fun v bo _ _ i wr => ∃ (k : Nat) (o : List Int) (b0 : Int), k ≤ la.length ∧ i = .int .i64 k ∧ (∃ A c, v = .slice A k c) ∧ bo = .int .i64 b0 ∧ 0 ≤ b0 ∧ b0 ≤ 1 ∧ wr.ownsRow w.heap.size 3 1 v k (o.map (.int .i64)) ∧ Hid (o.length = k ∧ Lim o ∧ valL o + valL (lb.take k) = valL (la.take k) + b9 k * b0) ∧ Below w.heap.size w wr) (fun _ _ _ _ i _ => la.length - (intOf i).toNat)
  case atStart => exact ⟨0, [], 0, by omega, rfl, ⟨_, _, rfl⟩, rfl, by omega, by omega, hown1, Lib.hid ⟨rfl, Lim.nil, by simp [valL]⟩, hb1⟩
  case round =>
    obtain ⟨k, o, b0, hk, rfl, ⟨A1, c1, rfl⟩, rfl, hb0, hb0', hown, hin, hbel⟩ := hrel
    have hz := hbel.size
    by_cases hlt : k < la.length
    · obtain ⟨ad, x, rfl, hadb, hx, hcx⟩ := (hA.below (hbel.mono hB)).at_ hlt
      obtain ⟨y, hy⟩ : ∃ y, lb[k]?.getD 0 = y := ⟨_, rfl⟩
      have hx1 := HP.out.1.at_ hx
      have hy1 := HP.out.2.1.getD k
      rw [hy] at hy1
      have HX := Lib.hid (And.intro hx hy)
      have HC : Hid (∀ w1, Below wr.heap.size wr w1 → Calls Tryz.prog 208 #[.slice A' lb.length c', .int .i64 k] w1 fun e w' => e = .returned (.int .i64 y) ∧ w' = w1) := Lib.hid (fun w1 hw1 => by
        rw [← hy]
        exact (limb_any A' c' lb k w1 B' ((hBi.below (hbel.mono hB')).below (hw1.mono (by omega)))).mono fun _ _ h => ⟨h.1, h.2.symm⟩)
      have hk0 : (0 : Int) ≤ (k : Int) := by omega
      have hkn : (k : Int) < (la.length : Int) := by omega
      have hs1 : IntKind.i64.wrap (x - y) = x - y := IntWalk.i64_in _ (by omega)
      have hs2 : IntKind.i64.wrap (x - y - b0) = x - y - b0 := IntWalk.i64_in _ (by omega)
      clear hx hy
      go_wp2
      go_quiet ((go_at_call 208; exact Calls.quiet_of_same (HC.out _ (by first | exact Below.refl _ _ | exact bel_drewN (Below.refl _ _) _ | exact Below.drew (Below.refl _ _)))))
      clear hs1 hs2
      have hownW : (wr.drewN nq).ownsRow w.heap.size 3 1 (.slice A1 k c1) k (o.map (.int .i64)) := hown
      have hbelW : Below w.heap.size w (wr.drewN nq) := bel_drewN hbel nq
      have hzW := hbelW.size
      generalize wr.drewN nq = W at hownW hbelW hzW ⊢
      have HSt : Hid (∀ bo' : Int, 0 ≤ x - y - b0 + 1000000000 * bo' → x - y - b0 + 1000000000 * bo' < 1000000000 → (o ++ [x - y - b0 + 1000000000 * bo']).length = k + 1 ∧ Lim (o ++ [x - y - b0 + 1000000000 * bo']) ∧ valL (o ++ [x - y - b0 + 1000000000 * bo']) + valL (lb.take (k + 1)) = valL (la.take (k + 1)) + b9 (k + 1) * bo') := Lib.hid (fun bo' h1 h2 => by
        obtain ⟨i1, i2, i3⟩ := hin.out
        refine ⟨by simp [i1], i2.snoc h1 h2, ?_⟩
        rw [valL_snoc, i1, valL_take HX.out.1, valL_takeD, HX.out.2]
        exact minus_step _ _ _ _ _ _ _ _ i3)
      go_wp2_with (at_builtin; refine push_num rfl _ _ rfl w.heap.size _ k o rfl hownW _ rfl (by omega) (by omega) ?_; intro A2 c2 w2 hown2 hb2 hz2)
      · go_roundw
        case rel => exact ⟨k + 1, _, 1, by omega, by go_num, ⟨A2, c2, rfl⟩, rfl, by omega, by omega, hown2, Lib.hid (by have h := HSt.out 1 (by omega) (by omega); simpa using h), hbelW.trans hb2⟩
        case measure => simp [intOf]; omega
      · go_roundw
        case rel => exact ⟨k + 1, _, 0, by omega, by go_num, ⟨A2, c2, rfl⟩, rfl, by omega, by omega, hown2, Lib.hid (by have h := HSt.out 0 (by omega) (by omega); simpa using h), hbelW.trans hb2⟩
        case measure => simp [intOf]; omega
    · have hkn : k = la.length := by omega
      subst hkn
      clear hlt
      have hlo : o.length = la.length := hin.out.1
      have hint : Ints wr wr.heap.size A1 o := Ints.of_own (c := c1) (by rw [hlo]; exact hown) (by rw [hlo]; omega)
      have HT : Hid (Calls Tryz.prog 162 #[.slice A1 la.length c1] wr (TrimOut A1 o wr)) := Lib.hid (by
        have h := trim_any A1 c1 o hin.out.2.1 wr wr.heap.size hint (by rw [hlo]; exact own_cap hown)
        rw [hlo] at h
        exact h)
      have HV : Hid (valL o = ((a - b : Nat) : Int)) := Lib.hid (by
        obtain ⟨i1, i2, i3⟩ := hin.out
        obtain ⟨LA, LB, VA, VB, hab, hll⟩ := HP.out
        rw [List.take_length, List.take_of_length_le hll, VA, VB] at i3
        have h1 := valL_lt i2
        rw [i1] at h1
        have hb : b0 = 0 := by
          refine Classical.byContradiction fun hne => ?_
          have : b0 = 1 := by omega
          rw [this] at i3
          omega
        rw [hb] at i3
        omega)
      have hlo' := Lib.hid hlo
      clear hlo
      go_wp2_with (go_at_call 162; refine HT.out.mono ?_; rintro e w1 ⟨m', c', rfl, ht, rfl⟩)
      go_ret
      exact NumOut.of_trim (l := o) (w1 := wr) (c := c1) ⟨m', c', rfl, ht, rfl⟩ (by rw [hlo'.out]; exact hown) (by rw [hlo'.out]; omega) hbel HV.out
end Go.Proofs.YthcmopgdjibojaaGreatDoor.nt

/- nat: times, compare. -/
namespace Go.Proofs.YthcmopgdjibojaaGreatDoor.nt
open Go.RowKit
open Go.Lib (decDigits nDigits itoa decDigits_length nDigits_pos)
open Go.Proofs.YthcmopgdjibojaaGreatDoor.lib
set_option linter.unusedVariables false
set_option linter.unusedSimpArgs false

theorem cmpN_any (x y : Int) (w : World) : Calls Tryz.prog 56 #[.int .i64 x, .int .i64 y] w fun e w' => e = .returned (.int .i64 (ordN x y)) ∧ w' = w := (aim.cmpI_any x y w).mono fun _ _ h => ⟨h.1, h.2.symm⟩
theorem times_step (o v m : Int) (k : Nat) (ca d ca' x : Int) (h : o + b9 k * ca = m * v) (hd : d + 1000000000 * ca' = x * m + ca) : o + b9 k * d + b9 (k + 1) * ca' = m * (v + b9 k * x) := by
  rw [b9_succ]
  have e : b9 k * (d + 1000000000 * ca') = b9 k * (x * m + ca) := by rw [hd]
  grind
theorem mul_bd {x m : Int} (h0 : 0 ≤ x) (h1 : x < 1000000000) (g0 : 0 ≤ m) (g1 : m < 1000000000) : 0 ≤ x * m ∧ x * m ≤ 999999998000000001 := by
  constructor
  · exact Int.mul_nonneg h0 g0
  · have h2 : x * m ≤ 999999999 * m := Int.mul_le_mul_of_nonneg_right (by omega) g0
    have h3 : (999999999 : Int) * m ≤ 999999999 * 999999999 := Int.mul_le_mul_of_nonneg_left (by omega) (by omega)
    omega
set_option maxRecDepth 20000 in
set_option maxHeartbeats 1000000 in
theorem times_any (A : Option Addr) (c : Nat) (a : Nat) (m : Int) (hm0 : 0 ≤ m) (hm : m < 1000000000) (w : World) (B : Nat) (hB : B ≤ w.heap.size) (ha : NumAt w B A c a) (hsm : (limbs a).length ≤ 1000000) :
    Calls Tryz.prog 166 #[.slice A (limbs a).length c, .int .i64 m] w (NumOut w (a * m.toNat)) := by
  obtain ⟨la, hla⟩ : ∃ la, limbs a = la := ⟨_, rfl⟩
  have hA := ha.1
  have LA : Lim la := by rw [← hla]; exact limbs_lim a
  have VA : valL la = a := by rw [← hla]; exact valL_limbs a
  rw [hla] at hA hsm ⊢
  have HP := Lib.hid (And.intro LA VA)
  clear hla LA VA ha
  go_enter Tryz.func166, Tryz.ntmps166
  go_wp2_with (at_make; refine make_room rfl _ _ rfl (la.length + 1) rfl rfl (by omega) ?_; intro c1 w1 hown1 hb1)
  go_loopw [5, 6, 8, 15] (fun v ca _ i wr => ∃ (k : Nat) (o : List Int) (b0 : Int), k ≤ la.length ∧ i = .int .i64 k ∧ (∃ A c, v = .slice A k c) ∧ ca = .int .i64 b0 ∧ 0 ≤ b0 ∧ b0 < 1000000000 ∧ wr.ownsRow w.heap.size 3 1 v k (o.map (.int .i64)) ∧ Hid (o.length = k ∧ Lim o ∧ valL o + b9 k * b0 = m * valL (la.take k)) ∧ Below w.heap.size w wr) (fun _ _ _ i _ => la.length - (intOf i).toNat)
  case atStart => exact ⟨0, [], 0, by omega, rfl, ⟨_, _, rfl⟩, rfl, by omega, by omega, hown1, Lib.hid ⟨rfl, Lim.nil, by simp [valL]⟩, hb1⟩
  case round =>
    obtain ⟨k, o, b0, hk, rfl, ⟨A1, c1, rfl⟩, rfl, hb0, hb0', hown, hin, hbel⟩ := hrel
    have hz := hbel.size
    by_cases hlt : k < la.length
    · obtain ⟨ad, x, rfl, hadb, hx, hcx⟩ := (hA.below (hbel.mono hB)).at_ hlt
      have hx1 := HP.out.1.at_ hx
      obtain ⟨hp0, hp1⟩ := mul_bd hx1.1 hx1.2 hm0 hm
      have HX := Lib.hid hx
      have HSt : Hid ((o ++ [(x * m + b0) % 1000000000]).length = k + 1 ∧ Lim (o ++ [(x * m + b0) % 1000000000]) ∧ valL (o ++ [(x * m + b0) % 1000000000]) + b9 (k + 1) * ((x * m + b0) / 1000000000) = m * valL (la.take (k + 1))) := Lib.hid (by
        obtain ⟨i1, i2, i3⟩ := hin.out
        refine ⟨by simp [i1], i2.snoc (by omega) (by omega), ?_⟩
        rw [valL_snoc, i1, valL_take HX.out]
        exact times_step _ _ _ _ _ _ _ _ i3 (by omega))
      clear hx
      go_wp2_with (at_builtin; refine push_num rfl _ _ rfl w.heap.size _ k o rfl hown _ rfl (by omega) (by omega) ?_; intro A2 c2 w2 hown2 hb2 hz2)
      go_roundw
      case rel => exact ⟨k + 1, _, _, by omega, by go_num, ⟨A2, c2, rfl⟩, rfl, by omega, by omega, hown2, HSt, hbel.trans hb2⟩
      case measure => simp [intOf]; omega
    · have hkn : k = la.length := by omega
      subst hkn
      clear hlt
      have HV : Hid (valL (o ++ [b0]) = ((a * m.toNat : Nat) : Int) ∧ Lim (o ++ [b0]) ∧ (o ++ [b0]).length = la.length + 1) := Lib.hid (by
        obtain ⟨i1, i2, i3⟩ := hin.out
        obtain ⟨LA, VA⟩ := HP.out
        rw [List.take_length, VA] at i3
        refine ⟨?_, i2.snoc hb0 hb0', by simp [i1]⟩
        rw [valL_snoc, i1, i3, Int.natCast_mul, Int.toNat_of_nonneg hm0, Int.mul_comm])
      have HT : Hid (∀ A2 c2 w2, w2.ownsRow w.heap.size 3 1 (.slice A2 (la.length + 1) c2) (la.length + 1) ((o ++ [b0]).map (.int .i64)) → Calls Tryz.prog 162 #[.slice A2 (la.length + 1) c2] w2 (TrimOut A2 (o ++ [b0]) w2)) := Lib.hid (fun A2 c2 w2 h => by
        obtain ⟨_, h2, h3⟩ := HV.out
        have h4 := trim_any A2 c2 (o ++ [b0]) h2 w2 w2.heap.size (Ints.of_own (c := c2) (by rw [h3]; exact h) (by rw [h3]; omega)) (by rw [h3]; exact own_cap h)
        rw [h3] at h4
        exact h4)
      go_wp2_with (first | (at_builtin; refine push_num rfl _ _ rfl w.heap.size _ la.length o rfl hown _ rfl (by omega) (by omega) ?_; intro A2 c2 w2 hown2 hb2 hz2) | (go_at_call 162; refine (HT.out _ _ _ (by assumption)).mono ?_; rintro e w1 ⟨m', c', rfl, ht, rfl⟩))
      go_ret
      exact NumOut.of_trim (l := o ++ [b0]) (w1 := w2) (c := c2) ⟨m', c', rfl, ht, rfl⟩ (by rw [HV.out.2.2]; exact hown2) (by rw [HV.out.2.2]; omega) (hbel.trans hb2) HV.out.1

/-! compare. -/
set_option maxRecDepth 20000 in
set_option maxHeartbeats 1000000 in
theorem compare_any (A : Option Addr) (c : Nat) (a : Nat) (A' : Option Addr) (c' : Nat) (b : Nat) (w : World) (B B' : Nat) (hB : B ≤ w.heap.size) (hB' : B' ≤ w.heap.size) (ha : NumAt w B A c a) (hb : NumAt w B' A' c' b) :
    Calls Tryz.prog 163 #[.slice A (limbs a).length c, .slice A' (limbs b).length c'] w fun e w' => e = .returned (.int .i64 (ordN a b)) ∧ Below w.heap.size w w' := by
  obtain ⟨la, hla⟩ : ∃ la, limbs a = la := ⟨_, rfl⟩
  obtain ⟨lb, hlb⟩ : ∃ lb, limbs b = lb := ⟨_, rfl⟩
  have hA := ha.1
  have hBi := hb.1
  have LA : Lim la := by rw [← hla]; exact limbs_lim a
  have LB : Lim lb := by rw [← hlb]; exact limbs_lim b
  have VA : valL la = a := by rw [← hla]; exact valL_limbs a
  have VB : valL lb = b := by rw [← hlb]; exact valL_limbs b
  have HLT : Hid ((la.length < lb.length → a < b) ∧ (lb.length < la.length → b < a)) := Lib.hid (by
    rw [← hla, ← hlb]; exact ⟨len_lt_lt, len_lt_lt⟩)
  rw [hla] at hA ⊢
  rw [hlb] at hBi ⊢
  have hlen := hA.len
  have hlen' := hBi.len
  have HP := Lib.hid (And.intro LA (And.intro LB (And.intro VA VB)))
  clear hla hlb LA LB VA VB ha hb
  obtain ⟨na, hna⟩ : ∃ n, la.length = n := ⟨_, rfl⟩
  obtain ⟨nb, hnb⟩ : ∃ n, lb.length = n := ⟨_, rfl⟩
  rw [hna] at hlen HLT ⊢
  rw [hnb] at hlen' HLT ⊢
  by_cases hne : na = nb
  · subst hne
    have HN := Lib.hid (And.intro hna hnb)
    clear hna hnb
    go_enter Tryz.func163, Tryz.ntmps163
    go_wp2
    go_loopw [5] (fun i wr => ∃ k : Nat, k ≤ na ∧ i = .int .i64 ((k : Int) - 1) ∧ Hid (la.drop k = lb.drop k) ∧ Below w.heap.size w wr) (fun i _ => (intOf i + 1).toNat)
    case atStart => exact ⟨na, by omega, rfl, Lib.hid (by rw [List.drop_of_length_le (by rw [HN.out.1]; exact Nat.le_refl _), List.drop_of_length_le (by rw [HN.out.2]; exact Nat.le_refl _)]), Below.refl _ _⟩
    case round =>
      obtain ⟨k, hk, rfl, hd, hbel⟩ := hrel
      by_cases h0 : k = 0
      · subst h0
        have HE : Hid (ordN a b = 0) := Lib.hid (by
          obtain ⟨_, _, VA, VB⟩ := HP.out
          have := hd.out
          rw [List.drop_zero, List.drop_zero] at this
          rw [this] at VA
          exact ordN_eq (by omega))
        go_wp2
        go_ret
        exact ⟨ret_int (by rw [HE.out]), hbel⟩
      · obtain ⟨ad, x, rfl, hadb, hx, hcx⟩ := (hA.below (hbel.mono hB)).at_ (k := k - 1) (by rw [HN.out.1]; omega)
        obtain ⟨ad', y, rfl, hadb', hy, hcy⟩ := (hBi.below (hbel.mono hB')).at_ (k := k - 1) (by rw [HN.out.2]; omega)
        have hx1 := HP.out.1.at_ hx
        have hy1 := HP.out.2.1.at_ hy
        have hk1 : ((k : Int) - 1).toNat = k - 1 := by omega
        have hk2 : (1 : Int) ≤ (k : Int) := by omega
        have hk3 : (0 : Int) ≤ (k : Int) - 1 := by omega
        have hk4 : (k : Int) - 1 < (na : Int) := by omega
        have HX := Lib.hid (And.intro hx hy)
        have hdr := hd.out
        rw [show k = k - 1 + 1 by omega] at hdr
        have HD := Lib.hid hdr
        clear hx hy hdr
        by_cases hxy : x = y
        · subst hxy
          have HD' : Hid (la.drop (k - 1) = lb.drop (k - 1)) := Lib.hid (by
            rw [drop_at HX.out.1, drop_at HX.out.2, HD.out])
          go_wp2
          go_quiet (fail)
          go_wp2
          go_roundw
          case rel => exact ⟨k - 1, by omega, by congr 1; omega, HD', bel_drewN hbel _⟩
          case measure => simp [intOf]; omega
        · have h1 : (x == y) = false := by simp [hxy]
          have h2 : (x != y) = true := by simp [hxy]
          have HR : Hid (ordN x y = ordN a b) := Lib.hid (by
            obtain ⟨LA, LB, VA, VB⟩ := HP.out
            have hll : la.length = lb.length := HN.out.1.trans HN.out.2.symm
            rcases Int.lt_or_gt_of_ne hxy with h | h
            · have := lt_of_limb LA LB hll HX.out.1 HX.out.2 HD.out h
              rw [VA, VB] at this
              rw [ordN_lt h, ordN_lt this]
            · have := lt_of_limb LB LA hll.symm HX.out.2 HX.out.1 HD.out.symm h
              rw [VA, VB] at this
              rw [ordN_gt h, ordN_gt this])
          clear hxy
          go_wp2
          go_quiet (fail)
          go_wp2
          have hbelW := bel_drewN hbel nq
          have hcx' : (wr.drewN nq).cell? (ad.add (k - 1)) = some (.int .i64 x) := hcx
          have hcy' : (wr.drewN nq).cell? (ad'.add (k - 1)) = some (.int .i64 y) := hcy
          generalize wr.drewN nq = W at hbelW hcx' hcy' ⊢
          go_quiet ((go_at_call 56; exact Calls.quiet_of_same (cmpN_any _ _ _)))
          go_wp2
          go_ret
          exact ⟨ret_int (by rw [HR.out]), bel_drewN hbelW _⟩
  · have hd2 : ((na : Int) == (nb : Int)) = false := by simp; omega
    have hd3 : ((na : Int) != (nb : Int)) = true := by simp; omega
    have HR : Hid (ordN na nb = ordN a b) := Lib.hid (by
      rcases Nat.lt_or_gt_of_ne hne with h | h
      · rw [ordN_lt (by omega), ordN_lt (by have := HLT.out.1 h; omega)]
      · rw [ordN_gt (by omega), ordN_gt (by have := HLT.out.2 h; omega)])
    clear hne hna hnb
    go_enter Tryz.func163, Tryz.ntmps163
    go_wp2_with (go_at_call 56; refine (cmpN_any _ _ _).mono ?_; rintro e w1 ⟨rfl, rfl⟩)
    go_ret
    exact ⟨ret_int (by rw [HR.out]), Below.refl _ _⟩
end Go.Proofs.YthcmopgdjibojaaGreatDoor.nt
