import Derived.Shelf.Strings.Builder1
import Derived.Test.YthcmopgdjibojaaGreatDoorC1
import Derived.Test.YthcmopgdjibojaaGreatDoorShelfN
import Derived.Lib.LaidTab
import Derived.Test.YthcmopgdjibojaaGreatDoorNatY
/- A strings.Builder of the call's own: WriteString; the library's tables. -/
namespace Go.Proofs.YthcmopgdjibojaaGreatDoor.nt
open Go.RowKit
open Go.Proofs.YthcmopgdjibojaaGreatDoor.lib
set_option linter.unusedVariables false
set_option linter.unusedSimpArgs false

abbrev WrtAt := Lib.BuilderAt 261 5
abbrev IsWrt := Lib.IsBuilder 261 5
theorem wrt_size : ((Tryz.prog).info? 261).map (·.size) = some 2 := by kernel_rfl
theorem wrt_lies : liesAt Tryz.prog (Tryz.prog).depth 261 (2 / (Tryz.prog).cellsOf 261) 0 261 1 = true := by kernel_rfl
theorem wrt_byte : ((Tryz.prog).info? 5).map (fun i => (i.zero, i.size, i.bytes)) = some (some (.int .u8 0), 1, 1) := by kernel_rfl
theorem wrt_ne : 261 ≠ 5 := by decide
set_option maxHeartbeats 1000000 in
set_option maxRecDepth 100000 in
theorem copyCheck_used (b : Nat) (w : World) (h0 : w.cell? ⟨b, 0, none⟩ = some (.pointer (some ⟨b, 0, none⟩))) :
    Calls Tryz.prog 247 #[.pointer (some ⟨b, 0, none⟩)] w fun e w' => e = .returned (.tuple #[]) ∧ w' = w := by
  obtain ⟨j, hj, _⟩ := Option.map_eq_some_iff.1 wrt_size
  go_enter Tryz.func247, Tryz.ntmps247
  go_wp2
  rw [Lib.run_neq_ptr_same w _ Tryz.underlying259 hj]
  go_wp2
  go_end0
  exact ⟨rfl, rfl⟩
set_option maxHeartbeats 1000000 in
set_option maxRecDepth 100000 in
theorem copyCheck_fresh (b : Nat) (w : World) (h0 : w.cell? ⟨b, 0, none⟩ = some (.pointer none)) (hsh : w.shape? b = some (261, 2)) (hfz : w.frozen? ⟨b, 0, none⟩ = false) :
    Calls Tryz.prog 247 #[.pointer (some ⟨b, 0, none⟩)] w fun e w' => e = .returned (.tuple #[]) ∧ w' = w.setCell ⟨b, 0, none⟩ (.pointer (some ⟨b, 0, none⟩)) := by
  obtain ⟨j, hj, hjs⟩ := Option.map_eq_some_iff.1 wrt_size
  go_enter Tryz.func247, Tryz.ntmps247
  go_wp2
  rw [Lib.run_to_unsafe w ⟨b, 0, none⟩ Tryz.underlying259 Tryz.underlying314 hj (by rw [hjs]; decide) hsh (Nat.zero_lt_succ 1)]
  simp only [Result.andThen]
  rw [Oper.upon_value]
  go_wp2
  rw [run_callFunc_extern Tryz.func266 (by kernel_rfl) (by kernel_rfl) (by kernel_rfl) (e := Extern.AbiNoEscape.same) (by kernel_rfl)]
  rw [Lib.run_noEscape]
  simp only [Result.andThen]
  rw [Oper.upon_value]
  go_wp2
  rw [Lib.run_from_unsafe w ⟨b, 0, none⟩ Tryz.underlying314 Tryz.underlying259 hj hsh wrt_lies]
  simp only [Result.andThen]
  rw [Oper.upon_value]
  go_wp2
  go_end0
  exact ⟨rfl, rfl⟩
theorem copyCheck_any (B b : Nat) (bs : List Value) (w : World) (h : IsWrt B b bs w) :
    Calls Tryz.prog 247 #[.pointer (some ⟨b, 0, none⟩)] w fun e w' => e = .returned (.tuple #[]) ∧ WrtAt B b (.pointer (some ⟨b, 0, none⟩)) bs w' ∧ Below B w w' ∧ w'.cell? ⟨b, 1, none⟩ = w.cell? ⟨b, 1, none⟩ ∧ w'.heap.size = w.heap.size ∧ ∀ j, j ≠ b → w'.heap[j]? = w.heap[j]? := by
  rcases h with h | h
  · refine (copyCheck_fresh b w h.cell0 h.shape h.frozen0).mono ?_
    rintro e w' ⟨rfl, rfl⟩
    refine ⟨rfl, h.used _, (Below.refl B w).setCell (p := ⟨b, 0, none⟩) h.1 _, ?_, by simp [World.setCell], fun j hj => Below.heap_setCell w ⟨b, 0, none⟩ _ j hj⟩
    obtain ⟨-, v, hk, -⟩ := h.used (.pointer (some ⟨b, 0, none⟩))
    obtain ⟨-, v', hk', -⟩ := h
    have e1 := heap_setCell_same w b 0 _ _ (.pointer (some ⟨b, 0, none⟩)) hk'
    rw [e1] at hk
    have e2 : v = v' := by
      have := Option.some.inj hk
      simpa using this.symm
    rw [Lib.cell_of_heap e1, Lib.cell_of_heap hk']
    rfl
  · refine (copyCheck_used b w h.cell0).mono ?_
    rintro e w' ⟨rfl, rfl⟩
    exact ⟨rfl, h, Below.refl B _, rfl, rfl, fun _ _ => rfl⟩
/-- Blocks other than the writer's and its row's stay. -/
def Keeps (b : Nat) (w w' : World) : Prop := ∀ j, j < w.heap.size → j ≠ b → (∀ v, w.cell? ⟨b, 1, none⟩ = some v → v.ownBlock ≠ some j) → w'.heap[j]? = w.heap[j]?
set_option maxHeartbeats 2000000 in
set_option maxRecDepth 100000 in
theorem wstr_any (B b : Nat) (bs : List Value) (s : ByteArray) (w : World) (h : IsWrt B b bs w) (hlen : bs.length + s.size ≤ 140737488355328) (hBw : B ≤ w.heap.size) :
    Calls Tryz.prog 217 #[.pointer (some ⟨b, 0, none⟩), .string s] w fun e w' => e = .returned (.tuple #[.int .i64 s.size, .nilIface]) ∧ WrtAt B b (.pointer (some ⟨b, 0, none⟩)) (bs ++ Lib.strCells s) w' ∧ Below B w w' ∧ Keeps b w w' := by
  obtain ⟨i0, hi, hz0, hz1, hz2⟩ := info_parts wrt_byte
  go_enter Tryz.func217, Tryz.ntmps217
  go_wp2_with (go_at_call 247; refine (copyCheck_any B b bs _ h).mono ?_)
  rintro e w1 ⟨rfl, h1, hb1, hc1, hs1, hk1⟩
  have HK1 := Lib.hid (And.intro hc1 (And.intro hs1 hk1))
  clear hc1 hs1 hk1
  obtain ⟨hB, v, hbk, hown, hne⟩ := h1
  have c0 : w1.cell? ⟨b, 0, none⟩ = some (.pointer (some ⟨b, 0, none⟩)) := by rw [Lib.cell_of_heap hbk]; rfl
  have c1 : w1.cell? ⟨b, 1, none⟩ = some v := by rw [Lib.cell_of_heap hbk]; rfl
  go_wp2_with (at_builtin; refine Lib.wpList_append_own_string _ rfl _ _ 123 9 rfl B 5 i0 Tryz.underlying123 Tryz.underlying9 hi hz0 hz1 hz2 _ _ _ rfl hown s rfl ?c3 ?c4 ?c5 ?_)
  case c3 => unfold maxLen; omega
  case c4 => omega
  case c5 => have := hb1.size; omega
  intro v' w2 hown' hgrow _
  have hlt : b < w1.heap.size := by
    rcases Nat.lt_or_ge b w1.heap.size with h' | h'
    · exact h'
    · simp [Array.getElem?_eq_none h'] at hbk
  have hb2 : w2.heap[b]? = some (.cells #[.pointer (some ⟨b, 0, none⟩), v] 261 (0, 0)) := by
    rw [hgrow.block b hlt (fun e => hne e.symm)]
    exact hbk
  have d0 : w2.cell? ⟨b, 0, none⟩ = some (.pointer (some ⟨b, 0, none⟩)) := by rw [Lib.cell_of_heap hb2]; rfl
  have d1 : w2.cell? ⟨b, 1, none⟩ = some v := by rw [Lib.cell_of_heap hb2]; rfl
  have f1 : w2.frozen? ⟨b, 1, none⟩ = false := Lib.frozen_of_heap hb2 1
  obtain ⟨ao, n', cap, rfl⟩ : ∃ ao n' cap, v' = .slice ao n' cap := by
    rcases hown'.2 with ⟨hv, _⟩ | ⟨g, cap, cur, hv, _⟩
    · exact ⟨_, _, _, hv⟩
    · exact ⟨_, _, _, hv⟩
  go_wp2
  go_ret2
  refine ⟨rfl, ?_, ?_, ?_⟩
  rotate_left 2
  · intro j hj hjb hjv
    obtain ⟨e1, e2, e3⟩ := HK1.out
    have e4 := hgrow.block j (by omega) (fun e => hjv v (by rw [← e1]; exact c1) e.symm)
    exact (Below.heap_setCell w2 ⟨b, 1, none⟩ _ j hjb).trans (e4.trans (e3 j hjb))
  · exact Lib.BuilderAt.put (T := 261) (e := 5) hB hb2 (bs' := bs ++ Lib.strCells s) (by simpa [Lib.strCells_length] using hown') wrt_ne
  · exact (hb1.grown hgrow (by have := hb1.size; omega) (fun k hk => (hown.lt k hk).1)).setCell (p := ⟨b, 1, none⟩) hB _
/-- A builder stays a builder. -/
theorem builder_below {B b : Nat} {bs : List Value} {w w' : World} (h : IsWrt B b bs w) (hb : Below w.heap.size w w') : IsWrt B b bs w' := by
  have key : ∀ p, WrtAt B b p bs w → WrtAt B b p bs w' := fun p h => by
    have hlt := Lib.BuilderAt.lt h
    obtain ⟨hB, v, hbk, hown, hne⟩ := h
    exact ⟨hB, v, (hb.block b hlt).trans hbk, app.own_below hown hb, hne⟩
  rcases h with h | h
  · exact .inl (key _ h)
  · exact .inr (key _ h)
theorem var_below {P : Program} {w w' : World} {n : String} {cs : Array Value} (h : w.var? P n = some cs) (hb : Below w.heap.size w w') : w'.var? P n = some cs := by
  unfold World.var? at h ⊢
  cases hg : P.globalNamed n with
  | none => rw [hg] at h; cases h
  | some g =>
    rw [hg] at h
    simp only [Option.bind_some] at h ⊢
    have hlt : g < w.heap.size := by
      by_cases hh : g < w.heap.size
      · exact hh
      · rw [Array.getElem?_eq_none (by omega)] at h; cases h
    rw [hb.block g hlt]; exact h
theorem lt_of_cell {w : World} {a : Addr} {v : Value} (h : w.cell? a = some v) : a.block < w.heap.size := by
  rcases Nat.lt_or_ge a.block w.heap.size with h1 | h1
  · exact h1
  · unfold World.cell? at h
    rw [Array.getElem?_eq_none h1] at h
    cases h
/-- The library's table of powers of ten, and a number that it has set aside. -/
structure TabT (w : World) : Prop where
  pow : Lib.TabIs Tryz.prog w "internal/strconv.uint64pow10" .u64 Lib.pow10Tab
  max : ∃ m : Int, w.cell? ⟨0, 0, none⟩ = some (.int .i64 m)
theorem TabT.below {w w' : World} (h : TabT w) (hb : Below w.heap.size w w') : TabT w' := by
  obtain ⟨m, hm⟩ := h.max
  exact ⟨var_below h.pow hb, m, (hb.cell (p := ⟨0, 0, none⟩) (lt_of_cell hm)).trans hm⟩
theorem below_grow (w : World) (k : Nat) (os : Array Obj) : Below w.heap.size w (Go.Sort.grow (w.drewN k) os) :=
  ⟨rfl, rfl, rfl, by show w.heap.size ≤ (w.heap ++ os).size; simp, fun j hj => by show (w.heap ++ os)[j]? = _; rw [Array.getElem?_append_left hj]⟩
theorem itoa_any (n : Int) (h0 : -9223372036854775808 ≤ n) (h1 : n ≤ 9223372036854775807) (w : World) (ht : TabT w) : Calls Tryz.prog 108 #[.int .i64 n] w fun e w' => e = .returned (.string ⟨(Lib.itoa n).toArray⟩) ∧ Below w.heap.size w w' :=
  (Tryz.strconv_Itoa n h0 h1 w ht.pow).mono (by rintro e w' ⟨rfl, k, os, rfl⟩; exact ⟨rfl, below_grow _ _ _⟩)
end Go.Proofs.YthcmopgdjibojaaGreatDoor.nt

/- nat: String, result, two. -/
namespace Go.Proofs.YthcmopgdjibojaaGreatDoor.nt
open Go.RowKit
open Go.Lib (decDigits nDigits itoa decDigits_length nDigits_pos)
open Go.Proofs.YthcmopgdjibojaaGreatDoor.lib Go.Proofs.YthcmopgdjibojaaGreatDoor.app
set_option linter.unusedVariables false
set_option linter.unusedSimpArgs false

theorem repeatL_zero48 (c : Nat) : Lib.repeatL [48] c = List.replicate c 48 := by
  induction c with
  | zero => rfl
  | succ c ih => rw [Lib.repeatL, ih]; rfl
/-- The numeral of the limbs from k on. -/
def strK (l : List Int) (k : Nat) : List UInt8 := decDigits (valL (l.drop k)).toNat
theorem strK_zero (n : Nat) : strK (limbs n) 0 = decDigits n := by
  unfold strK; rw [List.drop_zero, valL_limbs, Int.toNat_natCast]
theorem top_ne {n k : Nat} (hk : k < (limbs n).length) : 0 < valL ((limbs n).drop k) := by
  have hn0 : n ≠ 0 := by rintro rfl; rw [limbs_zero] at hk; simp at hk
  have h1 := limbs_len_lt hn0
  have h2 := valL_split (limbs n) k (by omega)
  rw [valL_limbs] at h2
  have h3 := valL_lt ((limbs_lim n).take k)
  rw [List.length_take, Nat.min_eq_left (by omega)] at h3
  have h4 := b9_mono (show k ≤ (limbs n).length - 1 by omega)
  have h5 := valL_nonneg ((limbs_lim n).drop k)
  rcases Int.lt_or_eq_of_le h5 with h | h
  · exact h
  · exfalso
    rw [← h] at h2
    omega
theorem strK_top {n : Nat} {x : Int} (h : (limbs n)[(limbs n).length - 1]? = some x) : strK (limbs n) ((limbs n).length - 1) = decDigits x.toNat := by
  unfold strK
  have hk := (List.getElem?_eq_some_iff.1 h).1
  rw [drop_at h, List.drop_of_length_le (by omega)]
  simp [valL]
theorem strK_step {n k : Nat} {x : Int} (hk : k + 1 < (limbs n).length) (hx : (limbs n)[k]? = some x) : strK (limbs n) k = strK (limbs n) (k + 1) ++ (List.replicate (9 - nDigits x.toNat) 48 ++ decDigits x.toNat) := by
  unfold strK
  have h0 := top_ne (n := n) (k := k + 1) hk
  have h1 := (limbs_lim n).at_ hx
  rw [drop_at hx, valL]
  have e : (x + 1000000000 * valL ((limbs n).drop (k + 1))).toNat = 1000000000 * (valL ((limbs n).drop (k + 1))).toNat + x.toNat := by omega
  rw [e, dec_limb (by omega) (by omega)]
  rfl
theorem strK_len {n k : Nat} (hk : k < (limbs n).length) : (strK (limbs n) k).length ≤ nDigits n := by
  unfold strK
  rw [decDigits_length]
  refine nDigits_mono ?_
  have h2 := valL_split (limbs n) k (by omega)
  rw [valL_limbs] at h2
  have h3 := valL_nonneg ((limbs_lim n).take k)
  have h4 := b9_pos k
  have h5 := valL_nonneg ((limbs_lim n).drop k)
  have h6 : valL ((limbs n).drop k) ≤ b9 k * valL ((limbs n).drop k) := by
    have := Int.mul_le_mul_of_nonneg_right h4 h5
    omega
  omega
set_option maxRecDepth 20000 in
set_option maxHeartbeats 2000000 in
theorem str_any (A : Option Addr) (c : Nat) (n : Nat) (w : World) (B : Nat) (hB' : B ≤ w.heap.size) (ha : NumAt w B A c n) (ht : TabT w) (hsm : nDigits n ≤ 1000000) :
    Calls Tryz.prog 167 #[.slice A (limbs n).length c] w fun e w' => e = .returned (.string (natS n)) ∧ Below w.heap.size w w' := by
  by_cases hn0 : n = 0
  · subst hn0
    have e : natS 0 = ⟨#[48]⟩ := by unfold natS; rw [dec_small (by decide)]; rfl
    rw [limbs_zero, e]
    clear ha ht
    go_enter Tryz.func167, Tryz.ntmps167
    go_wp2
    go_ret
    exact ⟨rfl, Below.refl _ _⟩
  · obtain ⟨la, hla⟩ : ∃ la, limbs n = la := ⟨_, rfl⟩
    have hA := ha.1
    rw [hla] at hA
    obtain ⟨m, hm⟩ : ∃ m, la.length = m := ⟨_, rfl⟩
    have hm0 : 0 < m := by
      rw [← hm, ← hla]
      rcases Nat.eq_zero_or_pos (limbs n).length with h | h
      · exact absurd (limbs_nil.1 (List.eq_nil_of_length_eq_zero h)) hn0
      · exact h
    have hmL : m ≤ 1000000 := by rw [← hm, ← hla]; exact Nat.le_trans (limbs_le_digits n) hsm
    have HP := Lib.hid (And.intro hla hm)
    have HTb : Hid (∀ w', Below w.heap.size w w' → TabT w') := Lib.hid (fun w' h => ht.below h)
    have HLEN : Hid (∀ k, k < m → (strK la k).length ≤ 1000000) := Lib.hid (fun k hk => by rw [← hla]; exact Nat.le_trans (strK_len (by rw [hla, hm]; exact hk)) hsm)
    rw [hla, hm]
    clear hla hm ha ht hn0 hsm
    have HIT : Hid (∀ (x : Int) (w1 : World), 0 ≤ x → x < 1000000000 → Below w.heap.size w w1 → Calls Tryz.prog 108 #[.int .i64 x] w1 fun e w' => ∃ S : ByteArray, e = .returned (.string S) ∧ 1 ≤ S.size ∧ S.size ≤ 9 ∧ Hid (S.size = nDigits x.toNat ∧ S.data.toList = decDigits x.toNat) ∧ Below w1.heap.size w1 w') := Lib.hid (fun x w1 h0 h1 hb => by
      refine (itoa_any x (by omega) (by omega) w1 (HTb.out w1 hb)).mono ?_
      rintro e w' ⟨rfl, hb'⟩
      have e1 : itoa x = decDigits x.toNat := by unfold itoa; rw [if_neg (by omega)]
      have e2 : (⟨(itoa x).toArray⟩ : ByteArray).size = nDigits x.toNat := by rw [e1, ← decDigits_length]; rfl
      refine ⟨_, rfl, ?_, ?_, Lib.hid ⟨e2, e1⟩, hb'⟩
      · rw [e2]; exact nDigits_pos _
      · rw [e2]; exact nDigits_limb (by omega))
    have hk1 : ((m : Int) - 1).toNat = m - 1 := by omega
    have hk2 : (1 : Int) ≤ (m : Int) := by omega
    have hk3 : (0 : Int) ≤ (m : Int) - 1 := by omega
    obtain ⟨ad, x, rfl, hadb, hx, hcx⟩ := hA.at_ (k := m - 1) (by rw [HP.out.2]; omega)
    have hx1 := (show Lim la by rw [← HP.out.1]; exact limbs_lim n).at_ hx
    have HX := Lib.hid hx
    clear hx
    go_enter Tryz.func167, Tryz.ntmps167
    have hcx' : (w.alloc (.cells #[.pointer none, .slice none 0 0] 261)).cell? (ad.add (m - 1)) = some (.int .i64 x) := (World.cell?_alloc_lt w _ _ (by rw [block_of_add]; omega)).trans hcx
    have HTOP : Hid (decDigits x.toNat = strK la (m - 1)) := Lib.hid (by
      have h := strK_top (n := n) (x := x) (by rw [HP.out.1, HP.out.2]; exact HX.out)
      rw [HP.out.1, HP.out.2] at h
      exact h.symm)
    go_wp2_with (first | (go_at_call 108; refine (HIT.out _ _ hx1.1 hx1.2 ((Below.refl _ _).alloc (Nat.le_refl _) _)).mono ?_; rintro e w2 ⟨S, rfl, hS1, hS9, hS, hb2⟩; have hz2 : w.heap.size < w2.heap.size := (by have := hb2.size; simp at this; omega)) | (go_at_call 217; refine (wstr_any w.heap.size w.heap.size [] S _ (builder_below (Lib.fresh_isBuilder _ _ w) hb2) (by simp; omega) (by omega)).mono ?_; rintro e w3 ⟨rfl, hB3, hb3, hk3'⟩; clear hk3'; have hz3 := hb3.size))
    have hb0 : Below w.heap.size w w3 := (((Below.refl _ _).alloc (Nat.le_refl _) _).trans (hb2.mono (by simp))).trans hb3
    have hB0 : IsWrt w.heap.size w.heap.size (Lib.byteCells (strK la (m - 1))) w3 := by
      rw [List.nil_append, Lib.strCells_eq, hS.out.2, HTOP.out] at hB3
      exact .inr hB3
    have hz0 : w.heap.size < w3.heap.size := by omega
    clear hB3 hb3 hb2
    go_loopw [4, 5] (fun i _ wr => ∃ k : Nat, k < m ∧ i = .int .i64 ((k : Int) - 1) ∧ IsWrt w.heap.size w.heap.size (Lib.byteCells (strK la k)) wr ∧ Below w.heap.size w wr ∧ w.heap.size < wr.heap.size) (fun i _ _ => (intOf i + 1).toNat)
    case atStart => exact ⟨m - 1, by omega, by congr 1; omega, hB0, hb0, hz0⟩
    case round =>
      obtain ⟨k, hk, rfl, hB, hbel, hz⟩ := hrel
      by_cases h0 : k = 0
      · subst h0
        have HN : Hid (strK la 0 = decDigits n) := Lib.hid (by rw [← HP.out.1]; exact strK_zero n)
        have HC : Hid (Calls Tryz.prog 219 #[.pointer (some ⟨w.heap.size, 0, none⟩)] wr fun e w' => e = .returned (.string (natS n)) ∧ Below w.heap.size wr w') := Lib.hid (by
          have h := Tryz.Builder_String_any w.heap.size w.heap.size (strK la 0) wr hB (by omega)
          rw [HN.out] at h
          exact h)
        go_wp2_with (go_at_call 219; refine HC.out.mono ?_; rintro e w4 ⟨rfl, hb4⟩)
        go_ret
        exact ⟨rfl, hbel.trans hb4⟩
      · obtain ⟨j, rfl⟩ : ∃ j, k = j + 1 := ⟨k - 1, by omega⟩
        have hj : (((j + 1 : Nat) : Int) - 1) = (j : Int) := by omega
        rw [hj]
        clear hcx hadb
        obtain ⟨ad', y, had, hadb, hy, hcy⟩ := (hA.below (hbel.mono hB')).at_ (k := j) (by rw [HP.out.2]; omega)
        obtain rfl := Option.some.inj had
        have hy1 := (show Lim la by rw [← HP.out.1]; exact limbs_lim n).at_ hy
        have HY := Lib.hid hy
        have hjm : (j : Int) < (m : Int) := by omega
        have HST : Hid (strK la j = strK la (j + 1) ++ (List.replicate (9 - nDigits y.toNat) 48 ++ decDigits y.toNat)) := Lib.hid (by
          have h := strK_step (n := n) (k := j) (x := y) (by rw [HP.out.1, HP.out.2]; omega) (by rw [HP.out.1]; exact HY.out)
          rw [HP.out.1] at h
          exact h)
        have hl1 := HLEN.out (j + 1) hk
        clear hy had
        go_wp2_with (first | (go_at_call 108; refine (HIT.out _ _ hy1.1 hy1.2 hbel).mono ?_; rintro e w4 ⟨R, rfl, hR1, hR9, hR, hb4⟩; have HRZ : Hid ((9 : Int) - (R.size : Int) = ((9 - R.size : Nat) : Int)) := Lib.hid (by omega)) | (go_at_call 218; rw [HRZ.out]; refine (Tryz.strings_Repeat ⟨#[48]⟩ (9 - R.size) _ (by omega) (by show 1 * (9 - R.size) ≤ _; omega)).mono ?_; rintro e w5 ⟨rfl, hb5⟩; have hz4 := hb4.size; have hz5 := hb5.size; have hbl5 : Below w.heap.size w w5 := (hbel.trans (hb4.mono (by omega))).trans (hb5.mono (by omega)); have hB5 := builder_below (builder_below hB hb4) hb5; have HW5 := Lib.hid (wstr_any w.heap.size w.heap.size (Lib.byteCells (strK la (j + 1))) ⟨(Lib.repeatL [48] (9 - R.size)).toArray⟩ w5 hB5 (by rw [Lib.byteCells_length]; show _ + (Lib.repeatL [48] (9 - R.size)).length ≤ _; rw [Lib.repeatL_length]; simp; omega) (by omega))) | (go_at_call 217; (with_reducible refine HW5.out.mono ?_); rintro e w6 ⟨rfl, hB6, hb6, hk6⟩; clear hk6; have hz6 := hb6.size; have hbl6 := hbl5.trans hb6; have HW6 := Lib.hid (wstr_any w.heap.size w.heap.size _ R w6 (.inr hB6) (by rw [List.length_append, Lib.byteCells_length, Lib.strCells_length]; show _ + (Lib.repeatL [48] (9 - R.size)).length + _ ≤ _; rw [Lib.repeatL_length]; simp; omega) (by omega))) | (go_at_call 217; (with_reducible refine HW6.out.mono ?_); rintro e w7 ⟨rfl, hB7, hb7, hk7⟩; clear hk7; have hz7 := hb7.size; have hbl7 := hbl6.trans hb7))
        go_roundw
        case rel =>
          refine ⟨j, by omega, rfl, .inr ?_, hbl7, by omega⟩
          have e : Lib.byteCells (strK la j) = Lib.byteCells (strK la (j + 1)) ++ Lib.strCells ⟨(Lib.repeatL [48] (9 - R.size)).toArray⟩ ++ Lib.strCells R := by
            rw [HST.out, Lib.byteCells_append, Lib.byteCells_append, List.append_assoc, Lib.strCells_eq R, hR.out.2, ← hR.out.1, ← repeatL_zero48]
            rfl
          rw [e]
          exact hB7
        case measure => simp [intOf]
/-! result and two. -/
set_option maxHeartbeats 1000000 in
theorem result_any (A : Option Addr) (c : Nat) (n : Nat) (w : World) (B : Nat) (hB : B ≤ w.heap.size) (ha : NumAt w B A c n) (ht : TabT w) (hsm : nDigits n ≤ 4096) :
    Calls Tryz.prog 117 #[.slice A (limbs n).length c] w fun e w' => e = .returned (.tuple #[.string (natS n), .int .i64 0]) ∧ Below w.heap.size w w' := by
  have HC := Lib.hid (str_any A c n w B hB ha ht (by omega))
  have hz : (natS n).size ≤ 4096 := by rw [natS_size]; exact hsm
  generalize natS n = S at HC hz ⊢
  clear ha ht hsm
  go_enter Tryz.func117, Tryz.ntmps117
  go_wp2_with (go_at_call 167; refine HC.out.mono ?_; rintro e w1 ⟨rfl, hb1⟩)
  go_ret2
  exact ⟨rfl, hb1⟩
/-- Two numbers handed back. -/
def TwoOut (w : World) (a b : Nat) (e : Ending) (w' : World) : Prop := ∃ A c A' c', e = .returned (.tuple #[.slice A (limbs a).length c, .slice A' (limbs b).length c', .int .i64 0]) ∧ NumAt w' w'.heap.size A c a ∧ NumAt w' w'.heap.size A' c' b ∧ Below w.heap.size w w'
set_option maxHeartbeats 1000000 in
theorem two_any (a b : Nat) (ha : nDigits a ≤ 4096) (hb : nDigits b ≤ 4096) (w : World) :
    Calls Tryz.prog 115 #[.string (natS a), .string (natS b)] w (TwoOut w a b) := by
  have HRA := Lib.hid (fun w => right_any a (by omega) w)
  have HRB := Lib.hid (fun w => right_any b (by omega) w)
  have HA := Lib.hid (fun w => read_any a (by omega) w)
  have HB := Lib.hid (fun w => read_any b (by omega) w)
  have hz : (natS a).size ≤ 4096 := by rw [natS_size]; exact ha
  have hz' : (natS b).size ≤ 4096 := by rw [natS_size]; exact hb
  generalize natS a = S at HRA HA hz ⊢
  generalize natS b = T at HRB HB hz' ⊢
  clear ha hb
  go_enter Tryz.func115, Tryz.ntmps115
  go_wp2_with (first | (go_at_call 72; (with_reducible refine (HRA.out _).mono ?_); rintro e w1 ⟨rfl, rfl⟩) | (go_at_call 72; (with_reducible refine (HRB.out _).mono ?_); rintro e w1 ⟨rfl, rfl⟩) | (go_at_call 161; (with_reducible refine (HA.out _).mono ?_); rintro e w1 ⟨A1, c1, rfl, hn1, hh1, hb1⟩) | (go_at_call 161; (with_reducible refine (HB.out _).mono ?_); rintro e w2 ⟨A2, c2, rfl, hn2, hh2, hb2⟩))
  refine bodyPost_ret (v := .tuple #[.slice A1 (limbs a).length c1, .slice A2 (limbs b).length c2, .int .i64 0]) (by simp [results, Tryz.results115, go_sem]) rfl ⟨A1, c1, A2, c2, rfl, (hn1.below hb2).more hb2.size, hn2, hb1.trans (hb2.mono hb1.size)⟩
end Go.Proofs.YthcmopgdjibojaaGreatDoor.nt
