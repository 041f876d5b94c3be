import Derived.Test.YthcmopgdjibojaaGreatDoorAimX
import Derived.Test.YthcmopgdjibojaaGreatDoorC2
import Derived.BigQuiet
import Derived.Deep.QuietTactic
import Derived.Test.YthcmopgdjibojaaGreatDoorRatD
import Derived.Test.YthcmopgdjibojaaGreatDoorRatF
/- network.arrival, walked. -/
namespace Go.Proofs.YthcmopgdjibojaaGreatDoor.aim
open Go.RowKit
open Go.Proofs.YthcmopgdjibojaaGreatDoor.lib Go.Proofs.YthcmopgdjibojaaGreatDoor.rd Go.Proofs.YthcmopgdjibojaaGreatDoor.typ Go.Proofs.YthcmopgdjibojaaGreatDoor.app Go.Proofs.YthcmopgdjibojaaGreatDoor.note
set_option linter.unusedVariables false
set_option linter.unusedSimpArgs false

end Go.Proofs.YthcmopgdjibojaaGreatDoor.aim

/- The binary search of travel.arrive, walked. -/
namespace Go.Proofs.YthcmopgdjibojaaGreatDoor.aim
open Go.RowKit
open Go.Proofs.YthcmopgdjibojaaGreatDoor.lib Go.Proofs.YthcmopgdjibojaaGreatDoor.rd Go.Proofs.YthcmopgdjibojaaGreatDoor.typ Go.Proofs.YthcmopgdjibojaaGreatDoor.app Go.Proofs.YthcmopgdjibojaaGreatDoor.note
set_option linter.unusedVariables false
set_option linter.unusedSimpArgs false

theorem cmpP_any (p : Pt) (t : Int) (hp : 0 ≤ p.t ∧ p.t ≤ 4096) (ht : 0 ≤ t ∧ t ≤ 1073741824) (w : World) :
    Calls Tryz.prog 107 #[.agg #[.int .i64 p.t, .int .i64 p.a], .int .i64 t] w fun e w' => e = .returned (.int .i64 (p.t - t)) ∧ Below w.heap.size w w' := by
  go_enter Tryz.func107, Tryz.ntmps107
  go_wp2
  go_ret
  exact ⟨rfl, by repeat (first | assumption | exact Below.refl _ _ | refine Below.drew ?_ | refine Below.alloc ?_ (by first | omega | (simp <;> omega)) _ | refine Below.setCell ?_ (by first | omega | (simp <;> omega)) _)⟩
theorem cnt_up {l : List Pt} (hg : GoodT l) {t : Int} {h : Nat} {p : Pt} (hp : l[h]? = some p) (hlt : p.t < t) : h + 1 ≤ cntF l t := by
  rcases Nat.lt_or_ge h (cntF l t) with h1 | h1
  · exact h1
  · have hl := (List.getElem?_eq_some_iff.1 hp).1
    obtain ⟨q, hq⟩ : ∃ q, l[cntF l t]? = some q := ⟨_, List.getElem?_eq_getElem (by omega)⟩
    have := cnt_ge hq
    rcases Nat.lt_or_ge (cntF l t) h with h2 | h2
    · have := (hg.lt' h2 hq hp).1; omega
    · obtain rfl : h = cntF l t := by omega
      rw [hq] at hp; injection hp with hp; subst hp; omega
theorem cnt_dn {l : List Pt} {t : Int} {h : Nat} {p : Pt} (hp : l[h]? = some p) (hge : ¬ p.t < t) : cntF l t ≤ h := by
  rcases Nat.lt_or_ge h (cntF l t) with h1 | h1
  · exact absurd (cnt_lt h1 hp) hge
  · exact h1
set_option maxHeartbeats 2000000 in
theorem bs_any (A : Option Addr) (c : Nat) (l : List Pt) (hg : GoodT l) (t : Int) (ht : 0 ≤ t ∧ t ≤ 1073741824) (w : World) (hL : RowAt rPt w w.heap.size A l) :
    Calls Tryz.prog 106 #[.slice A l.length c, .int .i64 t, .func (.func 107) #[] #[]] w fun e w' => e = .returned (.tuple #[.int .i64 (cntF l t), .bool (match l[cntF l t]? with | some p => p.t == t | none => false)]) ∧ Below w.heap.size w w' := by
  obtain ⟨n, hn⟩ : ∃ n, l.length = n := ⟨_, rfl⟩
  have hn16 : n ≤ 16 := by rw [← hn]; exact hg.len
  obtain ⟨K, hK⟩ : ∃ K, cntF l t = K := ⟨_, rfl⟩
  have hKn : K ≤ n := by rw [← hK, ← hn]; exact cnt_le _ _
  have HK := Lib.hid hK
  have HN := Lib.hid hn
  have HG := Lib.hid hg
  have HL := Lib.hid hL
  obtain ⟨b, hb⟩ : ∃ b, (match l[K]? with | some p => p.t == t | none => false) = b := ⟨_, rfl⟩
  have HB := Lib.hid hb
  rw [hK, hn, hb]
  clear hK hn hb hg hL
  go_enter Tryz.func106, Tryz.ntmps106
  go_upto_region 3 with fail
  go_loopw [9, 10] (fun v k wr => ∃ lo hi : Nat, lo ≤ K ∧ K ≤ hi ∧ hi ≤ n ∧ v = .int .i64 lo ∧ k = .int .i64 hi ∧ Below w.heap.size w wr) (fun v k _ => (intOf k).toNat - (intOf v).toNat)
  case atStart => exact ⟨0, n, Nat.zero_le _, hKn, Nat.le_refl _, rfl, rfl, Below.refl _ _⟩
  case round =>
    obtain ⟨lo, hi, h1, h2, h3, rfl, rfl, hbw⟩ := hrel
    by_cases hlt : lo < hi
    · obtain ⟨h, hh⟩ : ∃ h, (lo + hi) / 2 = h := ⟨_, rfl⟩
      have hhl : lo ≤ h ∧ h < hi := by omega
      obtain ⟨p, hp⟩ : ∃ p, l[h]? = some p := ⟨_, List.getElem?_eq_getElem (by rw [HN.out]; omega)⟩
      obtain ⟨ad, rfl, hadb, ⟨m0, m1⟩, _⟩ := row_Pt (HL.out.below hbw) hp
      have hpb := HG.out.box p (List.mem_of_getElem? hp)
      have hC := cmpP_any p t ⟨hpb.1, hpb.2.1⟩ ht wr
      have HC := Lib.hid hC
      have hk0 : (0 : Int) ≤ (h : Int) := by omega
      have hkn : (h : Int) < (n : Int) := by omega
      have hzw := hbw.size
      clear hC
      go_upto_region 5 with fail
      rw [show ((lo : Int) + (hi : Int)) / 2 = (h : Int) by omega]
      by_cases hpt : p.t < t
      · have hup := cnt_up HG.out hp hpt
        rw [HK.out] at hup
        have hd : p.t - t < 0 := by omega
        go_wp2_with (go_at_call 107; refine HC.out.mono ?_; rintro e w1 ⟨rfl, hb1⟩)
        go_roundw
        case rel => exact ⟨h + 1, hi, by omega, by omega, by omega, by go_num, rfl, hbw.trans (hb1.mono hzw)⟩
        case measure => simp [intOf]; omega
      · have hdn := cnt_dn hp hpt
        rw [HK.out] at hdn
        have hd : ¬ p.t - t < 0 := by omega
        go_wp2_with (go_at_call 107; refine HC.out.mono ?_; rintro e w1 ⟨rfl, hb1⟩)
        go_roundw
        case rel => exact ⟨lo, h, by omega, by omega, by omega, rfl, by go_num, hbw.trans (hb1.mono hzw)⟩
        case measure => simp [intOf]; omega
    · obtain rfl : lo = K := by omega
      obtain rfl : hi = lo := by omega
      have hzw := hbw.size
      by_cases hend : hi < n
      · obtain ⟨p, hp⟩ : ∃ p, l[hi]? = some p := ⟨_, List.getElem?_eq_getElem (by rw [HN.out]; exact hend)⟩
        obtain ⟨ad, rfl, hadb, ⟨m0, m1⟩, _⟩ := row_Pt (HL.out.below hbw) hp
        have hpb := HG.out.box p (List.mem_of_getElem? hp)
        have HC := Lib.hid (cmpP_any p t ⟨hpb.1, hpb.2.1⟩ ht wr)
        have hk0 : (0 : Int) ≤ (hi : Int) := by omega
        have hkn : (hi : Int) < (n : Int) := by omega
        have HB2 : Hid ((p.t == t) = b) := Lib.hid (by have h := HB.out; rw [hp] at h; exact h)
        clear hp
        by_cases he : p.t = t
        · have hd : p.t - t = 0 := by omega
          obtain rfl : b = true := by rw [← HB2.out]; simpa using he
          clear he
          go_wp2_with (go_at_call 107; refine HC.out.mono ?_; rintro e w1 ⟨rfl, hb1⟩)
          refine bodyPost_ret (v := .tuple #[.int .i64 hi, .bool true]) (by simp [results, Tryz.results106, go_sem, hd]) rfl ⟨rfl, hbw.trans (hb1.mono hzw)⟩
        · have hd : ¬ p.t - t = 0 := by omega
          obtain rfl : b = false := by rw [← HB2.out]; simpa using he
          clear he
          go_wp2_with (go_at_call 107; refine HC.out.mono ?_; rintro e w1 ⟨rfl, hb1⟩)
          refine bodyPost_ret (v := .tuple #[.int .i64 hi, .bool false]) (by simp [results, Tryz.results106, go_sem, hd]) rfl ⟨rfl, hbw.trans (hb1.mono hzw)⟩
      · have hkn : ¬ (hi : Int) < (n : Int) := by omega
        have HB2 : Hid (b = false) := Lib.hid (by have h := HB.out; rw [List.getElem?_eq_none (by rw [HN.out]; omega)] at h; exact h.symm)
        obtain rfl : b = false := HB2.out
        go_wp2_with fail
        refine bodyPost_ret (v := .tuple #[.int .i64 hi, .bool false]) (by simp [results, Tryz.results106, go_sem]) rfl ⟨rfl, hbw⟩
end Go.Proofs.YthcmopgdjibojaaGreatDoor.aim

/- travel.arrive, walked. -/
namespace Go.Proofs.YthcmopgdjibojaaGreatDoor.aim
open Go.RowKit
open Go.Proofs.YthcmopgdjibojaaGreatDoor.lib Go.Proofs.YthcmopgdjibojaaGreatDoor.rd Go.Proofs.YthcmopgdjibojaaGreatDoor.typ Go.Proofs.YthcmopgdjibojaaGreatDoor.app Go.Proofs.YthcmopgdjibojaaGreatDoor.note
set_option linter.unusedVariables false
set_option linter.unusedSimpArgs false

set_option maxHeartbeats 4000000 in
theorem arrive_any (A : Option Addr) (c : Nat) (l : List Pt) (hg : GoodT l) (t : Int) (ht : 0 ≤ t ∧ t ≤ 20000) (w : World) (hL : RowAt rPt w w.heap.size A l) :
    Calls Tryz.prog 61 #[.slice A l.length c, .int .i64 t] w fun e w' => e = .returned (.int .i64 (arrP l t)) ∧ Below w.heap.size w w' := by
  have hbs := bs_any A c l hg t ⟨ht.1, by omega⟩ w hL
  obtain ⟨n, hn⟩ : ∃ n, l.length = n := ⟨_, rfl⟩
  have hn16 : n ≤ 16 := by rw [← hn]; exact hg.len
  have hn1 : 1 ≤ n := by rw [← hn]; exact List.length_pos_iff.2 hg.ne
  obtain ⟨K, hK⟩ : ∃ K, cntF l t = K := ⟨_, rfl⟩
  have hKn : K ≤ n := by rw [← hK, ← hn]; exact cnt_le _ _
  have HL := Lib.hid hL
  rw [hn] at hbs ⊢
  rw [hK] at hbs
  by_cases hend : K < n
  · obtain ⟨q, hq⟩ : ∃ q, l[K]? = some q := ⟨_, List.getElem?_eq_getElem (by omega)⟩
    rw [hq] at hbs
    simp only at hbs
    have hqb := hg.box q (List.mem_of_getElem? hq)
    by_cases he : q.t = t
    · have HR : Hid (arrP l t = q.a) := Lib.hid (arr_hit (by rw [hK]; exact hq) he)
      rw [show (q.t == t) = true by simpa using he] at hbs
      have HBS := Lib.hid hbs
      have hk0 : (0 : Int) ≤ (K : Int) := by omega
      have hkn : (K : Int) < (n : Int) := by omega
      have HQ := Lib.hid hq
      clear hbs hn hK hg hL he hq
      go_enter Tryz.func61, Tryz.ntmps61
      go_upto_region 2 with (go_at_call 106; refine HBS.out.mono ?_; rintro e w1 ⟨rfl, hb1⟩)
      obtain ⟨ad, rfl, hadb, ⟨m0, m1⟩, _⟩ := row_Pt (HL.out.below hb1) HQ.out
      go_wp2_with fail
      go_ret
      exact ⟨by rw [HR.out]; rfl, hb1⟩
    · rw [show (q.t == t) = false by simpa using he] at hbs
      have HBS := Lib.hid hbs
      by_cases h0 : K = 0
      · have HR : Hid (arrP l t = t + q.a - q.t) := Lib.hid (arr_first (by rw [hK]; exact hq) (by omega))
        subst h0
        have HQ := Lib.hid hq
        clear hbs hn hK hg hL he hq
        go_enter Tryz.func61, Tryz.ntmps61
        go_upto_region 2 with (go_at_call 106; refine HBS.out.mono ?_; rintro e w1 ⟨rfl, hb1⟩)
        obtain ⟨ad, rfl, hadb, ⟨m0, m1⟩, _⟩ := row_Pt (HL.out.below hb1) HQ.out
        have hn0 : (0 : Int) < (n : Int) := by omega
        have hn0' : 0 < n := by omega
        have e0 : ad.add (0 * 2) = ad := by rw [Nat.zero_mul]; rfl
        rw [e0] at m0 m1
        go_upto_region 5 with fail
        go_quiet (fail)
        go_wp2
        go_ret
        exact ⟨by rw [HR.out]; rfl, bel_drewN hb1 _⟩
      · obtain ⟨M, rfl⟩ : ∃ M, K = M + 1 := ⟨K - 1, by omega⟩
        obtain ⟨p, hp⟩ : ∃ p, l[M]? = some p := ⟨_, List.getElem?_eq_getElem (by omega)⟩
        have hpb := hg.box p (List.mem_of_getElem? hp)
        have hpq := hg.asc M p q hp hq
        have hlt := cnt_lt (t := t) (by omega) hp
        have hge := cnt_ge (t := t) (l := l) (p := q) (by rw [hK]; exact hq)
        have hmix := mix_ge (t := t) hpb.2.2.1 hqb.2.2.1 (Int.le_of_lt hlt) (by omega) hpq.2
        have HR : Hid (arrP l t = mixF p q t) := Lib.hid (arr_mix (by rw [hK]; exact hq) he (by omega) (by rw [hK]; exact hp))
        have HP := Lib.hid hp
        have HQ := Lib.hid hq
        have hk0 : (0 : Int) ≤ (M : Int) + 1 := by omega
        have hkn : (M : Int) + 1 < (n : Int) := by omega
        have hm0 : (0 : Int) ≤ (M : Int) := by omega
        have hmn : (M : Int) < (n : Int) := by omega
        have hne : ¬ (M : Int) + 1 = 0 := by omega
        have hnn : ¬ (M : Int) + 1 = (n : Int) := by omega
        clear hbs hn hK hg hL he hq hp
        go_enter Tryz.func61, Tryz.ntmps61
        go_upto_region 2 with (go_at_call 106; refine HBS.out.mono ?_; rintro e w1 ⟨rfl, hb1⟩)
        obtain ⟨ad, rfl, hadb, ⟨m0, m1⟩, _⟩ := row_Pt (HL.out.below hb1) HQ.out
        obtain ⟨ad', hea, hadb', ⟨k0, k1⟩, _⟩ := row_Pt (HL.out.below hb1) HP.out
        obtain rfl : ad = ad' := Option.some.inj hea
        go_upto_region 8 with fail
        have hbp : (ad.add (M * 2)).block < w1.heap.size := by rw [block_of_add]; have := hb1.size; omega
        have hbq : (ad.add ((M + 1) * 2)).block < w1.heap.size := by rw [block_of_add]; have := hb1.size; omega
        unfold mixF at hmix HR
        have hmul : (t - p.t) * (q.a - p.a) ≤ 33554432 := mul_mono (b := 4096) (d := 8192) (by omega) (by omega) (by omega) (by omega)
        have hw0 : ¬ q.t - p.t = 0 := by omega
        go_region
        all_goals
          go_upto_region 10 with fail
          go_quiet (fail)
          go_wp2
          go_ret
          exact ⟨by rw [HR.out]; rfl, bel_drewN (((hb1.alloc (by have := hb1.size; omega) _).alloc (by have := hb1.size; simp; omega) _)) _⟩
  · obtain rfl : K = n := by omega
    obtain ⟨M, rfl⟩ : ∃ M, K = M + 1 := ⟨K - 1, by omega⟩
    obtain ⟨p, hp⟩ : ∃ p, l[M]? = some p := ⟨_, List.getElem?_eq_getElem (by omega)⟩
    have hpb := hg.box p (List.mem_of_getElem? hp)
    have HR : Hid (arrP l t = t + p.a - p.t) := Lib.hid (arr_last (by omega) (by rw [hK]; exact hp))
    rw [List.getElem?_eq_none (by omega)] at hbs
    simp only at hbs
    have HBS := Lib.hid hbs
    have HP := Lib.hid hp
    have hm0 : (0 : Int) ≤ (M : Int) := by omega
    have hmn : (M : Int) < (M : Int) + 1 := by omega
    have hne : ¬ (M : Int) + 1 = 0 := by omega
    clear hbs hn hK hg hL hp hend
    go_enter Tryz.func61, Tryz.ntmps61
    go_upto_region 2 with (go_at_call 106; refine HBS.out.mono ?_; rintro e w1 ⟨rfl, hb1⟩)
    obtain ⟨ad, rfl, hadb, ⟨k0, k1⟩, _⟩ := row_Pt (HL.out.below hb1) HP.out
    go_upto_region 7 with fail
    go_quiet (fail)
    go_wp2
    go_ret
    exact ⟨by rw [HR.out]; rfl, bel_drewN hb1 _⟩
end Go.Proofs.YthcmopgdjibojaaGreatDoor.aim

/- travel.Arrive and network.arrival of right arcs. -/
namespace Go.Proofs.YthcmopgdjibojaaGreatDoor.aim
open Go.RowKit
open Go.Proofs.YthcmopgdjibojaaGreatDoor.lib Go.Proofs.YthcmopgdjibojaaGreatDoor.rd Go.Proofs.YthcmopgdjibojaaGreatDoor.typ Go.Proofs.YthcmopgdjibojaaGreatDoor.app Go.Proofs.YthcmopgdjibojaaGreatDoor.note Go.Proofs.YthcmopgdjibojaaGreatDoor.flts
set_option linter.unusedVariables false
set_option linter.unusedSimpArgs false

theorem right_any (A : Option Addr) (c : Nat) (l : List Pt) (h16 : l.length ≤ 16) (hv : trv.tvTo l l.length = []) (w : World) (hL : RowAt rPt w w.heap.size A l) :
    Calls Tryz.prog 60 #[.slice A l.length c] w fun e w' => e = .returned (.bool true) ∧ Below w.heap.size w w' := by
  have hc := trv.tcheck_any A c l w hL (by omega)
  rw [hv] at hc
  have HC := Lib.hid hc
  clear hc hv
  go_enter Tryz.func60, Tryz.ntmps60
  go_wp2_with (go_at_call 105; refine HC.out.mono ?_; rintro e w1 ⟨Af, cf, rfl, hown, hb⟩)
  go_ret
  exact ⟨rfl, hb⟩
theorem Arrive_any (A : Option Addr) (c : Nat) (l : List Pt) (hg : GoodT l) (hv : trv.tvTo l l.length = []) (t : Int) (ht : 0 ≤ t ∧ t ≤ 20000) (w : World) (hL : RowAt rPt w w.heap.size A l) :
    Calls Tryz.prog 20 #[.slice A l.length c, .int .i64 t] w fun e w' => e = .returned (.int .i64 (arrP l t)) ∧ Below w.heap.size w w' := by
  have HR := Lib.hid (right_any A c l hg.len hv w hL)
  have HA : Hid (∀ w', Below w.heap.size w w' → Calls Tryz.prog 61 #[.slice A l.length c, .int .i64 t] w' fun e w'' => e = .returned (.int .i64 (arrP l t)) ∧ Below w'.heap.size w' w'') := Lib.hid fun w' hb => arrive_any A c l hg t ht w' ((hL.below hb).more hb.size)
  have HW : Hid (inB t 0 1073741824 = true) := Lib.hid (by unfold inB; simp; omega)
  clear hg hv hL
  go_enter Tryz.func20, Tryz.ntmps20
  go_wp2_with (first
    | (go_at_call 59; refine (trv.within_any _ _ _ _).mono ?_; rw [HW.out]; rintro e w1 ⟨rfl, rfl⟩)
    | (go_at_call 60; refine HR.out.mono ?_; rintro e w2 ⟨rfl, hb2⟩)
    | (go_at_call 61; refine (HA.out _ hb2).mono ?_; rintro e w3 ⟨rfl, hb3⟩))
  go_ret
  exact ⟨rfl, hb2.trans (hb3.mono hb2.size)⟩
end Go.Proofs.YthcmopgdjibojaaGreatDoor.aim

/- lorrytop.awake. -/
namespace Go.Proofs.YthcmopgdjibojaaGreatDoor.top
open Go.RowKit
open Go.Lib (decDigits nDigits itoa decDigits_length nDigits_pos)
open Go.Proofs.YthcmopgdjibojaaGreatDoor.lib Go.Proofs.YthcmopgdjibojaaGreatDoor.app Go.Proofs.YthcmopgdjibojaaGreatDoor.nt Go.Proofs.YthcmopgdjibojaaGreatDoor.rd Go.Proofs.YthcmopgdjibojaaGreatDoor.wh Go.Proofs.YthcmopgdjibojaaGreatDoor.smx Go.Proofs.YthcmopgdjibojaaGreatDoor.rat Go.Proofs.YthcmopgdjibojaaGreatDoor.typ
set_option linter.unusedVariables false
set_option linter.unusedSimpArgs false

theorem frac_S (a b : Nat) (ha : a < 10) (hb : b < 10) (h1 : 1 < b) (hc : a.Coprime b) : ratS (mkRat a b) = ⟨#[UInt8.ofNat (48 + a), 47, UInt8.ofNat (48 + b)]⟩ := by
  have hn : (mkRat (a : Int) b).num = a := by
    rw [Rat.num_mkRat, if_neg (by omega)]
    simp [show b.gcd a = 1 from (Nat.gcd_comm b a).trans hc]
  have hd : (mkRat (a : Int) b).den = b := by
    rw [Rat.den_mkRat, if_neg (by omega)]
    simp [show b.gcd a = 1 from (Nat.gcd_comm b a).trans hc]
  unfold ratS ratL
  rw [hn, hd, if_neg (by omega), itoa_nn (by omega), Int.natAbs_natCast, Lib.decDigits_one ha, Lib.decDigits_one hb]
  rfl
theorem frac_D (a b : Nat) (ha : a < 10) (hb : b < 10) (h1 : 1 < b) (hc : a.Coprime b) : Dg 1 (mkRat (a : Int) b) := by
  have hn : (mkRat (a : Int) b).num = a := by
    rw [Rat.num_mkRat, if_neg (by omega)]
    simp [show b.gcd a = 1 from (Nat.gcd_comm b a).trans hc]
  have hd : (mkRat (a : Int) b).den = b := by
    rw [Rat.den_mkRat, if_neg (by omega)]
    simp [show b.gcd a = 1 from (Nat.gcd_comm b a).trans hc]
  refine ⟨?_, ?_⟩
  · rw [hn, Int.natAbs_natCast, Go.Lib.nDigits_small ha]; exact Nat.le_refl _
  · rw [hd, Go.Lib.nDigits_small hb]; exact Nat.le_refl _
theorem half_third : mkRat (1 : Nat) 2 + mkRat (1 : Nat) 3 = mkRat (5 : Nat) 6 := by decide +kernel
theorem add_awk (w : World) (ht : TabT w) : Calls Tryz.prog 19 #[.string ⟨#[49, 47, 50]⟩, .string ⟨#[49, 47, 51]⟩] w fun e w' => e = .returned (.tuple #[.string ⟨#[53, 47, 54]⟩, .int .i64 0]) ∧ Below w.heap.size w w' := by
  have h := radd_any (mkRat (1 : Nat) 2) (mkRat (1 : Nat) 3) ((frac_D 1 2 (by decide) (by decide) (by decide) (by decide)).mono (by decide)) ((frac_D 1 3 (by decide) (by decide) (by decide) (by decide)).mono (by decide)) w ht
  rw [half_third, frac_S 1 2 (by decide) (by decide) (by decide) (by decide), frac_S 1 3 (by decide) (by decide) (by decide) (by decide)] at h
  unfold RatOut at h
  rw [frac_S 5 6 (by decide) (by decide) (by decide) (by decide)] at h
  exact h
def ptsA : List Pt := [⟨0, 5⟩, ⟨20, 35⟩]
theorem good_awk : aim.GoodT ptsA where
  ne := by decide
  len := by decide
  box := by decide
  asc := fun j p q hp hq => by
    rcases j with _ | _ | j
    · injection hp with hp; injection hq with hq; subst hp; subst hq; decide
    · cases hq
    · cases hq
theorem arr_awk : aim.arrP ptsA 10 = 20 := by decide +kernel
theorem tv_awk : trv.tvTo ptsA ptsA.length = [] := by decide +kernel
theorem pts_row (w : World) (t : TypeId) : RowAt rPt (w.alloc (.cells #[.int .i64 0, .int .i64 5, .int .i64 20, .int .i64 35] t)) (w.heap.size + 1) (some ⟨w.heap.size, 0, none⟩) ptsA :=
  row_two (r := rPt) (w := w) (cs := [.int .i64 0, .int .i64 5]) (cs' := [.int .i64 20, .int .i64 35]) (x := ⟨0, 5⟩) (x' := ⟨20, 35⟩) (t := t) (rPt_mk (t := ⟨0, 5⟩) ⟨by decide, by decide⟩) (rPt_mk (t := ⟨20, 35⟩) ⟨by decide, by decide⟩)
theorem arrive_awk (w : World) (t : TypeId) : Calls Tryz.prog 20 #[.slice (some ⟨w.heap.size, 0, none⟩) 2 2, .int .i64 10] (w.alloc (.cells #[.int .i64 0, .int .i64 5, .int .i64 20, .int .i64 35] t)) fun e w' => e = .returned (.int .i64 20) ∧ Below w.heap.size w w' := by
  have h := aim.Arrive_any (some ⟨w.heap.size, 0, none⟩) 2 ptsA good_awk tv_awk 10 (by decide) (w.alloc (.cells #[.int .i64 0, .int .i64 5, .int .i64 20, .int .i64 35] t)) (by simpa using pts_row w t)
  rw [arr_awk] at h
  refine h.mono ?_
  rintro e w' ⟨rfl, hb⟩
  exact ⟨rfl, ((Below.refl _ _).alloc (Nat.le_refl _) _).trans (hb.mono (by simp))⟩
theorem awake_any (w : World) (ht : TabT w) : Calls Tryz.prog 6 #[] w fun e w' => e = .returned (.bool true) ∧ Below w.heap.size w w' := by
  have HA := Lib.hid (add_awk w ht)
  have HR := Lib.hid (fun (w : World) t => arrive_awk w t)
  clear ht
  go_enter Tryz.func6, Tryz.ntmps6
  go_wp2_with (first | (go_at_call 19; (with_reducible refine HA.out.mono ?_); rintro e w2 ⟨rfl, hb2⟩) | (go_at_call 20; (with_reducible refine (HR.out _ _).mono ?_); rintro e w3 ⟨rfl, hb3⟩; have hbl : Below w.heap.size w w3 := hb2.trans (hb3.mono hb2.size)))
  go_ret
  exact ⟨rfl, hbl⟩
end Go.Proofs.YthcmopgdjibojaaGreatDoor.top
