/- The law SplitSums, walked. -/
import Derived.Test.YtceceomaheobhaaSplY
import Derived.Deep.DeepCutAuto
import Derived.Deep.QuietTactic
import Derived.BigQuiet
import Derived.IntWalk
namespace Go.Proofs.Ytceceomaheobhaa.spl
open Go.RowKit
open Go.Proofs.Ytceceomaheobhaa.lib Go.Proofs.Ytceceomaheobhaa.rd Go.Proofs.Ytceceomaheobhaa.app Go.Proofs.Ytceceomaheobhaa.els Go.Proofs.Ytceceomaheobhaa.loads
set_option linter.unusedVariables false
set_option linter.unusedSimpArgs false

def sumTo (q n : Int) (j : Nat) : Int := ((List.range j).map fun k : Nat => porI q n k).sum
theorem sumTo_succ (q n : Int) (j : Nat) : sumTo q n (j + 1) = sumTo q n j + porI q n j := by
  unfold sumTo
  rw [List.range_succ, List.map_append, List.sum_append]
  simp
theorem sumTo_bd {q n : Int} (h0 : 0 ≤ q) (h9 : q ≤ 1000) (h1 : 1 ≤ n) : ∀ j : Nat, 0 ≤ sumTo q n j ∧ sumTo q n j ≤ j * 1001
  | 0 => by simp [sumTo]
  | j + 1 => by
    have ih := sumTo_bd h0 h9 h1 j
    have hp := porI_bd (q := q) (n := n) (k := j) h0 h1
    rw [sumTo_succ]
    push_cast
    omega
theorem por_down (q n : Int) (k : Nat) : porI q n ((k + 1 : Nat) : Int) ≤ porI q n k := by
  unfold porI
  split <;> split <;> omega
theorem por_near (q n : Int) (j k : Int) : porI q n j - 1 ≤ porI q n k := by
  unfold porI
  split <;> split <;> omega
theorem _root_.Go.Proofs.Ytceceomaheobhaa.lib.Ints.at_of {w : World} {B : Nat} {ad : Addr} {l : List Int} (h : Ints w B (some ad) l) {k : Nat} {x : Int} (hx : l[k]? = some x) : w.cell? (ad.add k) = some (.int .i64 x) := by
  obtain ⟨ad', y, hA, _, hy, hc⟩ := h.at_ (k := k) (List.getElem?_eq_some_iff.1 hx).1
  injection hA with hA
  subst hA
  rw [hx] at hy
  injection hy with hy
  subst hy
  exact hc
set_option maxRecDepth 20000 in
set_option maxHeartbeats 4000000 in
theorem lawSums_any (A : Option Addr) (c : Nat) (l : List Int) (n : Int) (w : World) (h : Ints w w.heap.size A l) :
    Calls Try.prog 6 #[.slice A l.length c, .int .i64 n] w fun e w' => e = .returned (.bool true) ∧ Below w.heap.size w w' := by
  have HI := Lib.hid h
  clear h
  go_enter Try.func6, Try.ntmps6
  go_wp2_with fail
  refine (loads_any A c l n w HI.out).mono ?_
  by_cases hok : (1 ≤ n ∧ n ≤ 4) ∧ okLd l = true
  · obtain ⟨nn, rfl⟩ := Int.eq_ofNat_of_zero_le (show 0 ≤ n by omega)
    have hn1 : 1 ≤ nn := by omega
    have hn4 : nn ≤ 4 := by omega
    rw [loadsF_some hn1 hn4 hok.2]
    have HK := Lib.hid (fun x hx => okLd_at hok.2 (x := x) hx)
    have hm3 := okLd_len hok.2
    clear hok
    rintro e w1 (⟨ll, A1, c1, cs1, he, rfl, hown1, hels1, b1⟩ | ⟨he, -⟩)
    rotate_left
    · cases he
    injection he with he
    subst he
    rw [partsL_len] at hown1 ⊢
    obtain ⟨m, hm⟩ : ∃ m, l.length = m := ⟨_, rfl⟩
    have HM := Lib.hid hm
    rw [hm] at hm3 ⊢
    have hz1 := b1.size
    obtain ⟨g, hg, HC⟩ : ∃ g, A1 = some ⟨g, 0, none⟩ ∧ Hid (g < w1.heap.size ∧ ∀ i, i < nn → ∃ C d, w1.cell? ⟨g, i, none⟩ = some (.slice C m d) ∧ Ints w1 w1.heap.size C (ptL l nn i)) := by
      obtain ⟨g, C, d, e1, hg, i1, k1⟩ := els_cell (s := 1) (fun x A c => rfl) hels1 hown1 (partsL_len l nn) (partsL_at l (show 0 < nn by omega))
      refine ⟨g, e1, Lib.hid ⟨hg, fun i hi => ?_⟩⟩
      obtain ⟨g', C', d', e2, _, i2, k2⟩ := els_cell (s := 1) (fun x A c => rfl) hels1 hown1 (partsL_len l nn) (partsL_at l hi)
      rw [e1] at e2
      injection e2 with e2
      injection e2 with e2
      subst e2
      have k3 := k2 0 _ rfl
      rw [Nat.mul_one, Nat.add_zero] at k3
      refine ⟨C', d', ?_, i2⟩
      rw [k3]
      show some (Value.slice C' (ptL l nn i).length d') = _
      rw [ptL_len, hm]
    subst hg
    have HI1 := Lib.hid ((HI.out.below b1).more hz1)
    have HB1 := Lib.hid b1
    have hn1' : (1 : Int) ≤ (nn : Int) := by omega
    have hn4' : (nn : Int) ≤ 4 := by omega
    clear hown1 hels1 b1 hm
    go_upto_region 7 with fail
    go_loopw [7, 8, 9, 10, 35] (fun _ _ _ _ i wr => ∃ k : Nat, k ≤ m ∧ i = .int .i64 k ∧ Below w1.heap.size w1 wr) (fun _ _ _ _ i _ => m - (intOf i).toNat)
    case atStart => exact ⟨0, by omega, rfl, Below.refl _ _⟩
    case round =>
      obtain ⟨k, hk, rfl, hb⟩ := hrel
      by_cases hlt : k < m
      · obtain ⟨ad, x, rfl, hadb, hx, hcx⟩ := (HI1.out.below hb).at_ (k := k) (by rw [HM.out]; exact hlt)
        obtain ⟨x0, x9⟩ := HK.out x (List.mem_of_getElem? hx)
        have HX := Lib.hid hx
        have hk0 : (0 : Int) ≤ (k : Int) := by omega
        have hkn : (k : Int) < (m : Int) := by omega
        have hzr := hb.size
        have HB := Lib.hid hb
        clear hx hb
        go_upto_region 11 with fail
        clear hcx
        go_loopw [8, 9, 10, 40] (fun s _ _ i wr => ∃ j : Nat, j ≤ nn ∧ i = .int .i64 j ∧ s = .int .i64 (sumTo x nn j) ∧ Below w1.heap.size w1 wr) (fun _ _ _ i _ => nn - (intOf i).toNat)
        case atStart => exact ⟨0, by omega, rfl, by simp [sumTo], HB.out⟩
        case round =>
          obtain ⟨j, hj, rfl, rfl, hb⟩ := hrel
          obtain ⟨s0, s9⟩ := sumTo_bd x0 x9 hn1' j
          by_cases hlj : j < nn
          · obtain ⟨C, d, e1, i1⟩ := HC.out.2 j hlj
            obtain ⟨C0, d0, e0, i0⟩ := HC.out.2 0 (by omega)
            obtain ⟨aj, y, hCj, hajb, hy, hcy⟩ := (i1.below hb).at_ (k := k) (by rw [ptL_len, HM.out]; exact hlt)
            have hyy : y = porI x nn j := by have h := ptL_at HX.out nn j; rw [hy] at h; exact Option.some.inj h
            have hyb := porI_bd (q := x) (n := nn) (k := j) x0 hn1'
            rw [← hyy] at hyb
            have HS : Hid (sumTo x nn (j + 1) = sumTo x nn j + y) := Lib.hid (by rw [sumTo_succ, hyy])
            have f1 : wr.cell? ⟨g, j, none⟩ = some (.slice C m d) := (hb.cell (p := ⟨g, j, none⟩) HC.out.1).trans e1
            obtain ⟨s, hs⟩ : ∃ s, sumTo x nn j = s := ⟨_, rfl⟩
            rw [hs] at s0 s9 HS
            simp only [hs]
            have hj0 : (0 : Int) ≤ (j : Int) := by omega
            have hjn : (j : Int) < (nn : Int) := by omega
            have hs1 : IntKind.i64.wrap (s + y) = s + y := IntWalk.i64_in _ (by omega)
            subst hCj
            have HII := Lib.hid (And.intro i0 (And.intro e0 (And.intro hyy hs)))
            clear i1 e1 hy hs i0 e0 hyy hs1
            rcases Nat.eq_zero_or_pos j with rfl | hpos
            · have hd0 : decide (0 < ((0 : Nat) : Int)) = false := rfl
              go_upto_region 13 with fail
              go_quiet (fail)
              go_wp2
              refine ⟨⟨0 + 1, by omega, by go_num, by rw [HS.out]; first | done | rfl | go_num, bel_drewN hb _⟩, by simp [intOf]; omega⟩
            · obtain ⟨i, rfl⟩ : ∃ i, j = i + 1 := ⟨j - 1, by omega⟩
              obtain ⟨C', d', e2, i2⟩ := HC.out.2 i (by omega)
              obtain ⟨ai, z, hCi, haib, hz, hcz⟩ := (i2.below hb).at_ (k := k) (by rw [ptL_len, HM.out]; exact hlt)
              obtain ⟨a0, y0, hC0, ha0b, hy0, hcy0⟩ := (HII.out.1.below hb).at_ (k := k) (by rw [ptL_len, HM.out]; exact hlt)
              have hzz : z = porI x nn i := by have h := ptL_at HX.out nn i; rw [hz] at h; exact Option.some.inj h
              have hyy0 : y0 = porI x nn ((0 : Nat) : Int) := by have h := ptL_at HX.out nn ((0 : Nat) : Int); rw [hy0] at h; exact Option.some.inj h
              have hy1 : ¬ z < y := by have h1 := por_down x nn i; have h2 := HII.out.2.2.1; rw [hzz, h2]; omega
              have hy2 : ¬ y < y0 - 1 := by have h1 := por_near x nn ((0 : Nat) : Int) ((i + 1 : Nat) : Int); have h2 := HII.out.2.2.1; rw [hyy0, h2]; omega
              have hd1 : decide (z < y) = false := decide_eq_false hy1
              have hd2 : decide (y < y0 - 1) = false := decide_eq_false hy2
              have hb0 := porI_bd (q := x) (n := nn) (k := ((0 : Nat) : Int)) x0 hn1'
              rw [← hyy0] at hb0
              have f2 : wr.cell? ⟨g, i, none⟩ = some (.slice C' m d') := (hb.cell (p := ⟨g, i, none⟩) HC.out.1).trans e2
              have f0 : wr.cell? ⟨g, 0, none⟩ = some (.slice C0 m d0) := (hb.cell (p := ⟨g, 0, none⟩) HC.out.1).trans HII.out.2.1
              have hi0 : (0 : Int) ≤ (i : Int) := by omega
              have hin : (i : Int) < (nn : Int) := by omega
              have hd0 : decide (0 < (((i + 1 : Nat)) : Int)) = true := decide_eq_true (by omega)
              have hd0' : decide (0 < (i : Int) + 1) = true := decide_eq_true (by omega)
              have hw1 : IntKind.i64.wrap (y0 - 1) = y0 - 1 := IntWalk.i64_in _ (by omega)
              have hw2 : IntKind.i64.wrap ((i : Int) + 1 - 1) = (i : Int) := by rw [show (i : Int) + 1 - 1 = (i : Int) by omega]; exact IntWalk.i64_in _ (by omega)
              have hw3 : IntKind.i64.wrap (i : Int) = (i : Int) := IntWalk.i64_in _ (by omega)
              subst hCi
              subst hC0
              clear e2 i2 hz hy0 hzz hyy0 hy1 hy2
              go_upto_region 13 with fail
              go_quiet (fail)
              clear hw1 hw2 hw3 hd0 hd0' hd1 hd2
              go_wp2
              refine ⟨⟨i + 1 + 1, by omega, by go_num, by rw [HS.out]; first | done | rfl | go_num, bel_drewN hb _⟩, by simp [intOf]; omega⟩
          · have hjn : j = nn := by omega
            subst hjn
            have hcx : wr.cell? (ad.add k) = some (.int .i64 x) := (hb.cell (by rw [block_of_add]; omega)).trans ((HI1.out.at_of HX.out))
            have HSUM : Hid (sumTo x j j = x) := Lib.hid (por_sum x0 hn1 hn4)
            clear hlj
            go_upto_region 17 with fail
            rw [HSUM.out]
            go_wp2
            refine ⟨⟨k + 1, by omega, by go_num, hb⟩, by simp [intOf]; omega⟩
      · have hkm : k = m := by omega
        subst hkm
        clear hlt
        go_wp2_with fail
        refine (examples_any _).mono ?_
        rintro e w4 ⟨rfl, b4⟩
        go_wp2_with fail
        go_ret
        exact ⟨rfl, HB1.out.trans ((hb.trans (b4.mono hb.size)).mono hz1)⟩
  · have hno : loadsF l n = none := by unfold loadsF; rw [if_neg hok]
    rw [hno]
    clear hok hno
    rintro e w1 (⟨ll, A1, c1, cs1, he, -⟩ | ⟨-, rfl, b1⟩)
    · cases he
    go_wp2_with fail
    refine (examples_any _).mono ?_
    rintro e w4 ⟨rfl, b4⟩
    go_wp2_with fail
    go_ret
    exact ⟨rfl, b1.trans (b4.mono b1.size)⟩
end Go.Proofs.Ytceceomaheobhaa.spl
