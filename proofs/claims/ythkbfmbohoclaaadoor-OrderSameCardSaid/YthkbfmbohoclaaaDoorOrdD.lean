/- The load of a set of orders: the walk of order.Load, the main case. -/
import Derived.Test.YthkbfmbohoclaaaDoorOrdC
import Derived.Test.YthkbfmbohoclaaaDoorApp
namespace Go.Proofs.YthkbfmbohoclaaaDoor.ord
open Go.RowKit
open Go.Proofs.YthkbfmbohoclaaaDoor.lib Go.Proofs.YthkbfmbohoclaaaDoor.rd Go.Proofs.YthkbfmbohoclaaaDoor.typ Go.Proofs.YthkbfmbohoclaaaDoor.sumr Go.Proofs.YthkbfmbohoclaaaDoor.loads Go.Proofs.YthkbfmbohoclaaaDoor.sets Go.Proofs.YthkbfmbohoclaaaDoor.app
set_option linter.unusedVariables false
attribute [local go_sem ↓] Go.wp_at_zero Go.wp_at_succ

theorem far_ne {p q : Addr} (h : q.block < p.block) : q ≠ p := fun e => by subst e; omega
theorem inM_zip {m k : Int} {a b : List Int} (ha : InM m a) (hb : InM k b) : InM (m + k) (List.zipWith (fun x y => x + y) a b) := by
  intro z hz
  obtain ⟨i, hi, rfl⟩ := List.getElem_of_mem hz
  rw [List.getElem_zipWith]
  rw [List.length_zipWith] at hi
  have h1 := ha (a[i]'(by omega)) (List.getElem_mem _)
  have h2 := hb (b[i]'(by omega)) (List.getElem_mem _)
  omega
set_option maxHeartbeats 4000000 in
theorem load_in (A : Option Addr) (c : Nat) (l : List Ord) (s : Int) (h0 : 0 ≤ s) (d : Nat) (hd : d ≤ 3) (hl : l.length ≤ 14) (w : World) (hL : RowAt rOrd w w.heap.size A l) (hi : ∀ o, o ∈ l → InM 1073741824 o.load) :
    Calls Tryd.prog 26 #[.slice A l.length c, .int .i64 s, .int .i64 d] w (OutF w (loadF l s d)) := by
  have hq : (decide ((0 : Int) ≤ (d : Int)) && decide ((d : Int) ≤ 3)) = true := by simp; omega
  obtain ⟨n, hn⟩ : ∃ n, l.length = n := ⟨_, rfl⟩
  have HOUT : Hid (inAll (memL s) n = false → loadF l s d = none) := Lib.hid fun h => loadF_out (by rw [hn]; exact h)
  have HIN : Hid (inAll (memL s) n = true → loadF l s d = foldGo (fun x y => x + y) (rowsOf l (memL s)) (zeros d)) := Lib.hid fun h => by rw [loadF_in h0 (by rw [hn]; exact h), foldR_yes hd]
  have HI := Lib.hid hi
  have HN := Lib.hid hn
  rw [hn] at hl ⊢
  clear hn hi
  obtain ⟨F, hF⟩ : ∃ F, loadF l s d = F := ⟨_, rfl⟩
  rw [hF] at HOUT HIN ⊢
  clear hF
  go_enter Tryd.func26, Tryd.ntmps26
  go_wp2_with (first
    | (go_at_call 44; refine (within_any _ _ _ _).mono ?_; rw [hq]; rintro e w1 ⟨rfl, rfl⟩)
    | (go_at_call 45; refine (members_any _ _).mono ?_; rintro e w1 ⟨A1, c1, rfl, hownM, hb1⟩))
  have hmem := Lib.hid (fun x (h : x ∈ memL s) => mem_nonneg h)
  have hml := memL_len s
  have hIM : Ints w1 w1.heap.size A1 (memL s) := Ints.of_own hownM (by omega)
  obtain ⟨ms, hms⟩ : ∃ ms, memL s = ms := ⟨_, rfl⟩
  rw [hms] at hmem hml hIM HOUT HIN
  try rw [hms]
  clear hms hownM
  have hz1 := hb1.size
  obtain ⟨wo, hwo⟩ : ∃ wo : World, wo = w1 := ⟨_, rfl⟩
  go_loop [10, 27] (fun _ i => ∃ k : Nat, k ≤ ms.length ∧ i = .int .i64 k ∧ Hid (inTo ms n k)) (fun _ i => ms.length - (intOf i).toNat)
  case atStart => exact ⟨0, by omega, rfl, Lib.hid (fun j o hj => absurd hj (by omega))⟩
  case round =>
    obtain ⟨k, hk, rfl, hr⟩ := hrel
    by_cases hlt : k < ms.length
    · obtain ⟨ad, x, rfl, hadb, hx, hcx⟩ := hIM.at_ hlt
      have hx0 := (hmem.out x (List.mem_of_getElem? hx)).1
      by_cases hxn : x < n
      · have HX := Lib.hid (inTo_step hr.out hx hxn)
        have hq2 : (decide ((0 : Int) ≤ x) && decide (x < (n : Int))) = true := by simp; omega
        clear hx
        go_wp2_with (go_at_call 46; refine (there_any _ _ _ _ (by omega) _).mono ?_; rw [hq2]; rintro e w2 ⟨rfl, rfl⟩)
        go_round
        case rel => exact ⟨k + 1, by omega, by go_num, HX⟩
        case measure => simp [intOf]; omega
      · have HX := Lib.hid (HOUT.out (inTo_no hx hxn))
        have hq2 : (decide ((0 : Int) ≤ x) && decide (x < (n : Int))) = false := by simp; omega
        clear hx
        go_wp2_with (go_at_call 46; refine (there_any _ _ _ _ (by omega) _).mono ?_; rw [hq2]; rintro e w2 ⟨rfl, rfl⟩)
        go_ret2
        exact .inr ⟨HX.out, rfl, hb1⟩
    · have hkn : k = ms.length := by omega
      subst hkn
      have HX := Lib.hid (HIN.out (inTo_all hr.out))
      have HALL := Lib.hid hr.out
      clear hlt HOUT HIN hr
      go_wp2_with (at_make; refine make_ints rfl _ _ rfl w1.heap.size d rfl rfl (by omega) (Nat.le_refl _) ?_; intro w2 hown2 hb2 hz2)
      have hz2' := hb2.size
      have hIM2 : Ints w2 w1.heap.size A1 ms := hIM.below hb2
      have hL2 : RowAt rOrd w2 w.heap.size A l := hL.below (hb1.trans (hb2.mono hz1))
      have hB2 : Below w.heap.size w w2 := hb1.trans (hb2.mono hz1)
      have hgb : w.heap.size ≤ w1.heap.size := hz1
      go_loopw [13, 14, 15, 40] (fun _ _ _ i wr => ∃ (k : Nat) (acc : List Int), k ≤ ms.length ∧ i = .int .i64 k ∧ wr.ownsRow w1.heap.size 3 1 (.slice (some ⟨w1.heap.size, 0, none⟩) d d) d (acc.map (.int .i64)) ∧ Hid (acc.length = d ∧ InM (k * 1073741824) acc) ∧ Hid (F = foldGo (fun x y => x + y) ((rowsOf l ms).drop k) acc) ∧ Below w1.heap.size w1 wr) (fun _ _ _ i _ => ms.length - (intOf i).toNat)
      case atStart => exact ⟨0, zeros d, by omega, rfl, hown2, Lib.hid ⟨by simp [zeros], by intro x hx; unfold zeros at hx; rw [List.mem_replicate] at hx; omega⟩, Lib.hid (by rw [List.drop_zero]; exact HX.out), hb2⟩
      case round =>
        clear hown2
        obtain ⟨k, acc, hk, rfl, hown, hacc, hfold, hbel⟩ := hrel
        have hz := hbel.size
        by_cases hlt : k < ms.length
        · obtain ⟨adm, x, rfl, hadb, hx, hcx⟩ := (hIM.below hbel).at_ hlt
          have hx0 := (hmem.out x (List.mem_of_getElem? hx)).1
          have hxn : x < n := HALL.out k x hlt hx
          obtain ⟨i, rfl⟩ := Int.eq_ofNat_of_zero_le hx0
          have hin : i < n := by omega
          obtain ⟨o, ho⟩ : ∃ o, l[i]? = some o := ⟨_, List.getElem?_eq_getElem (by rw [HN.out]; exact hin)⟩
          obtain ⟨ad, C0, c0, rfl, hado, ⟨m0, m1, _⟩, hIo, hf⟩ := row_Ord (hL.below (hb1.trans (hbel.mono hz1))) ho
          have HR := Lib.hid (drop_at' (rowsOf_at hx ho))
          have HIo := Lib.hid (HI.out o (List.mem_of_getElem? ho))
          have hi0 : (0 : Int) ≤ (i : Int) := by omega
          have hk0 : (0 : Int) ≤ (k : Int) := by omega
          have hkn : (k : Int) < (ms.length : Int) := by omega
          have hIl := hIo.len
          have hIw : Ints w w.heap.size C0 o.load := Go.Proofs.YthkbfmbohoclaaaDoor.rd.Ints.keep (fun p hp => ((hb1.trans (hbel.mono hz1)).cell hp).symm) hIo
          clear hx ho
          by_cases hle : o.load.length = d
          · obtain ⟨row, hrow⟩ : ∃ row, o.load = row := ⟨_, rfl⟩
            rw [hrow] at m1 hIw hIl HR HIo hle
            have HLE := Lib.hid hle
            rw [hle] at m1 hIl
            clear hle hrow m0 hf
            have hdd : ((d : Int) != (d : Int)) = false := by simp
            go_wp2
            obtain ⟨hal, hain⟩ := hacc.out
            have HA := Lib.hid (And.intro hal hain)
            clear hal hain hacc
            have H0 := Lib.hid (stL_zero acc row)
            have HP := Lib.hid (fun q (hq : q < d) => And.intro (List.getElem?_eq_getElem (l := acc) (i := q) (by rw [HA.out.1]; exact hq)) (List.getElem?_eq_getElem (l := row) (i := q) (by rw [HLE.out]; exact hq)))
            go_loopw [14, 15, 58] (fun _ _ i wr2 => ∃ q : Nat, q ≤ d ∧ i = .int .i64 q ∧ wr2.ownsRow w1.heap.size 3 1 (.slice (some ⟨w1.heap.size, 0, none⟩) d d) d ((stL acc row q).map (.int .i64)) ∧ Below w1.heap.size w1 wr2 ∧ wr.heap.size ≤ wr2.heap.size) (fun _ _ i _ => d - (intOf i).toNat)
            case atStart => exact ⟨0, by omega, rfl, by rw [H0.out]; exact hown, hbel, Nat.le_refl _⟩
            case round =>
              clear hown hbel
              obtain ⟨q, hq, rfl, hown, hbel, hsz⟩ := hrel
              by_cases hqd : q < d
              · obtain ⟨e1, e2⟩ := HP.out q hqd
                obtain ⟨x, hx⟩ : ∃ x, acc[q]? = some x := ⟨_, e1⟩
                obtain ⟨y, hy⟩ : ∃ y, row[q]? = some y := ⟨_, e2⟩
                have HS := Lib.hid (stL_set HA.out.1 HLE.out hqd hx hy)
                have HG := stL_at (row := row) HA.out.1 HLE.out hqd hx
                obtain ⟨x0, x1⟩ := HA.out.2 x (List.mem_of_getElem? hx)
                obtain ⟨y0, y1⟩ := HIo.out y (List.mem_of_getElem? hy)
                obtain ⟨adr, y', rfl, hadr, hy', hcy⟩ := (hIw.below (hb1.trans (hbel.mono hz1))).at_ (k := q) (by rw [HLE.out]; exact hqd)
                have ey : y' = y := by rw [hy] at hy'; exact (Option.some.inj hy').symm
                subst ey
                have hck := own_cells hown q hqd
                rw [HG] at hck
                have hst := (hown.stored q (.int .i64 (x + y'))).1
                rw [← List.map_set, HS.out] at hst
                have HST := Lib.hid hst
                have hfz := hown.frozenAt q
                have hq0 : (0 : Int) ≤ (q : Int) := by omega
                have hqn : (q : Int) < (d : Int) := by omega
                have hk16 : (k : Int) * 1073741824 ≤ 67645734912 := by omega
                clear hx hy hy' e1 e2 HG hst
                go_wp2
                go_roundw
                case rel => exact ⟨q + 1, by omega, by go_num, HST.out, hbel.setCell (p := ⟨w1.heap.size, _, none⟩) (Nat.le_refl _) _, by simp; omega⟩
                case measure => simp [intOf]; omega
              · have hqe : q = d := by omega
                subst hqe
                have HFull := Lib.hid (stL_full HA.out.1 HLE.out)
                clear hqd
                go_wp2
                go_roundw
                case rel =>
                  refine ⟨k + 1, List.zipWith (fun x y => x + y) acc row, by omega, by go_num, by rw [← HFull.out]; exact hown, Lib.hid ⟨by rw [List.length_zipWith, HA.out.1, HLE.out, Nat.min_self], ?_⟩, Lib.hid ?_, hbel⟩
                  · rw [show ((k + 1 : Nat) : Int) * 1073741824 = (k : Int) * 1073741824 + 1073741824 by omega]
                    exact inM_zip HA.out.2 HIo.out
                  · rw [hfold.out, HR.out, foldGo, if_pos (by rw [HA.out.1, HLE.out])]
                case measure => simp [intOf]; omega
          · have h2 : ((o.load.length : Int) == (d : Int)) = false := by simp; omega
            have h3 : ((o.load.length : Int) != (d : Int)) = true := by simp; omega
            have HLE := Lib.hid hle
            clear hle
            go_wp2
            go_ret2
            exact .inr ⟨by rw [hfold.out, HR.out, foldGo, if_neg (by rw [hacc.out.1]; exact HLE.out)], rfl, hb1.trans (hbel.mono hz1)⟩
        · have hkn : k = ms.length := by omega
          subst hkn
          have HE : Hid (F = some acc) := Lib.hid (by rw [hfold.out, List.drop_of_length_le (by simp [rowsOf])]; rfl)
          have hal : acc.length = d := hacc.out.1
          clear hlt hfold
          go_wp2
          go_ret2
          refine .inl ⟨acc, HE.out, some ⟨w1.heap.size, 0, none⟩, d, ?_, by rw [hal]; exact own_less hown hz1, hb1.trans (hbel.mono hz1)⟩
          rw [hal]
          rfl
end Go.Proofs.YthkbfmbohoclaaaDoor.ord
