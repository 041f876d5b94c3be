import Derived.Test.YtofabhenmplkoaaGreatDoorStrU
import Derived.Test.YtofabhenmplkoaaGreatDoorPrtC
import Derived.Test.YtofabhenmplkoaaGreatDoorPrsQ
import Derived.Test.YtofabhenmplkoaaGreatDoorPrsC
import Derived.Test.YtofabhenmplkoaaGreatDoorPrsD
/- The reference's word, decimals, stop and Print. -/
namespace Go.Proofs.YtofabhenmplkoaaGreatDoor.evt
open Go.RowKit
open Go.Proofs.YtofabhenmplkoaaGreatDoor.lib Go.Proofs.YtofabhenmplkoaaGreatDoor.rd Go.Proofs.YtofabhenmplkoaaGreatDoor.app Go.Proofs.YtofabhenmplkoaaGreatDoor.els Go.Proofs.YtofabhenmplkoaaGreatDoor.typ Go.Proofs.YtofabhenmplkoaaGreatDoor.big Go.Proofs.YtofabhenmplkoaaGreatDoor.ins Go.Proofs.YtofabhenmplkoaaGreatDoor.ord Go.Proofs.YtofabhenmplkoaaGreatDoor.gen
open Go.Proofs.YtofabhenmplkoaaGreatDoor.txt (in64 By strV strV_of joinS decW elem_str nameB toList_data rdecW_any size_cons joinS_cons joinS_one)
set_option linter.unusedVariables false
set_option linter.unusedSimpArgs false

theorem reword_any (k : Int) (w : World) : Calls Tryz.prog 69 #[.int .i64 k] w fun en w' => en = .returned (.string (wordS k)) ∧ w = w' := by
  by_cases h1 : k = 1
  · subst h1
    go_enter Tryz.func69, Tryz.ntmps69
    go_wp2
    go_ret
    exact ⟨rfl, rfl⟩
  by_cases h2 : k = 2
  · subst h2
    go_enter Tryz.func69, Tryz.ntmps69
    go_wp2
    go_ret
    exact ⟨rfl, rfl⟩
  by_cases h3 : k = 3
  · subst h3
    go_enter Tryz.func69, Tryz.ntmps69
    go_wp2
    go_ret
    exact ⟨rfl, rfl⟩
  by_cases h4 : k = 4
  · subst h4
    go_enter Tryz.func69, Tryz.ntmps69
    go_wp2
    go_ret
    exact ⟨rfl, rfl⟩
  by_cases h5 : k = 5
  · subst h5
    go_enter Tryz.func69, Tryz.ntmps69
    go_wp2
    go_ret
    exact ⟨rfl, rfl⟩
  have HS : Hid (wordS k = ⟨#[]⟩) := Lib.hid (by unfold wordS; simp [h1, h2, h3, h4, h5])
  go_enter Tryz.func69, Tryz.ntmps69
  go_wp2
  go_ret
  exact ⟨Go.Proofs.YtofabhenmplkoaaGreatDoor.txt.ret_str HS.out.symm, rfl⟩
end Go.Proofs.YtofabhenmplkoaaGreatDoor.evt

/- The reference's numbers and kinded. -/
namespace Go.Proofs.YtofabhenmplkoaaGreatDoor.evt
open Go.RowKit
open Go.Proofs.YtofabhenmplkoaaGreatDoor.lib Go.Proofs.YtofabhenmplkoaaGreatDoor.rd Go.Proofs.YtofabhenmplkoaaGreatDoor.app Go.Proofs.YtofabhenmplkoaaGreatDoor.els Go.Proofs.YtofabhenmplkoaaGreatDoor.typ Go.Proofs.YtofabhenmplkoaaGreatDoor.big Go.Proofs.YtofabhenmplkoaaGreatDoor.ins Go.Proofs.YtofabhenmplkoaaGreatDoor.ord Go.Proofs.YtofabhenmplkoaaGreatDoor.gen
open Go.Proofs.YtofabhenmplkoaaGreatDoor.txt (in64 By strV strV_of joinS decW elem_str nameB toList_data Strs numL rnumber_any ret_nn)
set_option linter.unusedVariables false
set_option linter.unusedSimpArgs false

set_option maxRecDepth 20000 in
theorem rnumbers_any (L : List By) (A : Option Addr) (n c : Nat) (hn : n = L.length) (w : World) (hL : Strs w w.heap.size A L) (hm : ∀ x ∈ L, x.length ≤ 100000) : Calls Tryz.prog 134 #[.slice A n c] w (RdOut w L) := by
  have HL := Lib.hid hL
  have HM := Lib.hid hm
  have HN := Lib.hid hn
  have hnb : n ≤ 1000000 := by rw [hn]; exact hL.2
  clear hL hm hn
  go_enter Tryz.func134, Tryz.ntmps134
  go_upto_region 3 with fail
  go_loopw [4, 5, 6, 7] (fun ov iv _ _ wr => Below w.heap.size w wr ∧ ∃ (k d : Nat) (B : Option Addr) (l : List Int), k ≤ n ∧ iv = .int .i64 k ∧ ov = .slice B k d ∧ Hid (k = l.length) ∧ Hid (IOwn wr w.heap.size B d l) ∧ Hid (readF L = (readF (L.drop k)).map (l ++ ·))) (fun _ iv _ _ _ => n - (intOf iv).toNat)
  case atStart => exact ⟨Below.refl _ _, 0, 0, none, [], by omega, rfl, rfl, Lib.hid rfl, Lib.hid (World.ownsRow_nil _ _ _ _), Lib.hid (by rw [List.drop_zero]; cases readF L <;> simp)⟩
  case round =>
    obtain ⟨hb, k, d, B, l, hk, rfl, rfl, hkl, hO, hR⟩ := hrel
    have hbz := hb.size
    by_cases hlt : k < n
    · obtain ⟨ad, x, hA, hadb, hx, hcell⟩ := (HL.out.below hb).at_ (k := k) (by rw [← HN.out]; exact hlt)
      subst hA
      have hxm : x.length ≤ 100000 := HM.out x (List.mem_of_getElem? hx)
      have HX := Lib.hid hx
      have hst := Lib.hid (readF_drop hx)
      clear hx
      obtain ⟨v, hv⟩ : ∃ v, (numL x).1 = v := ⟨_, rfl⟩
      obtain ⟨f, hf⟩ : ∃ f, (numL x).2 = f := ⟨_, rfl⟩
      have HV := Lib.hid hv
      have HF := Lib.hid hf
      have hnum : ∀ w', Calls Tryz.prog 77 #[.string ⟨x.toArray⟩] w' fun e w'' => e = .returned (.tuple #[.int .i64 v, .int .i64 f]) ∧ w' = w'' := fun w' => by
        have h1 := rnumber_any ⟨x.toArray⟩ (by show x.toArray.size ≤ _; simp; omega) w'
        have e : (⟨x.toArray⟩ : ByteArray).data.toList = x := rfl
        rw [e, hv, hf] at h1
        exact h1
      clear hv hf
      by_cases hf0 : f = 0
      · subst hf0
        have HR2 : Hid (readF L = (readF (L.drop (k + 1))).map ((l ++ [v]) ++ ·)) := Lib.hid (by
          rw [hR.out, hst.out, if_pos HF.out, HV.out]
          cases readF (L.drop (k + 1)) <;> simp)
        clear hR
        go_wp2_with (first
          | (go_at_call 77; refine (hnum _).mono ?_; rintro e2 w2 ⟨rfl, rfl⟩)
          | (at_builtin; refine push_i rfl _ _ rfl w.heap.size k d B l hkl.out rfl hO.out v rfl (by omega) (by omega) ?_; intro B3 d3 w3 hO3 hb3))
        go_roundw
        case rel => exact ⟨hb.trans hb3, k + 1, d3, B3, l ++ [v], by omega, by go_num, rfl, Lib.hid (by rw [List.length_append, ← hkl.out]; rfl), Lib.hid hO3, HR2⟩
        case measure => simp [intOf]; omega
      · have hf1 : (f != 0) = true := by simpa using hf0
        have HR2 : Hid (readF L = none) := Lib.hid (by rw [hR.out, hst.out, if_neg (by rw [HF.out]; exact hf0)]; rfl)
        go_wp2_with (go_at_call 77; refine (hnum _).mono ?_; rintro e2 w2 ⟨rfl, rfl⟩)
        refine bodyPost_ret (v := .tuple #[.slice none 0 0, .bool false]) (by simp [results, Tryz.results134, go_sem]) rfl ?_
        exact ⟨hb, .inl ⟨HR2.out, rfl⟩⟩
    · have HR2 : Hid (readF L = some l) := Lib.hid (by
        rw [hR.out, List.drop_of_length_le (by rw [← HN.out]; omega)]
        simp [readF])
      go_wp2
      refine bodyPost_ret (v := .tuple #[.slice B k d, .bool true]) (by simp [results, Tryz.results134, go_sem]) rfl ?_
      exact ⟨hb, .inr ⟨l, B, d, k, HR2.out, hkl.out, rfl, hO.out⟩⟩
/-- What kinded has found before k. -/
theorem kindF_at {x : By} {k : Int} (hk : 1 ≤ k ∧ k ≤ 5) : kindF x = k ↔ x = (wordS k).data.toList :=
  ⟨fun h => by rw [← h]; exact word_kindF (by omega), fun h => by rw [h]; exact kindF_word hk⟩
theorem rkinded_any (x : By) (w : World) : Calls Tryz.prog 76 #[.string ⟨x.toArray⟩] w fun en w' => en = .returned (.int .i64 (kindF x)) ∧ w = w' := by
  obtain ⟨R, hR⟩ : ∃ R, kindF x = R := ⟨_, rfl⟩
  rw [hR]
  have HR := Lib.hid hR
  have hin := kindF_in x
  rw [hR] at hin
  clear hR
  obtain ⟨hi1, hi2⟩ := hin
  go_enter Tryz.func76, Tryz.ntmps76
  go_upto_region 2 with fail
  go_loop [3] (fun i => ∃ k : Nat, 1 ≤ k ∧ k ≤ 6 ∧ i = .int .i64 k ∧ (R = 0 ∨ (k : Int) ≤ R)) (fun i => 6 - (intOf i).toNat)
  case atStart => exact ⟨1, by omega, by omega, rfl, by omega⟩
  case round =>
    obtain ⟨k, hk1, hk6, rfl, hRk⟩ := hrel
    by_cases h5 : k ≤ 5
    · have hk5 : (k : Int) ≤ 5 := by omega
      obtain ⟨g, hg⟩ : ∃ g, ((wordS (k : Int)).toList == (⟨x.toArray⟩ : ByteArray).toList) = g := ⟨_, rfl⟩
      have HG : Hid (g = true ↔ R = (k : Int)) := Lib.hid (by
        rw [← hg, ← HR.out, kindF_at (by omega), beq_iff_eq, toList_data, toList_data]
        exact ⟨fun h => h.symm, fun h => h.symm⟩)
      have hg2 : ((wordS (k : Int)).toList == x) = g := by rw [← hg, toList_data ⟨x.toArray⟩]
      cases g
      · have hne : R ≠ (k : Int) := fun h => by have := HG.out.2 h; cases this
        go_wp2_with (go_at_call 69; refine (reword_any _ _).mono ?_; rintro e2 w2 ⟨rfl, rfl⟩)
        go_round
        case rel => exact ⟨k + 1, by omega, by omega, by go_num, by omega⟩
        case measure => simp [intOf]; omega
      · have he : Hid ((k : Int) = R) := Lib.hid (HG.out.1 rfl).symm
        go_wp2_with (go_at_call 69; refine (reword_any _ _).mono ?_; rintro e2 w2 ⟨rfl, rfl⟩)
        go_ret
        exact ⟨congrArg (fun z : Int => Ending.returned (.int .i64 z)) he.out, rfl⟩
    · have h0 : Hid ((0 : Int) = R) := Lib.hid (by omega)
      have hk5 : 5 < (k : Int) := by omega
      go_wp2
      go_ret
      exact ⟨congrArg (fun z : Int => Ending.returned (.int .i64 z)) h0.out, rfl⟩
end Go.Proofs.YtofabhenmplkoaaGreatDoor.evt

/- The reference's order. -/
namespace Go.Proofs.YtofabhenmplkoaaGreatDoor.evt
open Go.RowKit
open Go.Proofs.YtofabhenmplkoaaGreatDoor.lib Go.Proofs.YtofabhenmplkoaaGreatDoor.rd Go.Proofs.YtofabhenmplkoaaGreatDoor.app Go.Proofs.YtofabhenmplkoaaGreatDoor.els Go.Proofs.YtofabhenmplkoaaGreatDoor.typ Go.Proofs.YtofabhenmplkoaaGreatDoor.big Go.Proofs.YtofabhenmplkoaaGreatDoor.ins Go.Proofs.YtofabhenmplkoaaGreatDoor.ord
open Go.Proofs.YtofabhenmplkoaaGreatDoor.gen hiding zOrd bOrd
open Go.Proofs.YtofabhenmplkoaaGreatDoor.off (setM step_storeM wpList_storeM)
open Go.Proofs.YtofabhenmplkoaaGreatDoor.txt (in64 By strV strV_of joinS decW elem_str nameB rname_any toList_data Strs numL own_cap)
set_option linter.unusedVariables false
set_option linter.unusedSimpArgs false

/-- What order answers. -/
def RrOut (w : World) (L : List By) (en : Ending) (w' : World) : Prop := Below w.heap.size w w' ∧
  ((rordF L = none ∧ en = .returned (.tuple #[.agg zOrd.toArray, .bool false])) ∨ ∃ (o : Ord) (C : Option Addr) (c : Nat), rordF L = some o ∧ en = .returned (.tuple #[.agg (OrdCells o C c).toArray, .bool true]) ∧ IntsOff w' (fun b => w.heap.size ≤ b) C o.load)
set_option maxRecDepth 20000 in
set_option maxHeartbeats 4000000 in
theorem rorder_any (L : List By) (A : Option Addr) (n c : Nat) (hn : n = L.length) (hnc : n ≤ c) (w : World) (hL : Strs w w.heap.size A L) (hm : ∀ x ∈ L, x.length ≤ 100000) : Calls Tryz.prog 133 #[.slice A n c] w (RrOut w L) := by
  obtain ⟨W0, hW0⟩ : ∃ W0, w.alloc (.cells zOrd.toArray 35) = W0 := ⟨_, rfl⟩
  have hB0 : Below w.heap.size w W0 := by rw [← hW0]; exact (Below.refl _ _).alloc (Nat.le_refl _) _
  have z0 := hB0.size
  have b0 : Blk W0 w.heap.size 35 zOrd := by rw [← hW0]; exact Blk.new w _ _
  have HR0 := Lib.hid b0
  obtain ⟨rb, hrb0⟩ : ∃ b, w.heap.size = b := ⟨_, rfl⟩
  have hrb : w.heap.size ≤ rb := by omega
  have zz : rb < W0.heap.size := by rw [← hrb0]; exact b0.lt
  have HB0 := Lib.hid hB0
  have HL := Lib.hid (hL.below hB0)
  have HM := Lib.hid hm
  have HN := Lib.hid hn
  have HW0 := Lib.hid (show w.alloc (.cells #[.string ⟨#[]⟩, .slice none 0 0, .int .i64 0, .int .i64 0, .int .i64 0, .int .i64 0, .int .i64 0, .int .i64 0, .int .i64 0, .int .i64 0, .int .i64 0, .int .i64 0, .int .i64 0, .int .i64 0, .int .i64 0, .bool false] 35) = W0 from hW0)
  clear hL hm hn b0 hB0 hW0
  go_enter Tryz.func133, Tryz.ntmps133
  go_upto_region 1 with fail
  rw [HW0.out]
  rw [hrb0] at HR0
  have HR0w := HR0
  clear HW0
  by_cases h2 : n < 2
  · have HEE : Hid (rordF L = none) := Lib.hid (by
      have := HN.out
      unfold rordF
      cases L with
      | nil => rfl
      | cons x r =>
        cases r with
        | nil => rfl
        | cons y r => simp at this; omega)
    have h2' : (n : Int) < 2 := by omega
    have HBX : Hid (Below W0.heap.size W0 W0) := Lib.hid (Below.refl _ _)
    go_wp2_with (first
      | fail
      | ((with_reducible refine wpList_buildL bOrd rfl _ rfl _ zOrd ?_ (by kernel_rfl) ?_); exact rfl)
      | ((with_reducible refine wpList_storeL stOrd' rfl _ _ rfl rb zOrd zOrd ?_ ?_ ?_ ?_ ?_ (by decide) ?_); exact rfl; exact rfl; exact HR0.out; exact rfl; exact rfl; intro wz k1 k2 k3 k4; have K := Lib.hid (And.intro k1 (And.intro k2 (And.intro k3 k4))); clear k1 k2 k3 k4))
    have HRz : Blk wz rb 35 zOrd := K.out.1
    refine bodyPost_ret (v := .tuple #[.agg zOrd.toArray, .bool false]) (big.res_cell_tmp stOrd' Tryz.results133 rfl rfl HRz.cells rfl) rfl ?_
    exact ⟨HB0.out.trans ((HBX.out.mono z0).trans (K.out.2.2.2.mono hrb)), .inl ⟨HEE.out, rfl⟩⟩
  obtain ⟨ad, hA, hL1⟩ := Strs.drop HL.out 1 (by rw [← HN.out]; omega)
  obtain ⟨ad0, x0, hA0, hadb0, hx0, hcell0⟩ := HL.out.at_ (k := 0) (by rw [← HN.out]; omega)
  subst hA
  obtain rfl : ad = ad0 := Option.some.inj hA0
  obtain ⟨r, hLr⟩ : ∃ r, L = x0 :: r := by
    cases L with
    | nil => cases hx0
    | cons y r => exact ⟨r, by rw [show y = x0 from Option.some.inj hx0]⟩
  have hrl : r.length = n - 1 := by rw [HN.out, hLr]; rfl
  rw [show L.drop 1 = r by rw [hLr]; rfl] at hL1
  have HL1 := Lib.hid hL1
  have hrm : ∀ x ∈ r, x.length ≤ 100000 := fun x hx => HM.out x (by rw [hLr]; exact List.mem_cons_of_mem _ hx)
  have HRM := Lib.hid hrm
  have HRL := Lib.hid hrl.symm
  have HLR := Lib.hid hLr
  have h21 : (1 : Int) ≤ (n : Int) := by omega
  have HRW := Lib.hid (HL1.out.more (show w.heap.size ≤ W0.heap.size by omega))
  clear hx0 hLr hrl hA0 hL1 hrm
  have e00 : W0.cell? ad = some (.string ⟨x0.toArray⟩) := hcell0
  have hxs : Hid ((⟨x0.toArray⟩ : ByteArray).size ≤ 140737488351232) := Lib.hid (by
    have h := HM.out x0 (by rw [HLR.out]; exact List.mem_cons_self ..)
    show x0.toArray.size ≤ _
    simp; omega)
  have hnc1 : ¬ (n : Int) < 2 := by omega
  by_cases hnm : nameB ⟨x0.toArray⟩ = true
  case neg =>
    have hnm2 : nameB ⟨x0.toArray⟩ = false := by simpa using hnm
    have HEE : Hid (rordF L = none) := Lib.hid (by rw [HLR.out]; exact if_pos (.inr hnm))
    have HBX : Hid (Below W0.heap.size W0 W0) := Lib.hid (Below.refl _ _)
    clear hnm
    go_wp2_with (first
      | (go_at_call 71; refine (rname_any _ hxs.out _).mono ?_; rintro e2 w2 ⟨rfl, rfl⟩)
      | ((with_reducible refine wpList_buildL bOrd rfl _ rfl _ zOrd ?_ (by kernel_rfl) ?_); exact rfl)
      | ((with_reducible refine wpList_storeL stOrd' rfl _ _ rfl rb zOrd zOrd ?_ ?_ ?_ ?_ ?_ (by decide) ?_); exact rfl; exact rfl; exact HR0.out; exact rfl; exact rfl; intro wz k1 k2 k3 k4; have K := Lib.hid (And.intro k1 (And.intro k2 (And.intro k3 k4))); clear k1 k2 k3 k4))
    have HRz : Blk wz rb 35 zOrd := K.out.1
    refine bodyPost_ret (v := .tuple #[.agg zOrd.toArray, .bool false]) (big.res_cell_tmp stOrd' Tryz.results133 rfl rfl HRz.cells rfl) rfl ?_
    exact ⟨HB0.out.trans ((HBX.out.mono z0).trans (K.out.2.2.2.mono hrb)), .inl ⟨HEE.out, rfl⟩⟩
  have HNM := Lib.hid hnm
  have hread : Calls Tryz.prog 134 #[.slice (some (ad.add 1)) (n - 1) (c - 1)] W0 (RdOut W0 r) := rnumbers_any r _ _ _ HRL.out _ HRW.out HRM.out
  have hsl : (some (ad.add 1) : Option Addr) = some ⟨ad.block, ad.off + 1, none⟩ := rfl
  rw [hsl] at hread
  have hRO : Hid (rordF L = (readF r).bind (readN x0)) := Lib.hid (by
    rw [HLR.out]
    refine if_neg ?_
    rintro (h | h)
    · have h' := HRL.out; rw [h] at h'; simp at h'; omega
    · exact h HNM.out)
  cases hrd : readF r with
  | none =>
    have HEE : Hid (rordF L = none) := Lib.hid (by rw [hRO.out, hrd]; rfl)
    have hread2 : Calls Tryz.prog 134 #[.slice (some ⟨ad.block, ad.off + 1, none⟩) (n - 1) (c - 1)] W0 fun e w' => e = .returned (.tuple #[.slice none 0 0, .bool false]) ∧ Below W0.heap.size W0 w' := hread.mono (by
      rintro e w' ⟨hb, ⟨_, h⟩ | ⟨l, A, c, n, h, _⟩⟩
      · exact ⟨h, hb⟩
      · rw [hrd] at h; cases h)
    clear hread hrd hRO
    go_upto_region 4 with (first | (go_at_call 71; refine (rname_any _ hxs.out _).mono ?_; rintro e2 w2 ⟨rfl, rfl⟩) | (go_at_call 134; refine hread2.mono ?_; rintro e1 w1 ⟨rfl, hb1⟩))
    have HR1 := Lib.hid (HR0.out.below hb1)
    have HBX := Lib.hid hb1
    clear hread2 hb1 HR0
    have HR0 := HR1
    go_wp2_with (first
      | fail
      | ((with_reducible refine wpList_buildL bOrd rfl _ rfl _ zOrd ?_ (by kernel_rfl) ?_); exact rfl)
      | ((with_reducible refine wpList_storeL stOrd' rfl _ _ rfl rb zOrd zOrd ?_ ?_ ?_ ?_ ?_ (by decide) ?_); exact rfl; exact rfl; exact HR0.out; exact rfl; exact rfl; intro wz k1 k2 k3 k4; have K := Lib.hid (And.intro k1 (And.intro k2 (And.intro k3 k4))); clear k1 k2 k3 k4))
    have HRz : Blk wz rb 35 zOrd := K.out.1
    refine bodyPost_ret (v := .tuple #[.agg zOrd.toArray, .bool false]) (big.res_cell_tmp stOrd' Tryz.results133 rfl rfl HRz.cells rfl) rfl ?_
    exact ⟨HB0.out.trans ((HBX.out.mono z0).trans (K.out.2.2.2.mono hrb)), .inl ⟨HEE.out, rfl⟩⟩
  | some ns =>
    obtain ⟨hnl, hn64⟩ := readF_len hrd
    have hread2 : Calls Tryz.prog 134 #[.slice (some ⟨ad.block, ad.off + 1, none⟩) (n - 1) (c - 1)] W0 fun e w' => ∃ (A1 : Option Addr) (c1 : Nat), e = .returned (.tuple #[.slice A1 ns.length c1, .bool true]) ∧ Below W0.heap.size W0 w' ∧ IOwn w' W0.heap.size A1 c1 ns := hread.mono (by
      rintro e w' ⟨hb, ⟨h, _⟩ | ⟨l, A, c, n, h, hn, he, ho⟩⟩
      · rw [hrd] at h; cases h
      · rw [hrd] at h
        obtain rfl := Option.some.inj h
        subst hn
        exact ⟨A, c, he, hb, ho⟩)
    have HRO : Hid (rordF L = readN x0 ns) := Lib.hid (by rw [hRO.out, hrd]; rfl)
    have HN64 := Lib.hid hn64
    have HNL := Lib.hid hnl
    clear hread hrd hRO hn64 hnl
    obtain ⟨k1, hk1⟩ : ∃ k, ns.length = k := ⟨_, rfl⟩
    rw [hk1] at hread2
    go_upto_region 4 with (first | (go_at_call 71; refine (rname_any _ hxs.out _).mono ?_; rintro e2 w2 ⟨rfl, rfl⟩) | (go_at_call 134; refine hread2.mono ?_; rintro e1 w1 ⟨A1, c1, rfl, hb1, hO1⟩))
    have HB1 := Lib.hid hb1
    have z1 := hb1.size
    have hk10 : 0 < k1 := by rw [← hk1, HNL.out, ← HRL.out]; omega
    obtain ⟨g1, hA1, hg1a, hg1b⟩ : ∃ g, A1 = some ⟨g, 0, none⟩ ∧ W0.heap.size ≤ g ∧ g < w1.heap.size := by
      have h := hO1
      unfold IOwn at h
      obtain ⟨g, cap, hv, _, hlt⟩ := World.ownsRow.form h (by omega)
      injection hv with q1 _ _
      subst q1
      exact ⟨g, rfl, own_base h g rfl, hlt⟩
    subst hA1
    have hk1c : k1 ≤ c1 := by have h := own_cap hO1; omega
    have HC1 : Hid (∀ j x, ns[j]? = some x → w1.cell? ⟨g1, j, none⟩ = some (.int .i64 x)) := Lib.hid (fun j x hx => by
      have hj := (List.getElem?_eq_some_iff.1 hx).1
      have h := World.ownsRow.cellAt hO1 j (by omega)
      rw [h, List.getElem?_map, hx]; rfl)
    have HK1 := Lib.hid hk1
    obtain ⟨c0, tl, hns⟩ : ∃ c0 tl, ns = c0 :: tl := by
      cases ns with
      | nil => simp at hk1; omega
      | cons a b => exact ⟨a, b, rfl⟩
    have f0 : w1.cell? ⟨g1, 0, none⟩ = some (.int .i64 c0) := HC1.out 0 c0 (by rw [hns]; rfl)
    have HNS := Lib.hid hns
    have hRN : Hid (rordF L = if c0 < 0 ∨ 3 < c0 ∨ (k1 : Int) ≠ 1 + c0 + 13 then none else some (ordM x0 c0.toNat ns)) := Lib.hid (by
      rw [HRO.out, ← HK1.out, HNS.out]; rfl)
    have hc64 : in64 c0 := HN64.out c0 (by rw [hns]; exact List.mem_cons_self ..)
    unfold in64 at hc64
    obtain ⟨hc64a, hc64b⟩ := hc64
    have HRX := Lib.hid (HR0.out.below hb1)
    have HBX := Lib.hid hb1
    clear hns hk1 hb1 hread2 HRO HR0
    have HR0 := HRX; clear HRX
    by_cases t1 : c0 < 0
    · have HEE : Hid (rordF L = none) := Lib.hid (by rw [hRN.out, if_pos (.inl t1)])
      go_wp2_with (first
        | fail
        | ((with_reducible refine wpList_buildL bOrd rfl _ rfl _ zOrd ?_ (by kernel_rfl) ?_); exact rfl)
        | ((with_reducible refine wpList_storeL stOrd' rfl _ _ rfl rb zOrd zOrd ?_ ?_ ?_ ?_ ?_ (by decide) ?_); exact rfl; exact rfl; exact HR0.out; exact rfl; exact rfl; intro wz k1 k2 k3 k4; have K := Lib.hid (And.intro k1 (And.intro k2 (And.intro k3 k4))); clear k1 k2 k3 k4))
      have HRz : Blk wz rb 35 zOrd := K.out.1
      refine bodyPost_ret (v := .tuple #[.agg zOrd.toArray, .bool false]) (big.res_cell_tmp stOrd' Tryz.results133 rfl rfl HRz.cells rfl) rfl ?_
      exact ⟨HB0.out.trans ((HBX.out.mono z0).trans (K.out.2.2.2.mono hrb)), .inl ⟨HEE.out, rfl⟩⟩
    by_cases t2 : 3 < c0
    · have HEE : Hid (rordF L = none) := Lib.hid (by rw [hRN.out, if_pos (.inr (.inl t2))])
      go_wp2_with (first
        | fail
        | ((with_reducible refine wpList_buildL bOrd rfl _ rfl _ zOrd ?_ (by kernel_rfl) ?_); exact rfl)
        | ((with_reducible refine wpList_storeL stOrd' rfl _ _ rfl rb zOrd zOrd ?_ ?_ ?_ ?_ ?_ (by decide) ?_); exact rfl; exact rfl; exact HR0.out; exact rfl; exact rfl; intro wz k1 k2 k3 k4; have K := Lib.hid (And.intro k1 (And.intro k2 (And.intro k3 k4))); clear k1 k2 k3 k4))
      have HRz : Blk wz rb 35 zOrd := K.out.1
      refine bodyPost_ret (v := .tuple #[.agg zOrd.toArray, .bool false]) (big.res_cell_tmp stOrd' Tryz.results133 rfl rfl HRz.cells rfl) rfl ?_
      exact ⟨HB0.out.trans ((HBX.out.mono z0).trans (K.out.2.2.2.mono hrb)), .inl ⟨HEE.out, rfl⟩⟩
    by_cases t3 : (k1 : Int) ≠ 1 + c0 + 13
    · have t3' : ((k1 : Int) != c0 + 14) = true := by simp; omega
      have HEE : Hid (rordF L = none) := Lib.hid (by rw [hRN.out, if_pos (.inr (.inr t3))])
      go_wp2_with (first
        | fail
        | ((with_reducible refine wpList_buildL bOrd rfl _ rfl _ zOrd ?_ (by kernel_rfl) ?_); exact rfl)
        | ((with_reducible refine wpList_storeL stOrd' rfl _ _ rfl rb zOrd zOrd ?_ ?_ ?_ ?_ ?_ (by decide) ?_); exact rfl; exact rfl; exact HR0.out; exact rfl; exact rfl; intro wz k1 k2 k3 k4; have K := Lib.hid (And.intro k1 (And.intro k2 (And.intro k3 k4))); clear k1 k2 k3 k4))
      have HRz : Blk wz rb 35 zOrd := K.out.1
      refine bodyPost_ret (v := .tuple #[.agg zOrd.toArray, .bool false]) (big.res_cell_tmp stOrd' Tryz.results133 rfl rfl HRz.cells rfl) rfl ?_
      exact ⟨HB0.out.trans ((HBX.out.mono z0).trans (K.out.2.2.2.mono hrb)), .inl ⟨HEE.out, rfl⟩⟩
    have HRS : Hid (rordF L = some (ordM x0 c0.toNat ns)) := Lib.hid (by rw [hRN.out, if_neg (by rw [not_or, not_or]; exact ⟨t1, t2, t3⟩)])
    obtain ⟨k, rfl⟩ : ∃ k : Nat, c0 = k := ⟨c0.toNat, by omega⟩
    have hk3 : k ≤ 3 := by omega
    have hk14 : k1 = k + 14 := by omega
    subst hk14
    clear hRN hc64a hc64b t1 t2
    have e0 : w1.cell? ad = some (.string ⟨x0.toArray⟩) := by
      have h := (HB1.out.cell (p := ad.add 0) (by rw [block_of_add]; omega)).trans hcell0
      exact h
    have hx0b : ad.block < w1.heap.size := by omega
    have q1 : ¬ (k : Int) < 0 := by omega
    have q2 : ¬ 3 < (k : Int) := by omega
    have q3 : ((k : Int) + 14 != (k : Int) + 14) = false := by simp
    clear t3
    go_upto_region 7 with (first
      | ((with_reducible refine wpList_buildL bOrd rfl _ rfl [(0, .string ⟨x0.toArray⟩)] (nmCells ⟨x0.toArray⟩ (.slice none 0 0)) ?_ (nm_fill _) ?_); exact rfl)
      | ((with_reducible refine wpList_storeL stOrd' rfl _ _ rfl w1.heap.size zOrd (nmCells ⟨x0.toArray⟩ (.slice none 0 0)) ?_ ?_ ?_ ?_ ?_ (nm_one _) ?_); exact rfl; exact rfl; exact World.alloc_heap_new w1 _; exact rfl; exact rfl; intro w2 k1 k2 k3 k4; have K := Lib.hid (And.intro k1 (And.intro k2 (And.intro k3 k4))); clear k1 k2 k3 k4))
    have b12 : Below w1.heap.size w1 w2 := ((Below.refl _ _).alloc (Nat.le_refl _) _).trans K.out.2.2.2
    have z2 : w1.heap.size < w2.heap.size := by rw [K.out.2.2.1]; simp
    obtain ⟨ob, hob⟩ : ∃ b, w1.heap.size = b := ⟨_, rfl⟩
    have o2 : Blk w2 ob 35 (nmCells ⟨x0.toArray⟩ (.slice none 0 0)) := by rw [← hob]; exact K.out.1
    have HC2 : Hid (∀ j x, ns[j]? = some x → w2.cell? ⟨g1, j, none⟩ = some (.int .i64 x)) := Lib.hid (fun j x hx => (b12.cell (p := ⟨g1, j, none⟩) hg1b).trans (HC1.out j x hx))
    have f2 : w2.cell? ⟨g1, 0, none⟩ = some (.int .i64 (k : Int)) := HC2.out 0 _ (by rw [HNS.out]; rfl)
    have HB2 := Lib.hid (HB1.out.trans (b12.mono z1))
    rw [hob] at z2 hg1b ⊢
    have g0 := o2.cell (j := 1) rfl
    have g2 := o2.frozen 1
    have HO2 := Lib.hid o2
    clear o2 K b12 e0 f0 hob hO1 HR0 HBX
    have hnl : ((ns.drop 1).take k).length = k := by rw [List.length_take, List.length_drop, HK1.out]; omega
    have HNl := Lib.hid hnl
    (try simp only [Act.put, List.getElem_toArray, List.getElem_cons_succ, List.getElem_cons_zero, List.setIfInBounds_toArray, List.set_cons_zero, List.set_cons_succ])
    go_cut [6] (fun v wx => v = .pointer (some ⟨ob, 0, none⟩) ∧ ∃ C cc, Blk wx ob 35 (nmCells ⟨x0.toArray⟩ (.slice C k cc)) ∧ Below ob w2 wx ∧ (k = 0 ∨ ∃ g, C = some ⟨g, 0, none⟩ ∧ w2.heap.size ≤ g ∧ g < wx.heap.size ∧ ∀ (j : Nat) y, ((ns.drop 1).take k)[j]? = some y → wx.cell? ⟨g, j, none⟩ = some (.int .i64 y)))
    case first => as_aux_lemma =>
      clear hnl
      (refine wp_region_held_drew (S := (fun w' => w'.cell? ⟨g1, 0, none⟩ = some (.int .i64 (k : Int)))) (by kernel_rfl) ?_ (fun hHeld => ?_))
      · exact f2
      obtain ⟨wd, hwd⟩ : ∃ W, w2.drew = W := ⟨_, rfl⟩
      rw [hwd] at hHeld ⊢
      have bd : Below w2.heap.size w2 wd := by rw [← hwd]; exact (Below.refl _ _).drew
      have BD := Lib.hid bd
      have zd := bd.size
      have HOd := Lib.hid (HO2.out.below bd)
      have hrd : Hid (Reads wd wd.heap.size 1 (some ⟨g1, 1, none⟩) k (((ns.drop 1).take k).map (.int .i64))) := Lib.hid ⟨by rw [List.length_map, HNl.out]; omega, fun _ => ⟨⟨g1, 1, none⟩, rfl, by show g1 < _; omega, fun j u hu => by
        rw [List.getElem?_map] at hu
        obtain ⟨y, hy, rfl⟩ := Option.map_eq_some_iff.1 hu
        have hj : j < k := by have := (List.getElem?_eq_some_iff.1 hy).1; rw [HNl.out] at this; exact this
        rw [List.getElem?_take, if_pos hj, List.getElem?_drop] at hy
        rw [Addr.add_mid]
        exact (BD.out.cell (p := ⟨g1, 1 + j, none⟩) (by show g1 < _; omega)).trans (HC2.out _ _ hy)⟩⟩
      have gd : wd.cell? ⟨ob, 1, none⟩ = some (.slice none 0 0) := HOd.out.cell rfl
      have fd : wd.cell? ⟨g1, 0, none⟩ = some (.int .i64 (k : Int)) := (bd.cell (p := ⟨g1, 0, none⟩) (by show g1 < _; omega)).trans f2
      have FD := Lib.hid fd
      clear hwd bd f2 g0 g2 fd
      have hk4 : (k : Int) + 1 ≤ (c1 : Int) := by omega
      have hk5 : 0 < (k : Int) + 14 := by omega
      have hk6 : (1 : Int) ≤ (k : Int) + 1 := by omega
      have hk7 : (0 : Int) ≤ (k : Int) + 1 := by omega
      have hwk : IntKind.i64.wrap ((k : Int) + 1) = (k : Int) + 1 := IntWalk.i64_in _ (by omega)
      have hmx : max ((k : Int) + 1) 0 = (k : Int) + 1 := by omega
      have htn : ((k : Int) + 1).toNat = k + 1 := by omega
      have hc1n : ¬ c1 = 1 := by omega
      (refine wpAnyH_take (i := 0) (v := ?_) rfl (by kernel_rfl) (by kernel_rfl) (by kernel_rfl) (fun _ _ _ h => h) (Or.inl ⟨by kernel_rfl, ?_⟩) (by assumption) ?_; rotate_left; (focus (intro w hSw; (try dsimp only at hSw); go_simp; all_goals with_reducible rfl)); (try simp only [Act.put, List.getElem_toArray, List.getElem_cons_succ, List.getElem_cons_zero, List.setIfInBounds_toArray, List.set_cons_zero, List.set_cons_succ]))
      (refine wpAnyH_take (i := 2) (v := ?_) rfl (by kernel_rfl) (by kernel_rfl) (by kernel_rfl) (fun _ _ _ h => h) (Or.inl ⟨by kernel_rfl, ?_⟩) (by assumption) ?_; rotate_left; (focus (intro w hSw; (try dsimp only at hSw); go_simp; all_goals with_reducible rfl)); (try simp only [Act.put, List.getElem_toArray, List.getElem_cons_succ, List.getElem_cons_zero, List.setIfInBounds_toArray, List.set_cons_zero, List.set_cons_succ]))
      (refine wpAnyH_take (i := 3) (v := ?_) rfl (by kernel_rfl) (by kernel_rfl) (by kernel_rfl) (fun _ _ _ h => h) (Or.inl ⟨by kernel_rfl, ?_⟩) (by assumption) ?_; rotate_left; (focus (intro w hSw; (try dsimp only at hSw); go_simp; all_goals with_reducible rfl)); (try simp only [Act.put, List.getElem_toArray, List.getElem_cons_succ, List.getElem_cons_zero, List.setIfInBounds_toArray, List.set_cons_zero, List.set_cons_succ]))
      (refine wpAnyH_take (i := 4) (v := ?_) rfl (by kernel_rfl) (by kernel_rfl) (by kernel_rfl) (fun _ _ _ h => h) (Or.inl ⟨by kernel_rfl, ?_⟩) (by assumption) ?_; rotate_left; (focus (intro w hSw; (try dsimp only at hSw); go_simp; all_goals with_reducible rfl)); (try simp only [Act.put, List.getElem_toArray, List.getElem_cons_succ, List.getElem_cons_zero, List.setIfInBounds_toArray, List.set_cons_zero, List.set_cons_succ]))
      (refine wpAnyH_take (i := 5) (v := ?_) rfl (by kernel_rfl) (by kernel_rfl) (by kernel_rfl) (fun _ _ _ h => h) (Or.inl ⟨by kernel_rfl, ?_⟩) (by assumption) ?_; rotate_left; (focus (intro w hSw; (try dsimp only at hSw); go_simp; all_goals with_reducible rfl)); (try simp only [Act.put, List.getElem_toArray, List.getElem_cons_succ, List.getElem_cons_zero, List.setIfInBounds_toArray, List.set_cons_zero, List.set_cons_succ]))
      (refine wpAnyH_take (i := 6) (v := ?_) rfl (by kernel_rfl) (by kernel_rfl) (by kernel_rfl) (fun _ _ _ h => h) (Or.inl ⟨by kernel_rfl, ?_⟩) (by assumption) ?_; rotate_left; (focus (intro w hSw; (try dsimp only at hSw); go_simp; all_goals with_reducible rfl)); (try simp only [Act.put, List.getElem_toArray, List.getElem_cons_succ, List.getElem_cons_zero, List.setIfInBounds_toArray, List.set_cons_zero, List.set_cons_succ]))
      (refine wpAnyH_take (i := 7) (v := ?_) rfl (by kernel_rfl) (by kernel_rfl) (by kernel_rfl) (fun _ _ _ h => h) (Or.inl ⟨by kernel_rfl, ?_⟩) (by assumption) ?_; rotate_left; (focus (intro w hSw; (try dsimp only at hSw); go_simp; all_goals with_reducible rfl)); (try simp only [Act.put, List.getElem_toArray, List.getElem_cons_succ, List.getElem_cons_zero, List.setIfInBounds_toArray, List.set_cons_zero, List.set_cons_succ]))
      (refine wpAnyH_ready (rs := [1]) (by kernel_rfl) (by simp) ?_; refine AllReadyH.cons rfl (fun K hK => ?_) AllReadyH.nil)
      go_simp
      refine hK.out _ _ (FD.out) (fun hHeld => ?_)
      clear hK K
      (try simp only [Act.put, List.getElem_toArray, List.getElem_cons_succ, List.getElem_cons_zero, List.setIfInBounds_toArray, List.set_cons_zero, List.set_cons_succ])
      clear gd
      (refine wpAnyH_ready (rs := [8]) (by kernel_rfl) (by simp) ?_; refine AllReadyH.cons rfl (fun K hK => ?_) AllReadyH.nil)
      refine step_appN elemI _ _ rfl wd.heap.size (.slice none 0 0) 0 [] rfl (World.ownsRow_nil _ _ _ _) wd.heap.size (some ⟨g1, 1, none⟩) k (c1 - 1) (((ns.drop 1).take k).map (.int .i64)) rfl hrd.out (int_one _) (by omega) (Nat.le_refl _) rfl ?_
      intro A7 c7 w7 hown7 hg7
      have b7 : Below wd.heap.size wd w7 := (Below.refl _ _).grown hg7 (Nat.le_refl _) (own_base (World.ownsRow_nil wd wd.heap.size 3 1))
      have F7 : Hid (w7.cell? ⟨g1, 0, none⟩ = some (.int .i64 (k : Int))) := Lib.hid ((b7.cell (p := ⟨g1, 0, none⟩) (by show g1 < _; omega)).trans FD.out)
      have HO7 := Lib.hid (HOd.out.below b7)
      have B7 := Lib.hid b7
      have z7 := b7.size
      have HI7 : Hid (IOwn w7 wd.heap.size A7 c7 ((ns.drop 1).take k)) := Lib.hid (by
        unfold IOwn
        rw [HNl.out]
        simpa using hown7)
      clear hown7 hg7 b7
      refine hK.out _ _ (F7.out) (fun hHeld => ?_)
      clear hK K
      (try simp only [Act.put, List.getElem_toArray, List.getElem_cons_succ, List.getElem_cons_zero, List.setIfInBounds_toArray, List.set_cons_zero, List.set_cons_succ])
      (refine wpAnyH_take (i := 9) (v := ?_) rfl (by kernel_rfl) (by kernel_rfl) (by kernel_rfl) (fun _ _ _ h => h) (Or.inl ⟨by kernel_rfl, ?_⟩) (by assumption) ?_; rotate_left; (focus (intro w hSw; (try dsimp only at hSw); go_simp; all_goals with_reducible rfl)); (try simp only [Act.put, List.getElem_toArray, List.getElem_cons_succ, List.getElem_cons_zero, List.setIfInBounds_toArray, List.set_cons_zero, List.set_cons_succ]))
      have fc := HO7.out.cell (j := 1) rfl
      have ff := HO7.out.frozen 1
      (refine wpAnyH_ready (rs := [10]) (by kernel_rfl) (by simp) ?_; refine AllReadyH.cons rfl (fun K hK => ?_) AllReadyH.nil)
      go_simp
      clear fc ff
      obtain ⟨w8, hw8⟩ : ∃ W, w7.setCell ⟨ob, 1, none⟩ (.slice A7 k c7) = W := ⟨_, rfl⟩
      rw [hw8]
      have HO8 : Hid (Blk w8 ob 35 (nmCells ⟨x0.toArray⟩ (.slice A7 k c7))) := Lib.hid (by rw [← hw8]; exact HO7.out.set 1 _)
      have hoth : ∀ q, q ≠ ob → w8.heap[q]? = w7.heap[q]? := fun q hq => by rw [← hw8]; exact Below.heap_setCell w7 ⟨ob, 1, none⟩ _ q hq
      have hz8 : w8.heap.size = w7.heap.size := by rw [← hw8]; simp [World.setCell]
      have b8 : Below ob w7 w8 := by rw [← hw8]; exact Below.setCell (p := ⟨ob, 1, none⟩) (Below.refl _ _) (Nat.le_refl _) _
      refine hK.out _ _ (((b8.cell (p := ⟨g1, 0, none⟩) hg1b).trans F7.out)) (fun hHeld => ?_)
      clear hK K
      (try simp only [Act.put, List.getElem_toArray, List.getElem_cons_succ, List.getElem_cons_zero, List.setIfInBounds_toArray, List.set_cons_zero, List.set_cons_succ])
      (refine wpAnyH_done (by kernel_rfl) ?_ _)
      have HF : Hid (∃ C cc, Blk w8 ob 35 (nmCells ⟨x0.toArray⟩ (.slice C k cc)) ∧ Below ob w2 w8 ∧ (k = 0 ∨ ∃ g, C = some ⟨g, 0, none⟩ ∧ w2.heap.size ≤ g ∧ g < w8.heap.size ∧ ∀ (j : Nat) y, ((ns.drop 1).take k)[j]? = some y → w8.cell? ⟨g, j, none⟩ = some (.int .i64 y))) := Lib.hid (by
        refine ⟨A7, c7, HO8.out, ((BD.out.mono (by omega)).trans (B7.out.mono (by omega))).trans b8, ?_⟩
        rcases Nat.eq_zero_or_pos k with h | h
        · exact .inl h
        · obtain ⟨g, hA, h1, h2, h3⟩ := own_ints HI7.out (by rw [HNl.out]; exact h)
          exact .inr ⟨g, hA, by omega, by omega, fun j y hy => (World.cell?_of_block (hoth g (by omega))).trans (h3 j y hy)⟩)
      clear hw8 hoth hz8 b8
      go_wp2_with fail
      go_meet
      exact ⟨rfl, HF.out⟩
    obtain ⟨h6, C, cc, hO3, hb3, hC⟩ := hcut
    subst h6
    have HC3 : Hid (∀ j x, ns[j]? = some x → wc.cell? ⟨g1, j, none⟩ = some (.int .i64 x)) := Lib.hid (fun j x hx => (hb3.cell (p := ⟨g1, j, none⟩) hg1b).trans (HC2.out j x hx))
    have f3 : wc.cell? ⟨g1, 0, none⟩ = some (.int .i64 (k : Int)) := HC3.out 0 _ (by rw [HNS.out]; rfl)
    have HO3 := Lib.hid hO3
    have HB3 := Lib.hid (HB2.out.trans (hb3.mono (by omega)))
    have z3 := hb3.size
    have hk2 : (k : Int) + 1 ≤ (k : Int) + 14 := by omega
    clear f2 g0 g2 HO2 HB2 hO3 hb3 hnl
    go_upto_region 9 with fail
    (try rw [show k + 14 - (k + 1) = 13 by omega])
    obtain ⟨y0, hy0⟩ : ∃ y, ns[k + 1 + 0]? = some y := ⟨_, List.getElem?_eq_getElem (by rw [HK1.out]; omega)⟩
    have HY0 := Lib.hid hy0
    obtain ⟨y1, hy1⟩ : ∃ y, ns[k + 1 + 1]? = some y := ⟨_, List.getElem?_eq_getElem (by rw [HK1.out]; omega)⟩
    have HY1 := Lib.hid hy1
    obtain ⟨y2, hy2⟩ : ∃ y, ns[k + 1 + 2]? = some y := ⟨_, List.getElem?_eq_getElem (by rw [HK1.out]; omega)⟩
    have HY2 := Lib.hid hy2
    obtain ⟨y3, hy3⟩ : ∃ y, ns[k + 1 + 3]? = some y := ⟨_, List.getElem?_eq_getElem (by rw [HK1.out]; omega)⟩
    have HY3 := Lib.hid hy3
    obtain ⟨y4, hy4⟩ : ∃ y, ns[k + 1 + 4]? = some y := ⟨_, List.getElem?_eq_getElem (by rw [HK1.out]; omega)⟩
    have HY4 := Lib.hid hy4
    obtain ⟨y5, hy5⟩ : ∃ y, ns[k + 1 + 5]? = some y := ⟨_, List.getElem?_eq_getElem (by rw [HK1.out]; omega)⟩
    have HY5 := Lib.hid hy5
    obtain ⟨y6, hy6⟩ : ∃ y, ns[k + 1 + 6]? = some y := ⟨_, List.getElem?_eq_getElem (by rw [HK1.out]; omega)⟩
    have HY6 := Lib.hid hy6
    obtain ⟨y7, hy7⟩ : ∃ y, ns[k + 1 + 7]? = some y := ⟨_, List.getElem?_eq_getElem (by rw [HK1.out]; omega)⟩
    have HY7 := Lib.hid hy7
    obtain ⟨y8, hy8⟩ : ∃ y, ns[k + 1 + 8]? = some y := ⟨_, List.getElem?_eq_getElem (by rw [HK1.out]; omega)⟩
    have HY8 := Lib.hid hy8
    obtain ⟨y9, hy9⟩ : ∃ y, ns[k + 1 + 9]? = some y := ⟨_, List.getElem?_eq_getElem (by rw [HK1.out]; omega)⟩
    have HY9 := Lib.hid hy9
    obtain ⟨y10, hy10⟩ : ∃ y, ns[k + 1 + 10]? = some y := ⟨_, List.getElem?_eq_getElem (by rw [HK1.out]; omega)⟩
    have HY10 := Lib.hid hy10
    obtain ⟨y11, hy11⟩ : ∃ y, ns[k + 1 + 11]? = some y := ⟨_, List.getElem?_eq_getElem (by rw [HK1.out]; omega)⟩
    have HY11 := Lib.hid hy11
    obtain ⟨y12, hy12⟩ : ∃ y, ns[k + 1 + 12]? = some y := ⟨_, List.getElem?_eq_getElem (by rw [HK1.out]; omega)⟩
    have HY12 := Lib.hid hy12
    have HS : Hid (∀ wx, Below ob wc wx → ∀ j y, ns[k + 1 + j]? = some y → wx.cell? ⟨g1, k + 1 + j, none⟩ = some (.int .i64 y)) := Lib.hid (fun wx hb j y h => (hb.cell (p := ⟨g1, k + 1 + j, none⟩) hg1b).trans (HC3.out _ _ h))
    clear hy0 hy1 hy2 hy3 hy4 hy5 hy6 hy7 hy8 hy9 hy10 hy11 hy12 f3
    have HW : Hid (Blk wc ob 35 (nmCells ⟨x0.toArray⟩ (.slice C k cc)) ∧ Below ob wc wc ∧ ∀ q, q ≠ ob → wc.heap[q]? = wc.heap[q]?) := Lib.hid ⟨HO3.out, Below.refl _ _, fun _ _ => rfl⟩
    (refine wp_region_held_drew (S := (fun w' => w'.cell? ⟨g1, k + 1, none⟩ = some (.int .i64 y0) ∧ w'.cell? ⟨g1, k + 1+ 1, none⟩ = some (.int .i64 y1) ∧ w'.cell? ⟨g1, k + 1+ 2, none⟩ = some (.int .i64 y2) ∧ w'.cell? ⟨g1, k + 1+ 3, none⟩ = some (.int .i64 y3))) (by kernel_rfl) ?_ (fun hHeld => ?_))
    · exact ⟨HS.out _ HW.out.2.1 0 _ HY0.out, HS.out _ HW.out.2.1 1 _ HY1.out, HS.out _ HW.out.2.1 2 _ HY2.out, HS.out _ HW.out.2.1 3 _ HY3.out⟩
    (refine wpAnyH_take (i := 0) (v := ?_) rfl (by kernel_rfl) (by kernel_rfl) (by kernel_rfl) (fun _ _ _ h => h) (Or.inl ⟨by kernel_rfl, ?_⟩) (by assumption) ?_; rotate_left; (focus (intro w hSw; (try dsimp only at hSw); go_simp; all_goals with_reducible rfl)); (try simp only [Act.put, List.getElem_toArray, List.getElem_cons_succ, List.getElem_cons_zero, List.setIfInBounds_toArray, List.set_cons_zero, List.set_cons_succ]))
    (refine wpAnyH_take (i := 1) (v := ?_) rfl (by kernel_rfl) (by kernel_rfl) (by kernel_rfl) (fun _ _ _ h => h) (Or.inl ⟨by kernel_rfl, ?_⟩) (by assumption) ?_; rotate_left; (focus (intro w hSw; (try dsimp only at hSw); go_simp; all_goals with_reducible rfl)); (try simp only [Act.put, List.getElem_toArray, List.getElem_cons_succ, List.getElem_cons_zero, List.setIfInBounds_toArray, List.set_cons_zero, List.set_cons_succ]))
    (refine wpAnyH_take (i := 2) (v := ?_) rfl (by kernel_rfl) (by kernel_rfl) (by kernel_rfl) (fun _ _ _ h => h) (Or.inl ⟨by kernel_rfl, ?_⟩) (by assumption) ?_; rotate_left; (focus (intro w hSw; (try dsimp only at hSw); go_simp; all_goals with_reducible rfl)); (try simp only [Act.put, List.getElem_toArray, List.getElem_cons_succ, List.getElem_cons_zero, List.setIfInBounds_toArray, List.set_cons_zero, List.set_cons_succ]))
    (refine wpAnyH_take (i := 3) (v := ?_) rfl (by kernel_rfl) (by kernel_rfl) (by kernel_rfl) (fun _ _ _ h => h) (Or.inl ⟨by kernel_rfl, ?_⟩) (by assumption) ?_; rotate_left; (focus (intro w hSw; (try dsimp only at hSw); go_simp; all_goals with_reducible rfl)); (try simp only [Act.put, List.getElem_toArray, List.getElem_cons_succ, List.getElem_cons_zero, List.setIfInBounds_toArray, List.set_cons_zero, List.set_cons_succ]))
    (refine wpAnyH_take (i := 4) (v := ?_) rfl (by kernel_rfl) (by kernel_rfl) (by kernel_rfl) (fun _ _ _ h => h) (Or.inl ⟨by kernel_rfl, ?_⟩) (by assumption) ?_; rotate_left; (focus (intro w hSw; (try dsimp only at hSw); go_simp; all_goals with_reducible rfl)); (try simp only [Act.put, List.getElem_toArray, List.getElem_cons_succ, List.getElem_cons_zero, List.setIfInBounds_toArray, List.set_cons_zero, List.set_cons_succ]))
    (refine wpAnyH_take (i := 5) (v := ?_) rfl (by kernel_rfl) (by kernel_rfl) (by kernel_rfl) (fun _ _ _ h => h) (Or.inl ⟨by kernel_rfl, ?_⟩) (by assumption) ?_; rotate_left; (focus (intro w hSw; (try dsimp only at hSw); go_simp; all_goals with_reducible rfl)); (try simp only [Act.put, List.getElem_toArray, List.getElem_cons_succ, List.getElem_cons_zero, List.setIfInBounds_toArray, List.set_cons_zero, List.set_cons_succ]))
    (refine wpAnyH_take (i := 6) (v := ?_) rfl (by kernel_rfl) (by kernel_rfl) (by kernel_rfl) (fun _ _ _ h => h) (Or.inl ⟨by kernel_rfl, ?_⟩) (by assumption) ?_; rotate_left; (focus (intro w hSw; (try dsimp only at hSw); go_simp; all_goals with_reducible rfl)); (try simp only [Act.put, List.getElem_toArray, List.getElem_cons_succ, List.getElem_cons_zero, List.setIfInBounds_toArray, List.set_cons_zero, List.set_cons_succ]))
    (refine wpAnyH_take (i := 7) (v := ?_) rfl (by kernel_rfl) (by kernel_rfl) (by kernel_rfl) (fun _ _ _ h => h) (Or.inl ⟨by kernel_rfl, ?_⟩) (by assumption) ?_; rotate_left; (focus (intro w hSw; (try dsimp only at hSw); go_simp; all_goals with_reducible rfl)); (try simp only [Act.put, List.getElem_toArray, List.getElem_cons_succ, List.getElem_cons_zero, List.setIfInBounds_toArray, List.set_cons_zero, List.set_cons_succ]))
    (refine wpAnyH_take (i := 8) (v := ?_) rfl (by kernel_rfl) (by kernel_rfl) (by kernel_rfl) (fun _ _ _ h => h) (Or.inl ⟨by kernel_rfl, ?_⟩) (by assumption) ?_; rotate_left; (focus (intro w hSw; (try dsimp only at hSw); go_simp; all_goals with_reducible rfl)); (try simp only [Act.put, List.getElem_toArray, List.getElem_cons_succ, List.getElem_cons_zero, List.setIfInBounds_toArray, List.set_cons_zero, List.set_cons_succ]))
    (refine wpAnyH_take (i := 9) (v := ?_) rfl (by kernel_rfl) (by kernel_rfl) (by kernel_rfl) (fun _ _ _ h => h) (Or.inl ⟨by kernel_rfl, ?_⟩) (by assumption) ?_; rotate_left; (focus (intro w hSw; (try dsimp only at hSw); go_simp; all_goals with_reducible rfl)); (try simp only [Act.put, List.getElem_toArray, List.getElem_cons_succ, List.getElem_cons_zero, List.setIfInBounds_toArray, List.set_cons_zero, List.set_cons_succ]))
    (refine wpAnyH_take (i := 10) (v := ?_) rfl (by kernel_rfl) (by kernel_rfl) (by kernel_rfl) (fun _ _ _ h => h) (Or.inl ⟨by kernel_rfl, ?_⟩) (by assumption) ?_; rotate_left; (focus (intro w hSw; (try dsimp only at hSw); go_simp; all_goals with_reducible rfl)); (try simp only [Act.put, List.getElem_toArray, List.getElem_cons_succ, List.getElem_cons_zero, List.setIfInBounds_toArray, List.set_cons_zero, List.set_cons_succ]))
    (refine wpAnyH_take (i := 11) (v := ?_) rfl (by kernel_rfl) (by kernel_rfl) (by kernel_rfl) (fun _ _ _ h => h) (Or.inl ⟨by kernel_rfl, ?_⟩) (by assumption) ?_; rotate_left; (focus (intro w hSw; (try dsimp only at hSw); go_simp; all_goals with_reducible rfl)); (try simp only [Act.put, List.getElem_toArray, List.getElem_cons_succ, List.getElem_cons_zero, List.setIfInBounds_toArray, List.set_cons_zero, List.set_cons_succ]))
    (refine wpAnyH_take (i := 12) (v := ?_) rfl (by kernel_rfl) (by kernel_rfl) (by kernel_rfl) (fun _ _ _ h => h) (Or.inl ⟨by kernel_rfl, ?_⟩) (by assumption) ?_; rotate_left; (focus (intro w hSw; (try dsimp only at hSw); go_simp; all_goals with_reducible rfl)); (try simp only [Act.put, List.getElem_toArray, List.getElem_cons_succ, List.getElem_cons_zero, List.setIfInBounds_toArray, List.set_cons_zero, List.set_cons_succ]))
    (refine wpAnyH_take (i := 13) (v := ?_) rfl (by kernel_rfl) (by kernel_rfl) (by kernel_rfl) (fun _ _ _ h => h) (Or.inl ⟨by kernel_rfl, ?_⟩) (by assumption) ?_; rotate_left; (focus (intro w hSw; (try dsimp only at hSw); go_simp; all_goals with_reducible rfl)); (try simp only [Act.put, List.getElem_toArray, List.getElem_cons_succ, List.getElem_cons_zero, List.setIfInBounds_toArray, List.set_cons_zero, List.set_cons_succ]))
    (refine wpAnyH_ready (rs := [14]) (by kernel_rfl) (by simp) ?_; refine AllReadyH.cons rfl (fun K hK => ?_) AllReadyH.nil)
    have hO4 : Blk wc.drew ob 35 (nmCells ⟨x0.toArray⟩ (.slice C k cc)) := HW.out.1
    have hst : Blk (wc.drew.setCells ob 2 (StpCells ⟨y0, y1, y2, y3⟩)) ob 35 (setM (nmCells ⟨x0.toArray⟩ (.slice C k cc)) 2 (StpCells ⟨y0, y1, y2, y3⟩)) ∧ Below ob wc.drew (wc.drew.setCells ob 2 (StpCells ⟨y0, y1, y2, y3⟩)) := blk_setCells _ _ _ _ hO4
    refine step_storeM stStp rfl _ _ rfl ob 2 (StpCells ⟨y0, y1, y2, y3⟩) rfl rfl (blk_there hO4 (by simp [nmCells, setM, StpCells])) rfl (by simp [StpCells]; exact ⟨rfl, rfl, rfl, rfl⟩) ?_
    obtain ⟨w4, hw4⟩ : ∃ W, wc.drew.setCells ob 2 (StpCells ⟨y0, y1, y2, y3⟩) = W := ⟨_, rfl⟩
    rw [hw4] at hst ⊢
    have HW2 : Hid (Blk w4 ob 35 (setM (nmCells ⟨x0.toArray⟩ (.slice C k cc)) 2 (StpCells ⟨y0, y1, y2, y3⟩)) ∧ Below ob wc w4 ∧ ∀ q, q ≠ ob → w4.heap[q]? = wc.heap[q]?) := Lib.hid ⟨hst.1, HW.out.2.1.drew.trans hst.2, fun q hq => by rw [← hw4]; exact (setCells_other _ _ wc.drew q hq).trans (HW.out.2.2 q hq)⟩
    refine hK.out _ _ (⟨HS.out _ HW2.out.2.1 0 _ HY0.out, HS.out _ HW2.out.2.1 1 _ HY1.out, HS.out _ HW2.out.2.1 2 _ HY2.out, HS.out _ HW2.out.2.1 3 _ HY3.out⟩) (fun hHeld => ?_)
    clear hK K
    (try simp only [Act.put, List.getElem_toArray, List.getElem_cons_succ, List.getElem_cons_zero, List.setIfInBounds_toArray, List.set_cons_zero, List.set_cons_succ])
    (refine wpAnyH_done (by kernel_rfl) ?_ _)
    have HW := HW2
    clear HW2 hO4 hst hw4
    go_upto_region 10 with fail
    (refine wp_region_held_drew (S := (fun w' => w'.cell? ⟨g1, k + 1+ 4, none⟩ = some (.int .i64 y4) ∧ w'.cell? ⟨g1, k + 1+ 5, none⟩ = some (.int .i64 y5) ∧ w'.cell? ⟨g1, k + 1+ 6, none⟩ = some (.int .i64 y6) ∧ w'.cell? ⟨g1, k + 1+ 7, none⟩ = some (.int .i64 y7))) (by kernel_rfl) ?_ (fun hHeld => ?_))
    · exact ⟨HS.out _ HW.out.2.1 4 _ HY4.out, HS.out _ HW.out.2.1 5 _ HY5.out, HS.out _ HW.out.2.1 6 _ HY6.out, HS.out _ HW.out.2.1 7 _ HY7.out⟩
    (refine wpAnyH_take (i := 0) (v := ?_) rfl (by kernel_rfl) (by kernel_rfl) (by kernel_rfl) (fun _ _ _ h => h) (Or.inl ⟨by kernel_rfl, ?_⟩) (by assumption) ?_; rotate_left; (focus (intro w hSw; (try dsimp only at hSw); go_simp; all_goals with_reducible rfl)); (try simp only [Act.put, List.getElem_toArray, List.getElem_cons_succ, List.getElem_cons_zero, List.setIfInBounds_toArray, List.set_cons_zero, List.set_cons_succ]))
    (refine wpAnyH_take (i := 1) (v := ?_) rfl (by kernel_rfl) (by kernel_rfl) (by kernel_rfl) (fun _ _ _ h => h) (Or.inl ⟨by kernel_rfl, ?_⟩) (by assumption) ?_; rotate_left; (focus (intro w hSw; (try dsimp only at hSw); go_simp; all_goals with_reducible rfl)); (try simp only [Act.put, List.getElem_toArray, List.getElem_cons_succ, List.getElem_cons_zero, List.setIfInBounds_toArray, List.set_cons_zero, List.set_cons_succ]))
    (refine wpAnyH_take (i := 2) (v := ?_) rfl (by kernel_rfl) (by kernel_rfl) (by kernel_rfl) (fun _ _ _ h => h) (Or.inl ⟨by kernel_rfl, ?_⟩) (by assumption) ?_; rotate_left; (focus (intro w hSw; (try dsimp only at hSw); go_simp; all_goals with_reducible rfl)); (try simp only [Act.put, List.getElem_toArray, List.getElem_cons_succ, List.getElem_cons_zero, List.setIfInBounds_toArray, List.set_cons_zero, List.set_cons_succ]))
    (refine wpAnyH_take (i := 3) (v := ?_) rfl (by kernel_rfl) (by kernel_rfl) (by kernel_rfl) (fun _ _ _ h => h) (Or.inl ⟨by kernel_rfl, ?_⟩) (by assumption) ?_; rotate_left; (focus (intro w hSw; (try dsimp only at hSw); go_simp; all_goals with_reducible rfl)); (try simp only [Act.put, List.getElem_toArray, List.getElem_cons_succ, List.getElem_cons_zero, List.setIfInBounds_toArray, List.set_cons_zero, List.set_cons_succ]))
    (refine wpAnyH_take (i := 4) (v := ?_) rfl (by kernel_rfl) (by kernel_rfl) (by kernel_rfl) (fun _ _ _ h => h) (Or.inl ⟨by kernel_rfl, ?_⟩) (by assumption) ?_; rotate_left; (focus (intro w hSw; (try dsimp only at hSw); go_simp; all_goals with_reducible rfl)); (try simp only [Act.put, List.getElem_toArray, List.getElem_cons_succ, List.getElem_cons_zero, List.setIfInBounds_toArray, List.set_cons_zero, List.set_cons_succ]))
    (refine wpAnyH_take (i := 5) (v := ?_) rfl (by kernel_rfl) (by kernel_rfl) (by kernel_rfl) (fun _ _ _ h => h) (Or.inl ⟨by kernel_rfl, ?_⟩) (by assumption) ?_; rotate_left; (focus (intro w hSw; (try dsimp only at hSw); go_simp; all_goals with_reducible rfl)); (try simp only [Act.put, List.getElem_toArray, List.getElem_cons_succ, List.getElem_cons_zero, List.setIfInBounds_toArray, List.set_cons_zero, List.set_cons_succ]))
    (refine wpAnyH_take (i := 6) (v := ?_) rfl (by kernel_rfl) (by kernel_rfl) (by kernel_rfl) (fun _ _ _ h => h) (Or.inl ⟨by kernel_rfl, ?_⟩) (by assumption) ?_; rotate_left; (focus (intro w hSw; (try dsimp only at hSw); go_simp; all_goals with_reducible rfl)); (try simp only [Act.put, List.getElem_toArray, List.getElem_cons_succ, List.getElem_cons_zero, List.setIfInBounds_toArray, List.set_cons_zero, List.set_cons_succ]))
    (refine wpAnyH_take (i := 7) (v := ?_) rfl (by kernel_rfl) (by kernel_rfl) (by kernel_rfl) (fun _ _ _ h => h) (Or.inl ⟨by kernel_rfl, ?_⟩) (by assumption) ?_; rotate_left; (focus (intro w hSw; (try dsimp only at hSw); go_simp; all_goals with_reducible rfl)); (try simp only [Act.put, List.getElem_toArray, List.getElem_cons_succ, List.getElem_cons_zero, List.setIfInBounds_toArray, List.set_cons_zero, List.set_cons_succ]))
    (refine wpAnyH_take (i := 8) (v := ?_) rfl (by kernel_rfl) (by kernel_rfl) (by kernel_rfl) (fun _ _ _ h => h) (Or.inl ⟨by kernel_rfl, ?_⟩) (by assumption) ?_; rotate_left; (focus (intro w hSw; (try dsimp only at hSw); go_simp; all_goals with_reducible rfl)); (try simp only [Act.put, List.getElem_toArray, List.getElem_cons_succ, List.getElem_cons_zero, List.setIfInBounds_toArray, List.set_cons_zero, List.set_cons_succ]))
    (refine wpAnyH_take (i := 9) (v := ?_) rfl (by kernel_rfl) (by kernel_rfl) (by kernel_rfl) (fun _ _ _ h => h) (Or.inl ⟨by kernel_rfl, ?_⟩) (by assumption) ?_; rotate_left; (focus (intro w hSw; (try dsimp only at hSw); go_simp; all_goals with_reducible rfl)); (try simp only [Act.put, List.getElem_toArray, List.getElem_cons_succ, List.getElem_cons_zero, List.setIfInBounds_toArray, List.set_cons_zero, List.set_cons_succ]))
    (refine wpAnyH_take (i := 10) (v := ?_) rfl (by kernel_rfl) (by kernel_rfl) (by kernel_rfl) (fun _ _ _ h => h) (Or.inl ⟨by kernel_rfl, ?_⟩) (by assumption) ?_; rotate_left; (focus (intro w hSw; (try dsimp only at hSw); go_simp; all_goals with_reducible rfl)); (try simp only [Act.put, List.getElem_toArray, List.getElem_cons_succ, List.getElem_cons_zero, List.setIfInBounds_toArray, List.set_cons_zero, List.set_cons_succ]))
    (refine wpAnyH_take (i := 11) (v := ?_) rfl (by kernel_rfl) (by kernel_rfl) (by kernel_rfl) (fun _ _ _ h => h) (Or.inl ⟨by kernel_rfl, ?_⟩) (by assumption) ?_; rotate_left; (focus (intro w hSw; (try dsimp only at hSw); go_simp; all_goals with_reducible rfl)); (try simp only [Act.put, List.getElem_toArray, List.getElem_cons_succ, List.getElem_cons_zero, List.setIfInBounds_toArray, List.set_cons_zero, List.set_cons_succ]))
    (refine wpAnyH_take (i := 12) (v := ?_) rfl (by kernel_rfl) (by kernel_rfl) (by kernel_rfl) (fun _ _ _ h => h) (Or.inl ⟨by kernel_rfl, ?_⟩) (by assumption) ?_; rotate_left; (focus (intro w hSw; (try dsimp only at hSw); go_simp; all_goals with_reducible rfl)); (try simp only [Act.put, List.getElem_toArray, List.getElem_cons_succ, List.getElem_cons_zero, List.setIfInBounds_toArray, List.set_cons_zero, List.set_cons_succ]))
    (refine wpAnyH_take (i := 13) (v := ?_) rfl (by kernel_rfl) (by kernel_rfl) (by kernel_rfl) (fun _ _ _ h => h) (Or.inl ⟨by kernel_rfl, ?_⟩) (by assumption) ?_; rotate_left; (focus (intro w hSw; (try dsimp only at hSw); go_simp; all_goals with_reducible rfl)); (try simp only [Act.put, List.getElem_toArray, List.getElem_cons_succ, List.getElem_cons_zero, List.setIfInBounds_toArray, List.set_cons_zero, List.set_cons_succ]))
    (refine wpAnyH_ready (rs := [14]) (by kernel_rfl) (by simp) ?_; refine AllReadyH.cons rfl (fun K hK => ?_) AllReadyH.nil)
    have hO4 : Blk w4.drew ob 35 (setM (nmCells ⟨x0.toArray⟩ (.slice C k cc)) 2 (StpCells ⟨y0, y1, y2, y3⟩)) := HW.out.1
    have hst : Blk (w4.drew.setCells ob 6 (StpCells ⟨y4, y5, y6, y7⟩)) ob 35 (setM (setM (nmCells ⟨x0.toArray⟩ (.slice C k cc)) 2 (StpCells ⟨y0, y1, y2, y3⟩)) 6 (StpCells ⟨y4, y5, y6, y7⟩)) ∧ Below ob w4.drew (w4.drew.setCells ob 6 (StpCells ⟨y4, y5, y6, y7⟩)) := blk_setCells _ _ _ _ hO4
    refine step_storeM stStp rfl _ _ rfl ob 6 (StpCells ⟨y4, y5, y6, y7⟩) rfl rfl (blk_there hO4 (by simp [nmCells, setM, StpCells])) rfl (by simp [StpCells]; exact ⟨rfl, rfl, rfl, rfl⟩) ?_
    obtain ⟨w5, hw5⟩ : ∃ W, w4.drew.setCells ob 6 (StpCells ⟨y4, y5, y6, y7⟩) = W := ⟨_, rfl⟩
    rw [hw5] at hst ⊢
    have HW2 : Hid (Blk w5 ob 35 (setM (setM (nmCells ⟨x0.toArray⟩ (.slice C k cc)) 2 (StpCells ⟨y0, y1, y2, y3⟩)) 6 (StpCells ⟨y4, y5, y6, y7⟩)) ∧ Below ob wc w5 ∧ ∀ q, q ≠ ob → w5.heap[q]? = wc.heap[q]?) := Lib.hid ⟨hst.1, HW.out.2.1.drew.trans hst.2, fun q hq => by rw [← hw5]; exact (setCells_other _ _ w4.drew q hq).trans (HW.out.2.2 q hq)⟩
    refine hK.out _ _ (⟨HS.out _ HW2.out.2.1 4 _ HY4.out, HS.out _ HW2.out.2.1 5 _ HY5.out, HS.out _ HW2.out.2.1 6 _ HY6.out, HS.out _ HW2.out.2.1 7 _ HY7.out⟩) (fun hHeld => ?_)
    clear hK K
    (try simp only [Act.put, List.getElem_toArray, List.getElem_cons_succ, List.getElem_cons_zero, List.setIfInBounds_toArray, List.set_cons_zero, List.set_cons_succ])
    (refine wpAnyH_done (by kernel_rfl) ?_ _)
    have HW := HW2
    clear HW2 hO4 hst hw5
    obtain ⟨c12, hc12⟩ : ∃ cs, setM (setM (nmCells ⟨x0.toArray⟩ (.slice C k cc)) 2 (StpCells ⟨y0, y1, y2, y3⟩)) 6 (StpCells ⟨y4, y5, y6, y7⟩) = cs := ⟨_, rfl⟩
    have hc12' : c12 = [.string ⟨x0.toArray⟩, .slice C k cc, .int .i64 y0, .int .i64 y1, .int .i64 y2, .int .i64 y3, .int .i64 y4, .int .i64 y5, .int .i64 y6, .int .i64 y7, .int .i64 0, .int .i64 0, .int .i64 0, .int .i64 0, .int .i64 0, .bool false] := by rw [← hc12]; rfl
    rw [hc12, hc12'] at HW
    clear hc12 hc12'
    go_upto_region 11 with fail
    have hy := HS.out _ HW.out.2.1 8 _ HY8.out
    have fc := HW.out.1.cell (j := 10) rfl
    have ff := HW.out.1.frozen 10
    go_upto_region 12 with fail
    clear hy fc ff
    obtain ⟨w7, hw7⟩ : ∃ W, w5.setCell ⟨ob, 10, none⟩ (.int .i64 y8) = W := ⟨_, rfl⟩
    rw [hw7]
    have HW2 : Hid (Blk w7 ob 35 ([.string ⟨x0.toArray⟩, .slice C k cc, .int .i64 y0, .int .i64 y1, .int .i64 y2, .int .i64 y3, .int .i64 y4, .int .i64 y5, .int .i64 y6, .int .i64 y7, .int .i64 y8, .int .i64 0, .int .i64 0, .int .i64 0, .int .i64 0, .bool false]) ∧ Below ob wc w7 ∧ ∀ q, q ≠ ob → w7.heap[q]? = wc.heap[q]?) := Lib.hid (by rw [← hw7]; exact ⟨HW.out.1.set _ _, HW.out.2.1.setCell (p := ⟨ob, 10, none⟩) (Nat.le_refl _) _, fun q hq => (Below.heap_setCell w5 ⟨ob, 10, none⟩ _ q hq).trans (HW.out.2.2 q hq)⟩)
    clear hw7 HW
    have HW := HW2
    clear HW2
    have hy := HS.out _ HW.out.2.1 9 _ HY9.out
    have fc := HW.out.1.cell (j := 11) rfl
    have ff := HW.out.1.frozen 11
    go_upto_region 13 with fail
    clear hy fc ff
    obtain ⟨w8, hw8⟩ : ∃ W, w7.setCell ⟨ob, 11, none⟩ (.int .i64 y9) = W := ⟨_, rfl⟩
    rw [hw8]
    have HW2 : Hid (Blk w8 ob 35 ([.string ⟨x0.toArray⟩, .slice C k cc, .int .i64 y0, .int .i64 y1, .int .i64 y2, .int .i64 y3, .int .i64 y4, .int .i64 y5, .int .i64 y6, .int .i64 y7, .int .i64 y8, .int .i64 y9, .int .i64 0, .int .i64 0, .int .i64 0, .bool false]) ∧ Below ob wc w8 ∧ ∀ q, q ≠ ob → w8.heap[q]? = wc.heap[q]?) := Lib.hid (by rw [← hw8]; exact ⟨HW.out.1.set _ _, HW.out.2.1.setCell (p := ⟨ob, 11, none⟩) (Nat.le_refl _) _, fun q hq => (Below.heap_setCell w7 ⟨ob, 11, none⟩ _ q hq).trans (HW.out.2.2 q hq)⟩)
    clear hw8 HW
    have HW := HW2
    clear HW2
    have hy := HS.out _ HW.out.2.1 10 _ HY10.out
    have fc := HW.out.1.cell (j := 12) rfl
    have ff := HW.out.1.frozen 12
    go_upto_region 14 with fail
    clear hy fc ff
    obtain ⟨w9, hw9⟩ : ∃ W, w8.setCell ⟨ob, 12, none⟩ (.int .i64 y10) = W := ⟨_, rfl⟩
    rw [hw9]
    have HW2 : Hid (Blk w9 ob 35 ([.string ⟨x0.toArray⟩, .slice C k cc, .int .i64 y0, .int .i64 y1, .int .i64 y2, .int .i64 y3, .int .i64 y4, .int .i64 y5, .int .i64 y6, .int .i64 y7, .int .i64 y8, .int .i64 y9, .int .i64 y10, .int .i64 0, .int .i64 0, .bool false]) ∧ Below ob wc w9 ∧ ∀ q, q ≠ ob → w9.heap[q]? = wc.heap[q]?) := Lib.hid (by rw [← hw9]; exact ⟨HW.out.1.set _ _, HW.out.2.1.setCell (p := ⟨ob, 12, none⟩) (Nat.le_refl _) _, fun q hq => (Below.heap_setCell w8 ⟨ob, 12, none⟩ _ q hq).trans (HW.out.2.2 q hq)⟩)
    clear hw9 HW
    have HW := HW2
    clear HW2
    have hy := HS.out _ HW.out.2.1 11 _ HY11.out
    have fc := HW.out.1.cell (j := 13) rfl
    have ff := HW.out.1.frozen 13
    go_upto_region 15 with fail
    clear hy fc ff
    obtain ⟨w10, hw10⟩ : ∃ W, w9.setCell ⟨ob, 13, none⟩ (.int .i64 y11) = W := ⟨_, rfl⟩
    rw [hw10]
    have HW2 : Hid (Blk w10 ob 35 ([.string ⟨x0.toArray⟩, .slice C k cc, .int .i64 y0, .int .i64 y1, .int .i64 y2, .int .i64 y3, .int .i64 y4, .int .i64 y5, .int .i64 y6, .int .i64 y7, .int .i64 y8, .int .i64 y9, .int .i64 y10, .int .i64 y11, .int .i64 0, .bool false]) ∧ Below ob wc w10 ∧ ∀ q, q ≠ ob → w10.heap[q]? = wc.heap[q]?) := Lib.hid (by rw [← hw10]; exact ⟨HW.out.1.set _ _, HW.out.2.1.setCell (p := ⟨ob, 13, none⟩) (Nat.le_refl _) _, fun q hq => (Below.heap_setCell w9 ⟨ob, 13, none⟩ _ q hq).trans (HW.out.2.2 q hq)⟩)
    clear hw10 HW
    have HW := HW2
    clear HW2
    have hy := HS.out _ HW.out.2.1 12 _ HY12.out
    have fc := HW.out.1.cell (j := 14) rfl
    have ff := HW.out.1.frozen 14
    go_upto_region 16 with fail
    clear hy fc ff
    obtain ⟨w11, hw11⟩ : ∃ W, w10.setCell ⟨ob, 14, none⟩ (.int .i64 y12) = W := ⟨_, rfl⟩
    rw [hw11]
    have HW2 : Hid (Blk w11 ob 35 ([.string ⟨x0.toArray⟩, .slice C k cc, .int .i64 y0, .int .i64 y1, .int .i64 y2, .int .i64 y3, .int .i64 y4, .int .i64 y5, .int .i64 y6, .int .i64 y7, .int .i64 y8, .int .i64 y9, .int .i64 y10, .int .i64 y11, .int .i64 y12, .bool false]) ∧ Below ob wc w11 ∧ ∀ q, q ≠ ob → w11.heap[q]? = wc.heap[q]?) := Lib.hid (by rw [← hw11]; exact ⟨HW.out.1.set _ _, HW.out.2.1.setCell (p := ⟨ob, 14, none⟩) (Nat.le_refl _) _, fun q hq => (Below.heap_setCell w10 ⟨ob, 14, none⟩ _ q hq).trans (HW.out.2.2 q hq)⟩)
    clear hw11 HW
    have HW := HW2
    clear HW2
    obtain ⟨o, ho⟩ : ∃ o, ordM x0 (k : Int).toNat ns = o := ⟨_, rfl⟩
    have hcs : [.string ⟨x0.toArray⟩, .slice C k cc, .int .i64 y0, .int .i64 y1, .int .i64 y2, .int .i64 y3, .int .i64 y4, .int .i64 y5, .int .i64 y6, .int .i64 y7, .int .i64 y8, .int .i64 y9, .int .i64 y10, .int .i64 y11, .int .i64 y12, .bool false] = OrdCells o C cc ∧ o.load = (ns.drop 1).take k := by
      have hg : ∀ (j : Nat) (y : Int), ns[k + 1 + j]? = some y → ns[k + 1 + j]?.getD 0 = y := fun j y h => by rw [h]; rfl
      have hl : ((ns.drop 1).take k).length = k := HNl.out
      rw [← ho, Int.toNat_natCast]
      unfold ordM
      simp only [hg 0 _ HY0.out, hg 1 _ HY1.out, hg 2 _ HY2.out, hg 3 _ HY3.out, hg 4 _ HY4.out, hg 5 _ HY5.out, hg 6 _ HY6.out, hg 7 _ HY7.out, hg 8 _ HY8.out, hg 9 _ HY9.out, hg 10 _ HY10.out, hg 11 _ HY11.out, hg 12 _ HY12.out, OrdCells, hl, and_true]
    rw [ho] at HRS
    have HOL := Lib.hid hcs.2
    have HW3 : Hid (Blk w11 ob 35 (OrdCells o C cc) ∧ Below ob wc w11 ∧ ∀ q, q ≠ ob → w11.heap[q]? = wc.heap[q]?) := Lib.hid (by rw [← hcs.1]; exact HW.out)
    have HR9 : Hid (Blk w11 rb 35 zOrd) := Lib.hid ((HW3.out.2.1.block rb (by omega)).trans ((HB3.out.block rb zz).trans HR0w.out))
    have HCC := Lib.hid hC
    clear ho hcs HW hC
    go_wp2_with (first
      | ((with_reducible refine wpList_loadG stOrd' _ rfl ⟨ob, 0, none⟩ (OrdCells o C cc) ?_ ?_ ?_ ?_ ?_); exact rfl; exact rfl; exact HW3.out.1.cells; exact rfl)
      | ((with_reducible refine wpList_storeL stOrd' rfl _ _ rfl rb zOrd (OrdCells o C cc) ?_ ?_ ?_ ?_ ?_ (ordCells_one _ _ _) ?_); exact rfl; exact rfl; exact HR9.out; exact rfl; exact rfl; intro wz k1 k2 k3 k4; have K := Lib.hid (And.intro k1 (And.intro k2 (And.intro k3 k4))); clear k1 k2 k3 k4))
    have HRz : Blk wz rb 35 (OrdCells o C cc) := K.out.1
    refine bodyPost_ret (v := .tuple #[.agg (OrdCells o C cc).toArray, .bool true]) (big.res_cell_tmp stOrd' Tryz.results133 rfl rfl HRz.cells rfl) rfl ?_
    have hbw : Below w.heap.size w w11 := HB0.out.trans ((HB3.out.mono z0).trans (HW3.out.2.1.mono (by omega)))
    have hbz : Below w.heap.size w wz := hbw.trans (K.out.2.2.2.mono hrb)
    refine ⟨hbz, .inr ⟨o, C, cc, HRS.out, rfl, ?_⟩⟩
    have hll : o.load.length = k := by rw [HOL.out, HNl.out]
    have h3 := HW3.out.2.1.size
    refine ⟨⟨⟨by simp, fun h0 => ?_⟩, by omega⟩, fun h0 => ?_⟩
    · rcases HCC.out with hk0 | ⟨g, hC, h1, h2, hc⟩
      · omega
      · refine ⟨_, hC, ?_, fun j u hu => ?_⟩
        · show g < wz.heap.size
          have h2' := K.out.2.2.1
          omega
        · rw [List.getElem?_map, HOL.out] at hu
          obtain ⟨y, hy, rfl⟩ := Option.map_eq_some_iff.1 hu
          show wz.cell? (Addr.add ⟨g, 0, none⟩ j) = _
          have hgz : wz.cell? ⟨g, j, none⟩ = wc.cell? ⟨g, j, none⟩ := (World.cell?_of_block (K.out.2.1 g (by omega))).trans (World.cell?_of_block (HW3.out.2.2 g (by omega)))
          rw [Addr.add_mid, Nat.zero_add]
          exact hgz.trans (hc j y hy)
    · rcases HCC.out with hk0 | ⟨g, hC, h1, h2, hc⟩
      · omega
      · exact ⟨_, hC, by show w.heap.size ≤ g; omega⟩
end Go.Proofs.YtofabhenmplkoaaGreatDoor.evt

/- The reference's fields. -/
namespace Go.Proofs.YtofabhenmplkoaaGreatDoor.evt
open Go.RowKit
open Go.Proofs.YtofabhenmplkoaaGreatDoor.lib Go.Proofs.YtofabhenmplkoaaGreatDoor.rd Go.Proofs.YtofabhenmplkoaaGreatDoor.app Go.Proofs.YtofabhenmplkoaaGreatDoor.els Go.Proofs.YtofabhenmplkoaaGreatDoor.typ Go.Proofs.YtofabhenmplkoaaGreatDoor.big Go.Proofs.YtofabhenmplkoaaGreatDoor.ins Go.Proofs.YtofabhenmplkoaaGreatDoor.ord
open Go.Proofs.YtofabhenmplkoaaGreatDoor.gen hiding zOrd bOrd
open Go.Proofs.YtofabhenmplkoaaGreatDoor.off (setM step_storeM wpList_storeM intsOff_keep)
open Go.Proofs.YtofabhenmplkoaaGreatDoor.txt (in64 By strV strV_of joinS decW elem_str nameB rname_any toList_data Strs numL own_cap)
set_option linter.unusedVariables false
set_option linter.unusedSimpArgs false

def evA (k a : Int) : Evt := ⟨a, k, 0, 0, 0, ordO⟩
/-- What fields answers. -/
def FdOut (w : World) (k a : Int) (L : List By) (en : Ending) (w' : World) : Prop := Below w.heap.size w w' ∧
  ((rfldF k a L = none ∧ ∃ cs : List Value, cs.length = 21 ∧ (∀ u ∈ cs, u.oneCell' = true) ∧ en = .returned (.tuple #[.agg cs.toArray, .bool false])) ∨ ∃ (e : Evt) (C : Option Addr) (c : Nat), rfldF k a L = some e ∧ en = .returned (.tuple #[.agg (EvtCells e C c).toArray, .bool true]) ∧ IntsOff w' (fun b => w.heap.size ≤ b) C e.order.load)
theorem set_evA {k a : Int} {o : Ord} {C : Option Addr} {c : Nat} : setM (EvtCells (evA k a) none 0) 5 (OrdCells o C c) = EvtCells ⟨a, k, 0, 0, 0, o⟩ C c := by simp [setM, EvtCells, OrdCells, evA]
set_option maxRecDepth 20000 in
set_option maxHeartbeats 8000000 in
theorem rfields_any (k a : Int) (hk : 1 ≤ k ∧ k ≤ 5) (L : List By) (A : Option Addr) (n c : Nat) (hn : n = L.length) (hnc : n ≤ c) (w : World) (hL : Strs w w.heap.size A L) (hm : ∀ x ∈ L, x.length ≤ 100000) : Calls Tryz.prog 78 #[.agg (EvtCells (evA k a) none 0).toArray, .slice A n c] w (FdOut w k a L) := by
  show Calls Tryz.prog 78 #[.agg #[.int .i64 a, .int .i64 k, .int .i64 0, .int .i64 0, .int .i64 0, .string ⟨#[]⟩, .slice none 0 0, .int .i64 0, .int .i64 0, .int .i64 0, .int .i64 0, .int .i64 0, .int .i64 0, .int .i64 0, .int .i64 0, .int .i64 0, .int .i64 0, .int .i64 0, .int .i64 0, .int .i64 0, .bool false], .slice A n c] w _
  obtain ⟨W0, hW0⟩ : ∃ W0, (w.alloc (.cells (EvtCells (evA k a) none 0).toArray 37)).alloc (.cells (EvtCells zE none 0).toArray 37) = W0 := ⟨_, rfl⟩
  have hB0 : Below w.heap.size w W0 := by rw [← hW0]; exact ((Below.refl _ _).alloc (Nat.le_refl _) _).alloc (by simp) _
  have z0 : W0.heap.size = w.heap.size + 2 := by rw [← hW0]; simp
  have e0 : Blk W0 w.heap.size 37 (EvtCells (evA k a) none 0) := by
    rw [← hW0]
    exact (Blk.new w _ _).below ((Below.refl _ _).alloc (by simp) _)
  have r0 : Blk W0 (w.heap.size + 1) 37 (EvtCells zE none 0) := by
    rw [← hW0]
    have h := Blk.new (w.alloc (.cells (EvtCells (evA k a) none 0).toArray 37)) 37 (EvtCells zE none 0)
    simpa using h
  have HW0 := Lib.hid (show (w.alloc (.cells #[.int .i64 a, .int .i64 k, .int .i64 0, .int .i64 0, .int .i64 0, .string ⟨#[]⟩, .slice none 0 0, .int .i64 0, .int .i64 0, .int .i64 0, .int .i64 0, .int .i64 0, .int .i64 0, .int .i64 0, .int .i64 0, .int .i64 0, .int .i64 0, .int .i64 0, .int .i64 0, .int .i64 0, .bool false] 37)).alloc (.cells #[.int .i64 0, .int .i64 0, .int .i64 0, .int .i64 0, .int .i64 0, .string ⟨#[]⟩, .slice none 0 0, .int .i64 0, .int .i64 0, .int .i64 0, .int .i64 0, .int .i64 0, .int .i64 0, .int .i64 0, .int .i64 0, .int .i64 0, .int .i64 0, .int .i64 0, .int .i64 0, .int .i64 0, .bool false] 37) = W0 from hW0)
  obtain ⟨rb, hrb0⟩ : ∃ b, w.heap.size + 1 = b := ⟨_, rfl⟩
  obtain ⟨eb, heb0⟩ : ∃ b, w.heap.size = b := ⟨_, rfl⟩
  have hrb : w.heap.size ≤ rb := by omega
  have heb : w.heap.size ≤ eb := by omega
  have hne : rb ≠ eb := by omega
  have hebz : eb < W0.heap.size := by omega
  have hrbz : rb < W0.heap.size := by omega
  have HB0 := Lib.hid hB0
  have HL := Lib.hid ((hL.below hB0).more (show w.heap.size ≤ W0.heap.size by omega))
  have HM := Lib.hid hm
  have HN := Lib.hid hn
  rw [heb0] at e0
  rw [hrb0] at r0
  have HE0 := Lib.hid e0
  have HR0 := Lib.hid r0
  have c1f : W0.cell? ⟨eb, 1, none⟩ = some (.int .i64 k) := e0.cell rfl
  obtain ⟨hk1, hk5⟩ := hk
  clear hL hm hn hB0 hW0 e0 r0
  go_enter Tryz.func78, Tryz.ntmps78
  go_upto_region 1 with fail
  rw [HW0.out, show eb + 1 = rb by omega]
  clear HW0 heb0 hrb0
  by_cases hka : k = 1
  case pos =>
    subst hka
    have hro : Calls Tryz.prog 133 #[.slice A n c] W0 (RrOut W0 L) := rorder_any L A n c HN.out hnc W0 HL.out HM.out
    have hro2 : Calls Tryz.prog 133 #[.slice A n c] W0 fun e w' => ∃ (oc : List Value) (ok : Bool), e = .returned (.tuple #[.agg oc.toArray, .bool ok]) ∧ Below W0.heap.size W0 w' ∧ oc.length = 16 ∧ (∀ u ∈ oc, u.oneCell' = true) ∧ (ok = false → rordF L = none) ∧ (ok = true → ∃ o C cc, rordF L = some o ∧ oc = OrdCells o C cc ∧ IntsOff w' (fun b => W0.heap.size ≤ b) C o.load) := hro.mono (by
      rintro e w' ⟨hb, ⟨h, rfl⟩ | ⟨o, C, cc, h, rfl, hi⟩⟩
      · exact ⟨ins.zOrd, false, rfl, hb, rfl, by decide, fun _ => h, fun e => (by cases e)⟩
      · exact ⟨OrdCells o C cc, true, rfl, hb, rfl, ordCells_one _ _ _, fun e => (by cases e), fun _ => ⟨o, C, cc, h, rfl, hi⟩⟩)
    clear hro
    go_upto_region 3 with (first
      | (go_at_call 133; refine hro2.mono ?_; rintro e3 w3 ⟨oc, ok, rfl, hb3, h9⟩; have HOO := Lib.hid h9; clear h9)
      | ((with_reducible refine wpList_storeL stOrd' rfl _ _ rfl w3.heap.size ins.zOrd oc ?_ ?_ ?_ ?_ ?_ HOO.out.2.1 ?_); exact rfl; exact rfl; exact Blk.new w3 _ _; exact rfl; exact HOO.out.1; intro wz k1 k2 k3 k4; have K := Lib.hid (And.intro k1 (And.intro k2 (And.intro k3 k4))); clear k1 k2 k3 k4))
    obtain ⟨w4, hw4⟩ : ∃ W, wz = W := ⟨_, rfl⟩
    have b34 : Below w3.heap.size w3 w4 := by rw [← hw4]; exact ((Below.refl _ _).alloc (Nat.le_refl _) _).trans K.out.2.2.2
    have HO4 : Hid (Blk w4 w3.heap.size 35 oc) := Lib.hid (by rw [← hw4]; exact K.out.1)
    rw [hw4]
    obtain ⟨qb, hqb⟩ : ∃ q, w3.heap.size = q := ⟨_, rfl⟩
    have HE4 := Lib.hid ((HE0.out.below hb3).below b34)
    have HR4 := Lib.hid ((HR0.out.below hb3).below b34)
    have z3 := hb3.size
    have HB4 := Lib.hid (HB0.out.trans ((hb3.trans (b34.mono z3)).mono HB0.out.size))
    have HI4 : Hid (ok = true → ∃ o C cc, rordF L = some o ∧ oc = OrdCells o C cc ∧ IntsOff w4 (fun b => W0.heap.size ≤ b) C o.load) := Lib.hid (fun h => by
      obtain ⟨o, C, cc, h1, h2, h3⟩ := HOO.out.2.2.2 h
      exact ⟨o, C, cc, h1, h2, intsOff_keep h3 b34.size (fun b hb hp => ⟨by have h9 : W0.heap.size ≤ b := hp; omega, b34.block b hb⟩)⟩)
    have hebq : eb < qb := by omega
    rw [hqb] at HO4 ⊢
    have HO5 := Lib.hid (And.intro HOO.out.1 (And.intro HOO.out.2.1 HOO.out.2.2.1))
    clear K hw4 b34 hqb hb3 hro2 HOO HE0 HR0 z3 c1f
    have hst := blk_setCells oc 5 _ _ HE4.out
    have hso := fun k h => setCells_other (b := eb) oc 5 w4 k h
    have HST := Lib.hid hst
    have HSO := Lib.hid hso
    clear hst hso
    go_upto_region 4 with (first
      | ((with_reducible refine wpList_loadG stOrd' _ rfl ⟨qb, 0, none⟩ oc ?_ ?_ ?_ ?_ ?_); exact rfl; exact rfl; exact HO4.out.cells; exact HO5.out.1)
      | ((with_reducible refine wpList_storeM stOrd' rfl _ _ rfl eb 5 oc ?_ ?_ ?_ ?_ HO5.out.2.1 ?_); exact rfl; exact rfl; exact blk_there HE4.out (show 5 + 16 ≤ 21 by omega); exact HO5.out.1))
    obtain ⟨w6, hw6⟩ : ∃ W, w4.setCells eb 5 oc = W := ⟨_, rfl⟩
    have HST2 := HST
    have HSO2 := HSO
    rw [hw6] at HST2 HSO2 ⊢
    obtain ⟨CE, hCE⟩ : ∃ CE, setM (EvtCells (evA 1 a) none 0) 5 oc = CE := ⟨_, rfl⟩
    have hlen : CE.length = 21 := by rw [← hCE, off.setM_len]; rfl
    have hone : ∀ u ∈ CE, u.oneCell' = true := by rw [← hCE]; exact setM_one _ (evtC_one _ _ _) HO5.out.2.1
    rw [hCE] at HST2
    have HE6 := Lib.hid HST2.out.1
    have HR6 : Hid (Blk w6 rb 37 (EvtCells zE none 0)) := Lib.hid ((HSO2.out rb hne).trans HR4.out)
    have HB6 : Hid (Below w.heap.size w w6) := Lib.hid (HB4.out.trans (HST2.out.2.mono heb))
    have HI6 : Hid (ok = true → ∃ o C cc, rordF L = some o ∧ CE = EvtCells ⟨a, 1, 0, 0, 0, o⟩ C cc ∧ IntsOff w6 (fun b => W0.heap.size ≤ b) C o.load) := Lib.hid (fun h => by
      obtain ⟨o, C, cc, h1, h2, h3⟩ := HI4.out h
      exact ⟨o, C, cc, h1, by rw [← hCE, h2, set_evA], intsOff_keep h3 HST2.out.2.size (fun b hb hp => ⟨hp, HSO2.out b (by have h9 : W0.heap.size ≤ b := hp; omega)⟩)⟩)
    have HCE := Lib.hid (And.intro hlen hone)
    clear hlen hone hCE hw6 HST HSO HST2 HSO2 HE4 HR4 HB4 HI4
    cases ok
    · have HEE : Hid (rfldF 1 a L = none) := Lib.hid (by unfold rfldF; rw [if_pos rfl, HO5.out.2.2 rfl]; rfl)
      go_wp2_with (first
        | ((with_reducible refine wpList_loadG stEvt _ rfl ⟨eb, 0, none⟩ (CE) ?_ ?_ ?_ ?_ ?_); exact rfl; exact rfl; exact (HE6.out).cells; exact (HCE.out.1))
        | ((with_reducible refine wpList_storeL stEvt rfl _ _ rfl rb (EvtCells zE none 0) (CE) ?_ ?_ ?_ ?_ ?_ (HCE.out.2) ?_); exact rfl; exact rfl; exact (HR6.out); exact rfl; exact (HCE.out.1); intro wz k1 k2 k3 k4; have K := Lib.hid (And.intro k1 (And.intro k2 (And.intro k3 k4))); clear k1 k2 k3 k4))
      have HRz : Blk wz rb 37 (CE) := K.out.1
      have hbz : Below w.heap.size w wz := (HB6.out).trans (K.out.2.2.2.mono hrb)
      refine bodyPost_ret (v := .tuple #[.agg (CE).toArray, .bool false]) (big.res_cell_tmp stEvt Tryz.results78 rfl rfl HRz.cells (HCE.out.1)) rfl ?_
      exact ⟨hbz, .inl ⟨HEE.out, _, HCE.out.1, HCE.out.2, rfl⟩⟩
    · obtain ⟨o, C, cc, ho1, ho2, ho3⟩ := HI6.out rfl
      have HPO : Hid (rfldF 1 a L = some ⟨a, 1, 0, 0, 0, o⟩ ∧ CE = EvtCells ⟨a, 1, 0, 0, 0, o⟩ C cc ∧ IntsOff w6 (fun b => W0.heap.size ≤ b) C o.load) := Lib.hid ⟨by unfold rfldF; rw [if_pos rfl, ho1]; rfl, ho2, ho3⟩
      clear ho1 ho2 ho3 HI6
      go_wp2_with (first
        | ((with_reducible refine wpList_loadG stEvt _ rfl ⟨eb, 0, none⟩ (CE) ?_ ?_ ?_ ?_ ?_); exact rfl; exact rfl; exact (HE6.out).cells; exact (HCE.out.1))
        | ((with_reducible refine wpList_storeL stEvt rfl _ _ rfl rb (EvtCells zE none 0) (CE) ?_ ?_ ?_ ?_ ?_ (HCE.out.2) ?_); exact rfl; exact rfl; exact (HR6.out); exact rfl; exact (HCE.out.1); intro wz k1 k2 k3 k4; have K := Lib.hid (And.intro k1 (And.intro k2 (And.intro k3 k4))); clear k1 k2 k3 k4))
      have HRz : Blk wz rb 37 (CE) := K.out.1
      have hbz : Below w.heap.size w wz := (HB6.out).trans (K.out.2.2.2.mono hrb)
      refine bodyPost_ret (v := .tuple #[.agg (CE).toArray, .bool true]) (big.res_cell_tmp stEvt Tryz.results78 rfl rfl HRz.cells (HCE.out.1)) rfl ?_
      exact ⟨hbz, .inr ⟨_, C, cc, HPO.out.1, by rw [← HPO.out.2.1], intsOff_keep HPO.out.2.2 (by rw [K.out.2.2.1]; exact Nat.le_refl _) (fun b hb hp => ⟨by have h9 : W0.heap.size ≤ b := hp; show w.heap.size ≤ b; omega, K.out.2.1 b (by have h9 : W0.heap.size ≤ b := hp; omega)⟩)⟩⟩
  case neg =>
    have hrd2 : Calls Tryz.prog 134 #[.slice A n c] W0 fun e w' => ∃ (l : List Int) (A1 : Option Addr) (c1 m1 : Nat) (ok : Bool), e = .returned (.tuple #[.slice A1 m1 c1, .bool ok]) ∧ Below W0.heap.size W0 w' ∧ m1 = l.length ∧ (ok = false → readF L = none) ∧ (ok = true → readF L = some l ∧ IOwn w' W0.heap.size A1 c1 l) := (rnumbers_any L A n c HN.out W0 HL.out HM.out).mono (by
      rintro e w' ⟨hb, ⟨h, rfl⟩ | ⟨l, A1, c1, m1, h, hm, rfl, ho⟩⟩
      · exact ⟨[], none, 0, 0, false, rfl, hb, rfl, fun _ => h, fun e => (by cases e)⟩
      · exact ⟨l, A1, c1, m1, true, rfl, hb, hm, fun e => (by cases e), fun _ => ⟨h, ho⟩⟩)
    go_upto_region 6 with (go_at_call 134; refine hrd2.mono ?_; rintro e2 w2 ⟨ns, A1, c1, m1, ok, rfl, hb2, h9⟩; have HNS := Lib.hid h9; clear h9)
    have HE2 := Lib.hid (HE0.out.below hb2)
    have HR2 := Lib.hid (HR0.out.below hb2)
    have HBW2 := Lib.hid (HB0.out.trans (hb2.mono HB0.out.size))
    have hebz2 : eb < w2.heap.size := by have := hb2.size; omega
    have hrbz2 : rb < w2.heap.size := by have := hb2.size; omega
    have s1 : w2.cell? ⟨eb, 1, none⟩ = some (.int .i64 k) := HE2.out.cell rfl
    have HRF : Hid (rfldF k a L = (readF L).bind fun n => if n.length + 1 = cntF k then some (evtM k (a :: n)) else none) := Lib.hid (if_neg hka)
    clear hb2 hrd2 HE0 HR0 c1f
    cases ok
    · have HEE : Hid (rfldF k a L = none) := Lib.hid (by rw [HRF.out, HNS.out.2.1 rfl]; rfl)
      go_wp2_with (first
        | ((with_reducible refine wpList_loadG stEvt _ rfl ⟨eb, 0, none⟩ (EvtCells (evA k a) none 0) ?_ ?_ ?_ ?_ ?_); exact rfl; exact rfl; exact (HE2.out).cells; exact (rfl))
        | ((with_reducible refine wpList_storeL stEvt rfl _ _ rfl rb (EvtCells zE none 0) (EvtCells (evA k a) none 0) ?_ ?_ ?_ ?_ ?_ (evtC_one _ _ _) ?_); exact rfl; exact rfl; exact (HR2.out); exact rfl; exact (rfl); intro wz k1 k2 k3 k4; have K := Lib.hid (And.intro k1 (And.intro k2 (And.intro k3 k4))); clear k1 k2 k3 k4))
      have HRz : Blk wz rb 37 (EvtCells (evA k a) none 0) := K.out.1
      have hbz : Below w.heap.size w wz := (HBW2.out).trans (K.out.2.2.2.mono hrb)
      refine bodyPost_ret (v := .tuple #[.agg (EvtCells (evA k a) none 0).toArray, .bool false]) (big.res_cell_tmp stEvt Tryz.results78 rfl rfl HRz.cells (rfl)) rfl ?_
      exact ⟨hbz, .inl ⟨HEE.out, _, rfl, evtC_one _ _ _, rfl⟩⟩
    have hm1 := HNS.out.1
    have HM1 := Lib.hid hm1
    obtain ⟨hns, hio⟩ := HNS.out.2.2 rfl
    have HIO := Lib.hid hio
    have HRS : Hid (rfldF k a L = if m1 + 1 = cntF k then some (evtM k (a :: ns)) else none) := Lib.hid (by rw [HRF.out, hns, hm1]; rfl)
    have HBAD : Hid (m1 + 1 ≠ cntF k → rfldF k a L = none) := Lib.hid (fun h => by rw [HRS.out, if_neg h])
    have HGOOD : Hid (m1 + 1 = cntF k → rfldF k a L = some (evtM k (a :: ns))) := Lib.hid (fun h => by rw [HRS.out, if_pos h])
    have HG : Hid (0 < m1 → ∃ g, A1 = some ⟨g, 0, none⟩ ∧ g ≠ eb ∧ ∀ (j : Nat) x, ns[j]? = some x → w2.cell? ⟨g, j, none⟩ = some (.int .i64 x)) := Lib.hid (fun h => by
      obtain ⟨g, h1, h2, h3, h4⟩ := own_ints HIO.out (by omega)
      exact ⟨g, h1, by omega, h4⟩)
    have hmb : m1 ≤ 1000000 := by
      rw [hm1, (readF_len hns).1]
      exact HL.out.2
    clear hns hio HRS HNS hm1 HRF
    have HW : Hid (Blk w2 eb 37 (EvtCells (evA k a) none 0) ∧ (∀ q, q ≠ eb → w2.heap[q]? = w2.heap[q]?) ∧ Below eb w2 w2) := Lib.hid ⟨HE2.out, fun _ _ => rfl, Below.refl _ _⟩
    by_cases hk2 : k = 2 ∨ k = 4
    · by_cases hm : m1 = 1
      · obtain ⟨g, hA, hge, hgc⟩ := HG.out (by omega)
        subst hA
        obtain ⟨x, rfl⟩ : ∃ x, ns = [x] := by
          have := HM1.out
          cases ns with
          | nil => simp at this; omega
          | cons x r =>
            cases r with
            | nil => exact ⟨x, rfl⟩
            | cons y r => simp at this; omega
        have t0 : w2.cell? ⟨g, 0, none⟩ = some (.int .i64 x) := hgc 0 x rfl
        have HPO : Hid (rfldF k a L = some (evtM k [a, x])) := Lib.hid (HGOOD.out (by rcases hk2 with rfl | rfl <;> rw [hm] <;> rfl))
        subst hm
        clear hgc HGOOD HBAD HG
        rcases hk2 with rfl | rfl
        · skip
          have fc := HW.out.1.cell (j := 2) rfl
          have ff := HW.out.1.frozen 2
          go_upto_region 18 with fail
          clear fc ff
          obtain ⟨w5, hw5⟩ : ∃ W, w2.setCell ⟨eb, 2, none⟩ (.int .i64 x) = W := ⟨_, rfl⟩
          rw [hw5]
          have HW2 : Hid (Blk w5 eb 37 (List.set (EvtCells (evA 2 a) none 0) 2 (.int .i64 x)) ∧ (∀ q, q ≠ eb → w5.heap[q]? = w2.heap[q]?) ∧ Below eb w2 w5) := Lib.hid (by rw [← hw5]; exact ⟨HW.out.1.set _ _, fun q hq => (Below.heap_setCell w2 ⟨eb, 2, none⟩ _ q hq).trans (HW.out.2.1 q hq), HW.out.2.2.setCell (p := ⟨eb, 2, none⟩) (Nat.le_refl _) _⟩)
          clear hw5 HW
          have HW := HW2
          clear HW2
          have HE9 : Hid (Blk w5 eb 37 (EvtCells (evtM 2 [a, x]) none 0)) := Lib.hid (by rw [show EvtCells (evtM 2 [a, x]) none 0 = _ from rfl]; exact HW.out.1)
          have HR9 : Hid (Blk w5 rb 37 (EvtCells zE none 0)) := Lib.hid ((HW.out.2.1 rb (by omega)).trans HR2.out)
          have HB9 : Hid (Below w.heap.size w w5) := Lib.hid (HBW2.out.trans (HW.out.2.2.mono (by omega)))
          go_wp2_with (first
            | ((with_reducible refine wpList_loadG stEvt _ rfl ⟨eb, 0, none⟩ (EvtCells (evtM 2 [a, x]) none 0) ?_ ?_ ?_ ?_ ?_); exact rfl; exact rfl; exact (HE9.out).cells; exact (rfl))
            | ((with_reducible refine wpList_storeL stEvt rfl _ _ rfl rb (EvtCells zE none 0) (EvtCells (evtM 2 [a, x]) none 0) ?_ ?_ ?_ ?_ ?_ (evtC_one _ _ _) ?_); exact rfl; exact rfl; exact (HR9.out); exact rfl; exact (rfl); intro wz k1 k2 k3 k4; have K := Lib.hid (And.intro k1 (And.intro k2 (And.intro k3 k4))); clear k1 k2 k3 k4))
          have HRz : Blk wz rb 37 (EvtCells (evtM 2 [a, x]) none 0) := K.out.1
          have hbz : Below w.heap.size w wz := (HB9.out).trans (K.out.2.2.2.mono hrb)
          refine bodyPost_ret (v := .tuple #[.agg (EvtCells (evtM 2 [a, x]) none 0).toArray, .bool true]) (big.res_cell_tmp stEvt Tryz.results78 rfl rfl HRz.cells (rfl)) rfl ?_
          exact ⟨hbz, .inr ⟨_, none, 0, HPO.out, rfl, ⟨Ints.nil, fun h => absurd h (by simp [evtM, ordO])⟩⟩⟩
        · skip
          have fc := HW.out.1.cell (j := 2) rfl
          have ff := HW.out.1.frozen 2
          go_upto_region 18 with fail
          clear fc ff
          obtain ⟨w5, hw5⟩ : ∃ W, w2.setCell ⟨eb, 2, none⟩ (.int .i64 x) = W := ⟨_, rfl⟩
          rw [hw5]
          have HW2 : Hid (Blk w5 eb 37 (List.set (EvtCells (evA 4 a) none 0) 2 (.int .i64 x)) ∧ (∀ q, q ≠ eb → w5.heap[q]? = w2.heap[q]?) ∧ Below eb w2 w5) := Lib.hid (by rw [← hw5]; exact ⟨HW.out.1.set _ _, fun q hq => (Below.heap_setCell w2 ⟨eb, 2, none⟩ _ q hq).trans (HW.out.2.1 q hq), HW.out.2.2.setCell (p := ⟨eb, 2, none⟩) (Nat.le_refl _) _⟩)
          clear hw5 HW
          have HW := HW2
          clear HW2
          have HE9 : Hid (Blk w5 eb 37 (EvtCells (evtM 4 [a, x]) none 0)) := Lib.hid (by rw [show EvtCells (evtM 4 [a, x]) none 0 = _ from rfl]; exact HW.out.1)
          have HR9 : Hid (Blk w5 rb 37 (EvtCells zE none 0)) := Lib.hid ((HW.out.2.1 rb (by omega)).trans HR2.out)
          have HB9 : Hid (Below w.heap.size w w5) := Lib.hid (HBW2.out.trans (HW.out.2.2.mono (by omega)))
          go_wp2_with (first
            | ((with_reducible refine wpList_loadG stEvt _ rfl ⟨eb, 0, none⟩ (EvtCells (evtM 4 [a, x]) none 0) ?_ ?_ ?_ ?_ ?_); exact rfl; exact rfl; exact (HE9.out).cells; exact (rfl))
            | ((with_reducible refine wpList_storeL stEvt rfl _ _ rfl rb (EvtCells zE none 0) (EvtCells (evtM 4 [a, x]) none 0) ?_ ?_ ?_ ?_ ?_ (evtC_one _ _ _) ?_); exact rfl; exact rfl; exact (HR9.out); exact rfl; exact (rfl); intro wz k1 k2 k3 k4; have K := Lib.hid (And.intro k1 (And.intro k2 (And.intro k3 k4))); clear k1 k2 k3 k4))
          have HRz : Blk wz rb 37 (EvtCells (evtM 4 [a, x]) none 0) := K.out.1
          have hbz : Below w.heap.size w wz := (HB9.out).trans (K.out.2.2.2.mono hrb)
          refine bodyPost_ret (v := .tuple #[.agg (EvtCells (evtM 4 [a, x]) none 0).toArray, .bool true]) (big.res_cell_tmp stEvt Tryz.results78 rfl rfl HRz.cells (rfl)) rfl ?_
          exact ⟨hbz, .inr ⟨_, none, 0, HPO.out, rfl, ⟨Ints.nil, fun h => absurd h (by simp [evtM, ordO])⟩⟩⟩
      · have hbad : m1 + 1 ≠ cntF k := by rcases hk2 with rfl | rfl <;> (show m1 + 1 ≠ 2; omega)
        have hmi : ((m1 : Int) == 1) = false := beq_eq_false_iff_ne.2 (by omega)
        rcases hk2 with rfl | rfl
        · skip
          have HEE : Hid (rfldF 2 a L = none) := Lib.hid (HBAD.out hbad)
          go_wp2_with (first
            | ((with_reducible refine wpList_loadG stEvt _ rfl ⟨eb, 0, none⟩ (EvtCells (evA 2 a) none 0) ?_ ?_ ?_ ?_ ?_); exact rfl; exact rfl; exact (HE2.out).cells; exact (rfl))
            | ((with_reducible refine wpList_storeL stEvt rfl _ _ rfl rb (EvtCells zE none 0) (EvtCells (evA 2 a) none 0) ?_ ?_ ?_ ?_ ?_ (evtC_one _ _ _) ?_); exact rfl; exact rfl; exact (HR2.out); exact rfl; exact (rfl); intro wz k1 k2 k3 k4; have K := Lib.hid (And.intro k1 (And.intro k2 (And.intro k3 k4))); clear k1 k2 k3 k4))
          have HRz : Blk wz rb 37 (EvtCells (evA 2 a) none 0) := K.out.1
          have hbz : Below w.heap.size w wz := (HBW2.out).trans (K.out.2.2.2.mono hrb)
          refine bodyPost_ret (v := .tuple #[.agg (EvtCells (evA 2 a) none 0).toArray, .bool false]) (big.res_cell_tmp stEvt Tryz.results78 rfl rfl HRz.cells (rfl)) rfl ?_
          exact ⟨hbz, .inl ⟨HEE.out, _, rfl, evtC_one _ _ _, rfl⟩⟩
        · skip
          have HEE : Hid (rfldF 4 a L = none) := Lib.hid (HBAD.out hbad)
          go_wp2_with (first
            | ((with_reducible refine wpList_loadG stEvt _ rfl ⟨eb, 0, none⟩ (EvtCells (evA 4 a) none 0) ?_ ?_ ?_ ?_ ?_); exact rfl; exact rfl; exact (HE2.out).cells; exact (rfl))
            | ((with_reducible refine wpList_storeL stEvt rfl _ _ rfl rb (EvtCells zE none 0) (EvtCells (evA 4 a) none 0) ?_ ?_ ?_ ?_ ?_ (evtC_one _ _ _) ?_); exact rfl; exact rfl; exact (HR2.out); exact rfl; exact (rfl); intro wz k1 k2 k3 k4; have K := Lib.hid (And.intro k1 (And.intro k2 (And.intro k3 k4))); clear k1 k2 k3 k4))
          have HRz : Blk wz rb 37 (EvtCells (evA 4 a) none 0) := K.out.1
          have hbz : Below w.heap.size w wz := (HBW2.out).trans (K.out.2.2.2.mono hrb)
          refine bodyPost_ret (v := .tuple #[.agg (EvtCells (evA 4 a) none 0).toArray, .bool false]) (big.res_cell_tmp stEvt Tryz.results78 rfl rfl HRz.cells (rfl)) rfl ?_
          exact ⟨hbz, .inl ⟨HEE.out, _, rfl, evtC_one _ _ _, rfl⟩⟩
    by_cases hk3 : k = 3
    · subst hk3
      by_cases hm : m1 = 3
      · obtain ⟨g, hA, hge, hgc⟩ := HG.out (by omega)
        subst hA
        obtain ⟨x, y, z, rfl⟩ : ∃ x y z, ns = [x, y, z] := by
          have h := HM1.out
          rw [hm] at h
          match ns, h with
          | [x, y, z], _ => exact ⟨x, y, z, rfl⟩
        have HPO : Hid (rfldF 3 a L = some (evtM 3 [a, x, y, z])) := Lib.hid (HGOOD.out (by rw [hm]; rfl))
        have HGC := Lib.hid hgc
        subst hm
        clear hgc HGOOD HBAD HG
        have t0 : w2.cell? ⟨g, 0, none⟩ = some (.int .i64 x) := HGC.out 0 x rfl
        have fc := HW.out.1.cell (j := 2) rfl
        have ff := HW.out.1.frozen 2
        go_upto_region 13 with fail
        clear fc ff
        obtain ⟨w5, hw5⟩ : ∃ W, w2.setCell ⟨eb, 2, none⟩ (.int .i64 x) = W := ⟨_, rfl⟩
        rw [hw5]
        have HW2 : Hid (Blk w5 eb 37 (List.set (EvtCells (evA 3 a) none 0) 2 (.int .i64 x)) ∧ (∀ q, q ≠ eb → w5.heap[q]? = w2.heap[q]?) ∧ Below eb w2 w5) := Lib.hid (by rw [← hw5]; exact ⟨HW.out.1.set _ _, fun q hq => (Below.heap_setCell w2 ⟨eb, 2, none⟩ _ q hq).trans (HW.out.2.1 q hq), HW.out.2.2.setCell (p := ⟨eb, 2, none⟩) (Nat.le_refl _) _⟩)
        clear hw5 HW
        have HW := HW2
        clear HW2
        have t1 : w5.cell? ⟨g, 1, none⟩ = some (.int .i64 y) := (World.cell?_of_block (HW.out.2.1 g hge)).trans (HGC.out 1 y rfl)
        have fc := HW.out.1.cell (j := 3) rfl
        have ff := HW.out.1.frozen 3
        go_upto_region 14 with fail
        clear fc ff
        obtain ⟨w6, hw6⟩ : ∃ W, w5.setCell ⟨eb, 3, none⟩ (.int .i64 y) = W := ⟨_, rfl⟩
        rw [hw6]
        have HW2 : Hid (Blk w6 eb 37 (List.set ((EvtCells (evA 3 a) none 0).set 2 (.int .i64 x)) 3 (.int .i64 y)) ∧ (∀ q, q ≠ eb → w6.heap[q]? = w2.heap[q]?) ∧ Below eb w2 w6) := Lib.hid (by rw [← hw6]; exact ⟨HW.out.1.set _ _, fun q hq => (Below.heap_setCell w5 ⟨eb, 3, none⟩ _ q hq).trans (HW.out.2.1 q hq), HW.out.2.2.setCell (p := ⟨eb, 3, none⟩) (Nat.le_refl _) _⟩)
        clear hw6 HW
        have HW := HW2
        clear HW2
        have t2 : w6.cell? ⟨g, 2, none⟩ = some (.int .i64 z) := (World.cell?_of_block (HW.out.2.1 g hge)).trans (HGC.out 2 z rfl)
        have fc := HW.out.1.cell (j := 4) rfl
        have ff := HW.out.1.frozen 4
        go_upto_region 18 with fail
        clear fc ff
        obtain ⟨w7, hw7⟩ : ∃ W, w6.setCell ⟨eb, 4, none⟩ (.int .i64 z) = W := ⟨_, rfl⟩
        rw [hw7]
        have HW2 : Hid (Blk w7 eb 37 (List.set (((EvtCells (evA 3 a) none 0).set 2 (.int .i64 x)).set 3 (.int .i64 y)) 4 (.int .i64 z)) ∧ (∀ q, q ≠ eb → w7.heap[q]? = w2.heap[q]?) ∧ Below eb w2 w7) := Lib.hid (by rw [← hw7]; exact ⟨HW.out.1.set _ _, fun q hq => (Below.heap_setCell w6 ⟨eb, 4, none⟩ _ q hq).trans (HW.out.2.1 q hq), HW.out.2.2.setCell (p := ⟨eb, 4, none⟩) (Nat.le_refl _) _⟩)
        clear hw7 HW
        have HW := HW2
        clear HW2
        have HE9 : Hid (Blk w7 eb 37 (EvtCells (evtM 3 [a, x, y, z]) none 0)) := Lib.hid (by rw [show EvtCells (evtM 3 [a, x, y, z]) none 0 = _ from rfl]; exact HW.out.1)
        have HR9 : Hid (Blk w7 rb 37 (EvtCells zE none 0)) := Lib.hid ((HW.out.2.1 rb (by omega)).trans HR2.out)
        have HB9 : Hid (Below w.heap.size w w7) := Lib.hid (HBW2.out.trans (HW.out.2.2.mono (by omega)))
        go_wp2_with (first
          | ((with_reducible refine wpList_loadG stEvt _ rfl ⟨eb, 0, none⟩ (EvtCells (evtM 3 [a, x, y, z]) none 0) ?_ ?_ ?_ ?_ ?_); exact rfl; exact rfl; exact (HE9.out).cells; exact (rfl))
          | ((with_reducible refine wpList_storeL stEvt rfl _ _ rfl rb (EvtCells zE none 0) (EvtCells (evtM 3 [a, x, y, z]) none 0) ?_ ?_ ?_ ?_ ?_ (evtC_one _ _ _) ?_); exact rfl; exact rfl; exact (HR9.out); exact rfl; exact (rfl); intro wz k1 k2 k3 k4; have K := Lib.hid (And.intro k1 (And.intro k2 (And.intro k3 k4))); clear k1 k2 k3 k4))
        have HRz : Blk wz rb 37 (EvtCells (evtM 3 [a, x, y, z]) none 0) := K.out.1
        have hbz : Below w.heap.size w wz := (HB9.out).trans (K.out.2.2.2.mono hrb)
        refine bodyPost_ret (v := .tuple #[.agg (EvtCells (evtM 3 [a, x, y, z]) none 0).toArray, .bool true]) (big.res_cell_tmp stEvt Tryz.results78 rfl rfl HRz.cells (rfl)) rfl ?_
        exact ⟨hbz, .inr ⟨_, none, 0, HPO.out, rfl, ⟨Ints.nil, fun h => absurd h (by simp [evtM, ordO])⟩⟩⟩
      · have hbad : m1 + 1 ≠ cntF 3 := by show m1 + 1 ≠ 4; omega
        have hmi : ((m1 : Int) == 3) = false := beq_eq_false_iff_ne.2 (by omega)
        have HEE : Hid (rfldF 3 a L = none) := Lib.hid (HBAD.out hbad)
        go_wp2_with (first
          | ((with_reducible refine wpList_loadG stEvt _ rfl ⟨eb, 0, none⟩ (EvtCells (evA 3 a) none 0) ?_ ?_ ?_ ?_ ?_); exact rfl; exact rfl; exact (HE2.out).cells; exact (rfl))
          | ((with_reducible refine wpList_storeL stEvt rfl _ _ rfl rb (EvtCells zE none 0) (EvtCells (evA 3 a) none 0) ?_ ?_ ?_ ?_ ?_ (evtC_one _ _ _) ?_); exact rfl; exact rfl; exact (HR2.out); exact rfl; exact (rfl); intro wz k1 k2 k3 k4; have K := Lib.hid (And.intro k1 (And.intro k2 (And.intro k3 k4))); clear k1 k2 k3 k4))
        have HRz : Blk wz rb 37 (EvtCells (evA 3 a) none 0) := K.out.1
        have hbz : Below w.heap.size w wz := (HBW2.out).trans (K.out.2.2.2.mono hrb)
        refine bodyPost_ret (v := .tuple #[.agg (EvtCells (evA 3 a) none 0).toArray, .bool false]) (big.res_cell_tmp stEvt Tryz.results78 rfl rfl HRz.cells (rfl)) rfl ?_
        exact ⟨hbz, .inl ⟨HEE.out, _, rfl, evtC_one _ _ _, rfl⟩⟩
    · obtain rfl : k = 5 := by omega
      by_cases hm : m1 = 2
      · obtain ⟨g, hA, hge, hgc⟩ := HG.out (by omega)
        subst hA
        obtain ⟨x, y, rfl⟩ : ∃ x y, ns = [x, y] := by
          have h := HM1.out
          rw [hm] at h
          match ns, h with
          | [x, y], _ => exact ⟨x, y, rfl⟩
        have HPO : Hid (rfldF 5 a L = some (evtM 5 [a, x, y])) := Lib.hid (HGOOD.out (by rw [hm]; rfl))
        have HGC := Lib.hid hgc
        subst hm
        clear hgc HGOOD HBAD HG
        have t0 : w2.cell? ⟨g, 0, none⟩ = some (.int .i64 x) := HGC.out 0 x rfl
        have fc := HW.out.1.cell (j := 2) rfl
        have ff := HW.out.1.frozen 2
        go_upto_region 17 with fail
        clear fc ff
        obtain ⟨w5, hw5⟩ : ∃ W, w2.setCell ⟨eb, 2, none⟩ (.int .i64 x) = W := ⟨_, rfl⟩
        rw [hw5]
        have HW2 : Hid (Blk w5 eb 37 (List.set (EvtCells (evA 5 a) none 0) 2 (.int .i64 x)) ∧ (∀ q, q ≠ eb → w5.heap[q]? = w2.heap[q]?) ∧ Below eb w2 w5) := Lib.hid (by rw [← hw5]; exact ⟨HW.out.1.set _ _, fun q hq => (Below.heap_setCell w2 ⟨eb, 2, none⟩ _ q hq).trans (HW.out.2.1 q hq), HW.out.2.2.setCell (p := ⟨eb, 2, none⟩) (Nat.le_refl _) _⟩)
        clear hw5 HW
        have HW := HW2
        clear HW2
        have t1 : w5.cell? ⟨g, 1, none⟩ = some (.int .i64 y) := (World.cell?_of_block (HW.out.2.1 g hge)).trans (HGC.out 1 y rfl)
        have fc := HW.out.1.cell (j := 4) rfl
        have ff := HW.out.1.frozen 4
        go_upto_region 18 with fail
        clear fc ff
        obtain ⟨w6, hw6⟩ : ∃ W, w5.setCell ⟨eb, 4, none⟩ (.int .i64 y) = W := ⟨_, rfl⟩
        rw [hw6]
        have HW2 : Hid (Blk w6 eb 37 (List.set ((EvtCells (evA 5 a) none 0).set 2 (.int .i64 x)) 4 (.int .i64 y)) ∧ (∀ q, q ≠ eb → w6.heap[q]? = w2.heap[q]?) ∧ Below eb w2 w6) := Lib.hid (by rw [← hw6]; exact ⟨HW.out.1.set _ _, fun q hq => (Below.heap_setCell w5 ⟨eb, 4, none⟩ _ q hq).trans (HW.out.2.1 q hq), HW.out.2.2.setCell (p := ⟨eb, 4, none⟩) (Nat.le_refl _) _⟩)
        clear hw6 HW
        have HW := HW2
        clear HW2
        have HE9 : Hid (Blk w6 eb 37 (EvtCells (evtM 5 [a, x, y]) none 0)) := Lib.hid (by rw [show EvtCells (evtM 5 [a, x, y]) none 0 = _ from rfl]; exact HW.out.1)
        have HR9 : Hid (Blk w6 rb 37 (EvtCells zE none 0)) := Lib.hid ((HW.out.2.1 rb (by omega)).trans HR2.out)
        have HB9 : Hid (Below w.heap.size w w6) := Lib.hid (HBW2.out.trans (HW.out.2.2.mono (by omega)))
        go_wp2_with (first
          | ((with_reducible refine wpList_loadG stEvt _ rfl ⟨eb, 0, none⟩ (EvtCells (evtM 5 [a, x, y]) none 0) ?_ ?_ ?_ ?_ ?_); exact rfl; exact rfl; exact (HE9.out).cells; exact (rfl))
          | ((with_reducible refine wpList_storeL stEvt rfl _ _ rfl rb (EvtCells zE none 0) (EvtCells (evtM 5 [a, x, y]) none 0) ?_ ?_ ?_ ?_ ?_ (evtC_one _ _ _) ?_); exact rfl; exact rfl; exact (HR9.out); exact rfl; exact (rfl); intro wz k1 k2 k3 k4; have K := Lib.hid (And.intro k1 (And.intro k2 (And.intro k3 k4))); clear k1 k2 k3 k4))
        have HRz : Blk wz rb 37 (EvtCells (evtM 5 [a, x, y]) none 0) := K.out.1
        have hbz : Below w.heap.size w wz := (HB9.out).trans (K.out.2.2.2.mono hrb)
        refine bodyPost_ret (v := .tuple #[.agg (EvtCells (evtM 5 [a, x, y]) none 0).toArray, .bool true]) (big.res_cell_tmp stEvt Tryz.results78 rfl rfl HRz.cells (rfl)) rfl ?_
        exact ⟨hbz, .inr ⟨_, none, 0, HPO.out, rfl, ⟨Ints.nil, fun h => absurd h (by simp [evtM, ordO])⟩⟩⟩
      · have hbad : m1 + 1 ≠ cntF 5 := by show m1 + 1 ≠ 3; omega
        have hmi : ((m1 : Int) == 2) = false := beq_eq_false_iff_ne.2 (by omega)
        have HEE : Hid (rfldF 5 a L = none) := Lib.hid (HBAD.out hbad)
        go_wp2_with (first
          | ((with_reducible refine wpList_loadG stEvt _ rfl ⟨eb, 0, none⟩ (EvtCells (evA 5 a) none 0) ?_ ?_ ?_ ?_ ?_); exact rfl; exact rfl; exact (HE2.out).cells; exact (rfl))
          | ((with_reducible refine wpList_storeL stEvt rfl _ _ rfl rb (EvtCells zE none 0) (EvtCells (evA 5 a) none 0) ?_ ?_ ?_ ?_ ?_ (evtC_one _ _ _) ?_); exact rfl; exact rfl; exact (HR2.out); exact rfl; exact (rfl); intro wz k1 k2 k3 k4; have K := Lib.hid (And.intro k1 (And.intro k2 (And.intro k3 k4))); clear k1 k2 k3 k4))
        have HRz : Blk wz rb 37 (EvtCells (evA 5 a) none 0) := K.out.1
        have hbz : Below w.heap.size w wz := (HBW2.out).trans (K.out.2.2.2.mono hrb)
        refine bodyPost_ret (v := .tuple #[.agg (EvtCells (evA 5 a) none 0).toArray, .bool false]) (big.res_cell_tmp stEvt Tryz.results78 rfl rfl HRz.cells (rfl)) rfl ?_
        exact ⟨hbz, .inl ⟨HEE.out, _, rfl, evtC_one _ _ _, rfl⟩⟩
end Go.Proofs.YtofabhenmplkoaaGreatDoor.evt

/- The reference's Parse. -/
namespace Go.Proofs.YtofabhenmplkoaaGreatDoor.evt
open Go.RowKit
open Go.Proofs.YtofabhenmplkoaaGreatDoor.lib Go.Proofs.YtofabhenmplkoaaGreatDoor.rd Go.Proofs.YtofabhenmplkoaaGreatDoor.app Go.Proofs.YtofabhenmplkoaaGreatDoor.els Go.Proofs.YtofabhenmplkoaaGreatDoor.typ Go.Proofs.YtofabhenmplkoaaGreatDoor.big Go.Proofs.YtofabhenmplkoaaGreatDoor.ins Go.Proofs.YtofabhenmplkoaaGreatDoor.ord
open Go.Proofs.YtofabhenmplkoaaGreatDoor.gen hiding zOrd bOrd
open Go.Proofs.YtofabhenmplkoaaGreatDoor.off (setM step_storeM wpList_storeM intsOff_keep)
open Go.Proofs.YtofabhenmplkoaaGreatDoor.txt (in64 By strV strV_of joinS decW elem_str nameB toList_data Strs numL own_cap rnumber_any rwords_any WordsOk WdOut)
set_option linter.unusedVariables false
set_option linter.unusedSimpArgs false

theorem blank_of {e : Evt} (h : prtE e = 0) (h1 : e.kind ≠ 1) : e.order = ordO := by
  have hc := prt_clean h
  unfold cleanB at hc
  rw [if_neg h1] at hc
  apply blank_ord
  split at hc
  · exact hc
  split at hc
  · rw [Bool.and_eq_true] at hc; exact hc.2
  · rw [Bool.and_eq_true, Bool.and_eq_true] at hc; exact hc.2.2
theorem line_small {s : By} {e : Evt} (h : LineOf s e) : e.order.name.size ≤ 16 ∧ e.order.load.length ≤ 3 := by
  by_cases hk : e.kind = 1
  · obtain ⟨_, h2, h3⟩ := prt_order h.1 hk
    refine ⟨?_, h3⟩
    unfold Go.Proofs.YtofabhenmplkoaaGreatDoor.txt.nameB at h2
    rw [Bool.and_eq_true, Bool.and_eq_true] at h2
    exact (of_decide_eq_true h2.1.1).2
  · rw [blank_of h.1 hk]
    exact ⟨by decide, by decide⟩
theorem evt_fill2 (k a : Int) : Instr.fill ((#[(0, 1), (1, 1), (2, 1), (3, 1), (4, 1), (5, 16)] : Array (Nat × Nat))[·]?) (Value.agg (EvtCells zE none 0).toArray).cells [(1, .int .i64 k), (0, .int .i64 a)] = some (EvtCells (evA k a) none 0).toArray := by kernel_rfl
theorem setM_full {vs xs : List Value} (h : vs.length = xs.length) : setM xs 0 vs = vs := List.ext_getElem? fun n => by
  rw [off.setM_at vs xs 0 (by omega) n]
  split
  · simp
  · rename_i h1
    rw [List.getElem?_eq_none (by omega), List.getElem?_eq_none (by omega)]
def FxOut (w1 : World) (kd v : Int) (r : List By) (cs : List Value) (ok : Bool) (wx : World) (P : Nat → Prop) : Prop := cs.length = 21 ∧ (∀ u ∈ cs, u.oneCell' = true) ∧ (ok = false → rfldF kd v r = none) ∧ (ok = true → ∃ e C c, rfldF kd v r = some e ∧ cs = EvtCells e C c ∧ IntsOff wx P C e.order.load)
set_option maxRecDepth 20000 in
set_option maxHeartbeats 8000000 in
theorem rparse_any (s : ByteArray) (hs : s.size ≤ 60000) (w : World) : Calls Tryz.prog 26 #[.string s] w (PsOut s.data.toList w) := by
  obtain ⟨W0, hW0⟩ : ∃ W0, w.alloc (.cells (EvtCells zE none 0).toArray 37) = W0 := ⟨_, rfl⟩
  have hB0 : Below w.heap.size w W0 := by rw [← hW0]; exact (Below.refl _ _).alloc (Nat.le_refl _) _
  have z0 := hB0.size
  have b0 : Blk W0 w.heap.size 37 (EvtCells zE none 0) := by rw [← hW0]; exact Blk.new w _ _
  obtain ⟨rb, hrb0⟩ : ∃ b, w.heap.size = b := ⟨_, rfl⟩
  have hrb : w.heap.size ≤ rb := by omega
  have zz : rb < W0.heap.size := by rw [← hrb0]; exact b0.lt
  have HB0 := Lib.hid hB0
  have HR0 := Lib.hid b0
  have HW0 := Lib.hid (show w.alloc (.cells #[.int .i64 0, .int .i64 0, .int .i64 0, .int .i64 0, .int .i64 0, .string ⟨#[]⟩, .slice none 0 0, .int .i64 0, .int .i64 0, .int .i64 0, .int .i64 0, .int .i64 0, .int .i64 0, .int .i64 0, .int .i64 0, .int .i64 0, .int .i64 0, .int .i64 0, .int .i64 0, .int .i64 0, .bool false] 37) = W0 from hW0)
  have hs2 : ¬ (65536 : Int) < (s.size : Int) := by omega
  obtain ⟨S, hS⟩ : ∃ S, s.data.toList = S := ⟨_, rfl⟩
  have HS := Lib.hid hS
  have HSL : Hid (S.length ≤ 60000) := Lib.hid (by rw [← hS]; simpa using hs)
  have hwd : Calls Tryz.prog 75 #[.string s] W0 (WdOut S W0) := by rw [← hS]; exact rwords_any s (by omega) W0
  rw [hS]
  clear b0 hB0 hW0 hS
  go_enter Tryz.func26, Tryz.ntmps26
  go_upto_region 1 with fail
  rw [HW0.out]
  rw [hrb0] at HR0
  clear HW0
  have hwd2 : Calls Tryz.prog 75 #[.string s] W0 fun e w' => ∃ (A : Option Addr) (n c : Nat) (f : Int) (L : List By), e = .returned (.tuple #[.slice A n c, .int .i64 f]) ∧ Below W0.heap.size W0 w' ∧ (f = 3 ∧ WordsOk S none ∨ f = 0 ∧ WordsOk S (some L) ∧ n = L.length ∧ n ≤ c ∧ Strs w' w'.heap.size A L) := hwd.mono (by
    rintro e w' ⟨hb, ⟨rfl, h⟩ | ⟨L, A, c, rfl, h1, h2, h3⟩⟩
    · exact ⟨none, 0, 0, 3, [], rfl, hb, .inl ⟨rfl, h⟩⟩
    · exact ⟨A, L.length, c, 0, L, rfl, hb, .inr ⟨rfl, h1, rfl, h2, h3⟩⟩)
  clear hwd
  go_upto_region 4 with (go_at_call 75; refine hwd2.mono ?_; rintro e1 w1 ⟨A, n, c, f, L, rfl, hb1, h9⟩; have HWO := Lib.hid h9; clear h9)
  have HB1 := Lib.hid hb1
  have z1 := hb1.size
  have HR1 : Hid (Blk w1 rb 37 (EvtCells zE none 0)) := Lib.hid ((hb1.block rb zz).trans HR0.out)
  have HBW1 := Lib.hid (HB0.out.trans (hb1.mono z0))
  clear hb1 hwd2
  rcases HWO.out with ⟨hf, hwo⟩ | ⟨hf, hwo, hnL, hnc, hst⟩
  · subst hf
    have HEE : Hid (ParseOk S none) := Lib.hid (ParseOk.ref hwo)
    clear hwo
    go_wp2_with (first
      | fail
      | ((with_reducible refine wpList_buildL bEvt rfl [] rfl [] (EvtCells zE none 0) ?_ evt_fill0 ?_); exact rfl)
      | ((with_reducible refine wpList_storeL stEvt rfl _ _ rfl (rb) (EvtCells zE none 0) (EvtCells zE none 0) ?_ ?_ ?_ ?_ ?_ (evtC_one _ _ _) ?_); exact rfl; exact rfl; exact (HR1.out); exact rfl; exact (rfl); intro wz k1 k2 k3 k4; have K := Lib.hid (And.intro k1 (And.intro k2 (And.intro k3 k4))); clear k1 k2 k3 k4))
    have HRz : Blk wz rb 37 (EvtCells zE none 0) := K.out.1
    refine bodyPost_ret (v := .tuple #[.agg (EvtCells zE none 0).toArray, .int .i64 3]) (big.res_cell_tmp stEvt Tryz.results26 rfl rfl HRz.cells rfl) rfl ?_
    exact ⟨(HBW1.out).trans (K.out.2.2.2.mono hrb), .inl ⟨HEE.out, rfl⟩⟩
  subst hf
  have HPK : Hid (ParseOk S (rparF L)) := Lib.hid (ParseOk.ref hwo)
  have hml : ∀ x ∈ L, x.length ≤ 100000 := fun x hx => by
    rcases hwo.join L rfl with ⟨_, h⟩ | ⟨h, _⟩
    · have := mem_join hx
      rw [← h] at this
      have := HSL.out
      omega
    · rw [h] at hx; cases hx
  have HML := Lib.hid hml
  have HNL := Lib.hid hnL
  have HST := Lib.hid hst
  clear hwo hnL hst hml HWO
  by_cases h3 : n < 3
  · have h3' : (n : Int) < 3 := by omega
    have HEE : Hid (ParseOk S none) := Lib.hid (by
      have h := HPK.out
      have hn := HNL.out
      match L, h, hn with
      | [], h, _ => exact h
      | [x], h, _ => exact h
      | [x, y], h, _ => exact h
      | x :: y :: z :: r, _, hn => simp at hn; omega)
    go_wp2_with (first
      | fail
      | ((with_reducible refine wpList_buildL bEvt rfl [] rfl [] (EvtCells zE none 0) ?_ evt_fill0 ?_); exact rfl)
      | ((with_reducible refine wpList_storeL stEvt rfl _ _ rfl (rb) (EvtCells zE none 0) (EvtCells zE none 0) ?_ ?_ ?_ ?_ ?_ (evtC_one _ _ _) ?_); exact rfl; exact rfl; exact (HR1.out); exact rfl; exact (rfl); intro wz k1 k2 k3 k4; have K := Lib.hid (And.intro k1 (And.intro k2 (And.intro k3 k4))); clear k1 k2 k3 k4))
    have HRz : Blk wz rb 37 (EvtCells zE none 0) := K.out.1
    refine bodyPost_ret (v := .tuple #[.agg (EvtCells zE none 0).toArray, .int .i64 3]) (big.res_cell_tmp stEvt Tryz.results26 rfl rfl HRz.cells rfl) rfl ?_
    exact ⟨(HBW1.out).trans (K.out.2.2.2.mono hrb), .inl ⟨HEE.out, rfl⟩⟩
  have h3' : ¬ (n : Int) < 3 := by omega
  obtain ⟨ad, x0, hA, hadb, hx0, hcell0⟩ := HST.out.at_ (k := 0) (by rw [← HNL.out]; omega)
  obtain ⟨ad1, x1, hA1, _, hx1, hcell1⟩ := HST.out.at_ (k := 1) (by rw [← HNL.out]; omega)
  subst hA
  obtain rfl : ad = ad1 := Option.some.inj hA1
  obtain ⟨r, hLr⟩ : ∃ r, L = x0 :: x1 :: r := by
    cases L with
    | nil => cases hx0
    | cons y q =>
      cases q with
      | nil => cases hx1
      | cons z r => exact ⟨r, by rw [show y = x0 from Option.some.inj hx0, show z = x1 from Option.some.inj hx1]⟩
  have HLR := Lib.hid hLr
  have hrn : r.length = n - 2 := by rw [HNL.out, hLr]; simp
  have HRN := Lib.hid hrn
  have hrne : r ≠ [] := by intro e; rw [e] at hrn; simp at hrn; omega
  obtain ⟨kd, hK⟩ : ∃ K, kindF x0 = K := ⟨_, rfl⟩
  have hKi := kindF_in x0
  rw [hK] at hKi
  have hkc : ∀ w', Calls Tryz.prog 76 #[.string ⟨x0.toArray⟩] w' fun en w'' => en = .returned (.int .i64 kd) ∧ w' = w'' := fun w' => by rw [← hK]; exact rkinded_any x0 w'
  have HKC := Lib.hid hkc
  have HPF : Hid (rparF L = if kd = 0 then none else if ¬ (numL x1).2 = 0 then none else rfldF kd (numL x1).1 r) := Lib.hid (by
    rw [hLr]
    show (if r = [] ∨ kindF x0 = 0 then none else if ¬ (numL x1).2 = 0 then none else rfldF (kindF x0) (numL x1).1 r) = _
    rw [hK]
    by_cases h0 : kd = 0
    · rw [if_pos (.inr h0), if_pos h0]
    · rw [if_neg (by rintro (h | h); exact hrne h; exact h0 h), if_neg h0])
  have q0 : w1.cell? ad = some (.string ⟨x0.toArray⟩) := hcell0
  have q1 : w1.cell? ⟨ad.block, ad.off + 1, none⟩ = some (.string ⟨x1.toArray⟩) := hcell1
  have HSD : Hid (∀ w', Below w1.heap.size w1 w' → Strs w' w'.heap.size (some ⟨ad.block, ad.off + 2, none⟩) r) := Lib.hid (fun w' h => by
    have h1 := Strs.dropS HST.out 2 (by rw [← HNL.out]; omega)
    rw [hLr] at h1
    exact (h1.below h).more h.size)
  have HMR : Hid (∀ x ∈ r, x.length ≤ 100000) := Lib.hid (fun x hx => HML.out x (by rw [hLr]; exact List.mem_cons_of_mem _ (List.mem_cons_of_mem _ hx)))
  have hx1l : x1.length ≤ 100000 := HML.out x1 (by rw [hLr]; exact List.mem_cons_of_mem _ (List.mem_cons_self ..))
  obtain ⟨v, hv⟩ : ∃ v, (numL x1).1 = v := ⟨_, rfl⟩
  obtain ⟨f, hf⟩ : ∃ f, (numL x1).2 = f := ⟨_, rfl⟩
  have hnum : ∀ w', Calls Tryz.prog 77 #[.string ⟨x1.toArray⟩] w' fun e w'' => e = .returned (.tuple #[.int .i64 v, .int .i64 f]) ∧ w' = w'' := fun w' => by
    have h1 := rnumber_any ⟨x1.toArray⟩ (by show x1.toArray.size ≤ _; simp; omega) w'
    have e : (⟨x1.toArray⟩ : ByteArray).data.toList = x1 := rfl
    rw [e, hv, hf] at h1
    exact h1
  have HNUM := Lib.hid hnum
  rw [hv, hf] at HPF
  have hn0 : 0 < n := by omega
  have hn1 : 1 < n := by omega
  have hadb1 : ad.block < w1.heap.size := by omega
  have Q0 : Hid (∀ w', Below w1.heap.size w1 w' → w'.cell? ad = some (.string ⟨x0.toArray⟩)) := Lib.hid (fun w' h => (h.cell hadb1).trans q0)
  clear hx0 hx1 hcell0 hcell1 hA1 hLr hrn hrne hK hkc hv hf hnum
  by_cases hk0 : kd = 0
  · have hk0b : (kd == 0) = true := by simp [hk0]
    have HEE : Hid (ParseOk S none) := Lib.hid (by have h := HPK.out; rw [HPF.out, if_pos hk0] at h; exact h)
    go_wp2_with (first
      | (go_at_call 76; refine (HKC.out _).mono ?_; rintro e2 w2 ⟨rfl, rfl⟩)
      | ((with_reducible refine wpList_buildL bEvt rfl [] rfl [] (EvtCells zE none 0) ?_ evt_fill0 ?_); exact rfl)
      | ((with_reducible refine wpList_storeL stEvt rfl _ _ rfl (rb) (EvtCells zE none 0) (EvtCells zE none 0) ?_ ?_ ?_ ?_ ?_ (evtC_one _ _ _) ?_); exact rfl; exact rfl; exact (HR1.out); exact rfl; exact (rfl); intro wz k1 k2 k3 k4; have K := Lib.hid (And.intro k1 (And.intro k2 (And.intro k3 k4))); clear k1 k2 k3 k4))
    have HRz : Blk wz rb 37 (EvtCells zE none 0) := K.out.1
    refine bodyPost_ret (v := .tuple #[.agg (EvtCells zE none 0).toArray, .int .i64 3]) (big.res_cell_tmp stEvt Tryz.results26 rfl rfl HRz.cells rfl) rfl ?_
    exact ⟨(HBW1.out).trans (K.out.2.2.2.mono hrb), .inl ⟨HEE.out, rfl⟩⟩
  have hk0b : (kd == 0) = false := by simp [hk0]
  by_cases hf0 : f = 0
  case neg =>
    have hf1 : (f != 0) = true := by simpa using hf0
    have HEE : Hid (ParseOk S none) := Lib.hid (by have h := HPK.out; rw [HPF.out, if_neg hk0, if_pos hf0] at h; exact h)
    go_wp2_with (first
      | (first | (go_at_call 76; refine (HKC.out _).mono ?_; rintro e2 w2 ⟨rfl, rfl⟩) | (go_at_call 77; refine (HNUM.out _).mono ?_; rintro e2 w2 ⟨rfl, rfl⟩))
      | ((with_reducible refine wpList_buildL bEvt rfl [] rfl [] (EvtCells zE none 0) ?_ evt_fill0 ?_); exact rfl)
      | ((with_reducible refine wpList_storeL stEvt rfl _ _ rfl (rb) (EvtCells zE none 0) (EvtCells zE none 0) ?_ ?_ ?_ ?_ ?_ (evtC_one _ _ _) ?_); exact rfl; exact rfl; exact (HR1.out); exact rfl; exact (rfl); intro wz k1 k2 k3 k4; have K := Lib.hid (And.intro k1 (And.intro k2 (And.intro k3 k4))); clear k1 k2 k3 k4))
    have HRz : Blk wz rb 37 (EvtCells zE none 0) := K.out.1
    refine bodyPost_ret (v := .tuple #[.agg (EvtCells zE none 0).toArray, .int .i64 3]) (big.res_cell_tmp stEvt Tryz.results26 rfl rfl HRz.cells rfl) rfl ?_
    exact ⟨(HBW1.out).trans (K.out.2.2.2.mono hrb), .inl ⟨HEE.out, rfl⟩⟩
  subst hf0
  have HPR : Hid (rparF L = rfldF kd v r) := Lib.hid (by rw [HPF.out, if_neg hk0, if_neg (by decide)])
  have hn2 : 2 ≤ (n : Int) := by omega
  have hc2 : ¬ c = 2 := by omega
  have hkr : 1 ≤ kd ∧ kd ≤ 5 := by omega
  have HFD : Hid (∀ w', Below w1.heap.size w1 w' → Calls Tryz.prog 78 #[.agg (EvtCells (evA kd v) none 0).toArray, .slice (some ⟨ad.block, ad.off + 2, none⟩) (n - 2) (c - 2)] w' fun en w'' => ∃ (cs : List Value) (ok : Bool), en = .returned (.tuple #[.agg cs.toArray, .bool ok]) ∧ Below w'.heap.size w' w'' ∧ FxOut w1 kd v r cs ok w'' (fun b => w'.heap.size ≤ b)) := Lib.hid (fun w' h => (rfields_any kd v hkr r _ (n - 2) (c - 2) (by have := HRN.out; omega) (by omega) w' (HSD.out w' h) HMR.out).mono (by
    rintro e w'' ⟨hb, ⟨h, cs, h1, h2, rfl⟩ | ⟨e, C, cc, h, rfl, hi⟩⟩
    · exact ⟨cs, false, rfl, hb, h1, h2, fun _ => h, fun e => (by cases e)⟩
    · exact ⟨_, true, rfl, hb, rfl, evtC_one _ _ _, fun e => (by cases e), fun _ => ⟨e, C, cc, h, rfl, hi⟩⟩))
  clear hkr hKi HPF HSD HST
  go_upto_region 9 with (first | (go_at_call 76; refine (HKC.out _).mono ?_; rintro e2 w2 ⟨rfl, rfl⟩) | (go_at_call 77; refine (HNUM.out _).mono ?_; rintro e2 w2 ⟨rfl, rfl⟩))
  (try simp only [Act.put, List.getElem_toArray, List.getElem_cons_succ, List.getElem_cons_zero, List.setIfInBounds_toArray, List.set_cons_zero, List.set_cons_succ])
  go_cut [7, 8] (fun p b wx => ∃ (eb : Nat) (cs : List Value) (ok : Bool), p = .pointer (some ⟨eb, 0, none⟩) ∧ b = .bool ok ∧ w1.heap.size ≤ eb ∧ Blk wx eb 37 cs ∧ FxOut w1 kd v r cs ok wx (fun b => w1.heap.size ≤ b ∧ b ≠ eb) ∧ Below w1.heap.size w1 wx)
  case first => as_aux_lemma =>
    (refine wp_region_held_drew (S := (fun w' => w'.cell? ad = some (.string ⟨x0.toArray⟩))) (by kernel_rfl) ?_ (fun hHeld => ?_))
    · exact q0
    obtain ⟨wd, hwd⟩ : ∃ W, w1.drew = W := ⟨_, rfl⟩
    rw [hwd] at hHeld ⊢
    have bd : Below w1.heap.size w1 wd := by rw [← hwd]; exact (Below.refl _ _).drew
    have BD := Lib.hid bd
    have zd := bd.size
    clear hwd bd q0 q1
    (refine wpAnyH_take (i := 0) (v := ?_) rfl (by kernel_rfl) (by kernel_rfl) (by kernel_rfl) (fun _ _ _ h => h) (Or.inl ⟨by kernel_rfl, ?_⟩) (by assumption) ?_; rotate_left; (focus (intro w hSw; (try dsimp only at hSw); go_simp; all_goals with_reducible rfl)); (try simp only [Act.put, List.getElem_toArray, List.getElem_cons_succ, List.getElem_cons_zero, List.setIfInBounds_toArray, List.set_cons_zero, List.set_cons_succ]))
    (refine wpAnyH_take (i := 1) (v := ?_) rfl (by kernel_rfl) (by kernel_rfl) (by kernel_rfl) (fun _ _ _ h => h) (Or.inl ⟨by kernel_rfl, ?_⟩) (by assumption) ?_; rotate_left; (focus (intro w hSw; (try dsimp only at hSw); go_simp; all_goals with_reducible rfl)); (try simp only [Act.put, List.getElem_toArray, List.getElem_cons_succ, List.getElem_cons_zero, List.setIfInBounds_toArray, List.set_cons_zero, List.set_cons_succ]))
    (refine wpAnyH_take (i := 2) (v := ?_) rfl (by kernel_rfl) (by kernel_rfl) (by kernel_rfl) (fun _ _ _ h => h) (Or.inl ⟨by kernel_rfl, ?_⟩) (by assumption) ?_; rotate_left; (focus (intro w hSw; (try dsimp only at hSw); go_simp; all_goals with_reducible rfl)); (try simp only [Act.put, List.getElem_toArray, List.getElem_cons_succ, List.getElem_cons_zero, List.setIfInBounds_toArray, List.set_cons_zero, List.set_cons_succ]))
    (refine wpAnyH_take (i := 4) (v := ?_) rfl (by kernel_rfl) (by kernel_rfl) (by kernel_rfl) (fun _ _ _ h => h) (Or.inl ⟨by kernel_rfl, ?_⟩) (by assumption) ?_; rotate_left; (focus (intro w hSw; (try dsimp only at hSw); go_simp; all_goals with_reducible rfl)); (try simp only [Act.put, List.getElem_toArray, List.getElem_cons_succ, List.getElem_cons_zero, List.setIfInBounds_toArray, List.set_cons_zero, List.set_cons_succ]))
    (refine wpAnyH_take (i := 6) (v := ?_) rfl (by kernel_rfl) (by kernel_rfl) (by kernel_rfl) (fun _ _ _ h => h) (Or.inl ⟨by kernel_rfl, ?_⟩) (by assumption) ?_; rotate_left; (focus (intro w hSw; (try dsimp only at hSw); go_simp; all_goals with_reducible rfl)); (try simp only [Act.put, List.getElem_toArray, List.getElem_cons_succ, List.getElem_cons_zero, List.setIfInBounds_toArray, List.set_cons_zero, List.set_cons_succ]))
    (refine wpAnyH_take (i := 7) (v := ?_) rfl (by kernel_rfl) (by kernel_rfl) (by kernel_rfl) (fun _ _ _ h => h) (Or.inl ⟨by kernel_rfl, ?_⟩) (by assumption) ?_; rotate_left; (focus (intro w hSw; (try dsimp only at hSw); go_simp; all_goals with_reducible rfl)); (try simp only [Act.put, List.getElem_toArray, List.getElem_cons_succ, List.getElem_cons_zero, List.setIfInBounds_toArray, List.set_cons_zero, List.set_cons_succ]))
    have ba0 : Below wd.heap.size wd (wd.alloc (.cells (EvtCells zE none 0).toArray 37)) := (Below.refl _ _).alloc (Nat.le_refl _) _
    have hea0 : Blk (wd.alloc (.cells (EvtCells zE none 0).toArray 37)) wd.heap.size 37 (EvtCells zE none 0) := Blk.new wd _ _
    obtain ⟨wa, hwa⟩ : ∃ W, wd.alloc (.cells (EvtCells zE none 0).toArray 37) = W := ⟨_, rfl⟩
    have hwa' : wd.alloc (.cells #[.int .i64 0, .int .i64 0, .int .i64 0, .int .i64 0, .int .i64 0, .string ⟨#[]⟩, .slice none 0 0, .int .i64 0, .int .i64 0, .int .i64 0, .int .i64 0, .int .i64 0, .int .i64 0, .int .i64 0, .int .i64 0, .int .i64 0, .int .i64 0, .int .i64 0, .int .i64 0, .int .i64 0, .bool false] 37) = wa := hwa
    rw [hwa] at ba0 hea0
    have BA := Lib.hid (BD.out.trans (ba0.mono zd))
    have HEA := Lib.hid hea0
    have HWA := Lib.hid hwa'
    clear hwa hwa' ba0 hea0
    refine wpAnyH_ready (rs := [3, 12]) (by kernel_rfl) (by simp) ?_
    refine AllReadyH.cons rfl (fun K hK => ?_) (AllReadyH.cons rfl (fun K hK => ?_) AllReadyH.nil)
    · go_simp
      refine (HKC.out _).mono ?_
      rintro e2 w2 ⟨rfl, rfl⟩
      refine hK.out _ _ ((Q0.out _ BD.out)) (fun hHeld => ?_)
      clear hK K
      (try simp only [Act.put, List.getElem_toArray, List.getElem_cons_succ, List.getElem_cons_zero, List.setIfInBounds_toArray, List.set_cons_zero, List.set_cons_succ])
      (refine wpAnyH_take (i := 5) (v := _) rfl (by kernel_rfl) (by kernel_rfl) (by kernel_rfl) (fun _ _ _ h => h) (Or.inl ⟨by kernel_rfl, fun _ hSw => exec_buildL bEvt _ rfl [(1, .int .i64 kd), (0, .int .i64 v)] (EvtCells (evA kd v) none 0) rfl (evt_fill2 kd v)⟩) (by assumption) ?_; (try simp only [Act.put, List.getElem_toArray, List.getElem_cons_succ, List.getElem_cons_zero, List.setIfInBounds_toArray, List.set_cons_zero, List.set_cons_succ]))
      refine wpAnyH_ready (rs := [8, 12]) (by kernel_rfl) (by simp) ?_
      refine AllReadyH.cons rfl (fun K hK => ?_) (AllReadyH.cons rfl (fun K hK => ?_) AllReadyH.nil)
      · go_simp
        refine (HFD.out wd BD.out).mono ?_
        rintro e3 w3 ⟨cs, ok, rfl, hb3, hx3⟩
        have HB3 := Lib.hid (BD.out.trans (hb3.mono zd))
        have HX3 := Lib.hid hx3
        have z3 := hb3.size
        clear hb3 hx3
        refine hK.out _ _ ((Q0.out _ HB3.out)) (fun hHeld => ?_)
        clear hK K
        (try simp only [Act.put, List.getElem_toArray, List.getElem_cons_succ, List.getElem_cons_zero, List.setIfInBounds_toArray, List.set_cons_zero, List.set_cons_succ])
        (refine wpAnyH_take (i := 9) (v := ?_) rfl (by kernel_rfl) (by kernel_rfl) (by kernel_rfl) (fun _ _ _ h => h) (Or.inl ⟨by kernel_rfl, ?_⟩) (by assumption) ?_; rotate_left; (focus (intro w hSw; (try dsimp only at hSw); go_simp; all_goals with_reducible rfl)); (try simp only [Act.put, List.getElem_toArray, List.getElem_cons_succ, List.getElem_cons_zero, List.setIfInBounds_toArray, List.set_cons_zero, List.set_cons_succ]))
        (refine wpAnyH_take (i := 10) (v := ?_) rfl (by kernel_rfl) (by kernel_rfl) (by kernel_rfl) (fun _ _ _ h => h) (Or.inl ⟨by kernel_rfl, ?_⟩) (by assumption) ?_; rotate_left; (focus (intro w hSw; (try dsimp only at hSw); go_simp; all_goals with_reducible rfl)); (try simp only [Act.put, List.getElem_toArray, List.getElem_cons_succ, List.getElem_cons_zero, List.setIfInBounds_toArray, List.set_cons_zero, List.set_cons_succ]))
        (refine wpAnyH_take (i := 11) (v := ?_) rfl (by kernel_rfl) (by kernel_rfl) (by kernel_rfl) (fun _ _ _ h => h) (Or.inl ⟨by kernel_rfl, ?_⟩) (by assumption) ?_; rotate_left; (focus (intro w hSw; (try dsimp only at hSw); go_simp; all_goals with_reducible rfl)); (try simp only [Act.put, List.getElem_toArray, List.getElem_cons_succ, List.getElem_cons_zero, List.setIfInBounds_toArray, List.set_cons_zero, List.set_cons_succ]))
        have hc0 : Blk (w3.alloc (.cells (EvtCells zE none 0).toArray 37)) w3.heap.size 37 (EvtCells zE none 0) := Blk.new w3 _ _
        have bc0 : Below w3.heap.size w3 (w3.alloc (.cells (EvtCells zE none 0).toArray 37)) := (Below.refl _ _).alloc (Nat.le_refl _) _
        obtain ⟨wb, hwb⟩ : ∃ W, w3.alloc (.cells (EvtCells zE none 0).toArray 37) = W := ⟨_, rfl⟩
        have hwb' : w3.alloc (.cells #[.int .i64 0, .int .i64 0, .int .i64 0, .int .i64 0, .int .i64 0, .string ⟨#[]⟩, .slice none 0 0, .int .i64 0, .int .i64 0, .int .i64 0, .int .i64 0, .int .i64 0, .int .i64 0, .int .i64 0, .int .i64 0, .int .i64 0, .int .i64 0, .int .i64 0, .int .i64 0, .int .i64 0, .bool false] 37) = wb := hwb
        rw [hwb] at hc0 bc0
        have HEB := Lib.hid hc0
        have BB := Lib.hid bc0
        have HBB := Lib.hid (HB3.out.trans (bc0.mono HB3.out.size))
        have HWB := Lib.hid hwb'
        clear hwb hwb' hc0 bc0
        (refine wpAnyH_ready (rs := [12]) (by kernel_rfl) (by simp) ?_; refine AllReadyH.cons rfl (fun K hK => ?_) AllReadyH.nil)
        go_simp
        rw [HWB.out]
        refine hK.out _ _ ((Q0.out _ HBB.out)) (fun hHeld => ?_)
        clear hK K
        (try simp only [Act.put, List.getElem_toArray, List.getElem_cons_succ, List.getElem_cons_zero, List.setIfInBounds_toArray, List.set_cons_zero, List.set_cons_succ])
        (refine wpAnyH_ready (rs := [13]) (by kernel_rfl) (by simp) ?_; refine AllReadyH.cons rfl (fun K hK => ?_) AllReadyH.nil)
        have hst := blk_setCells cs 0 _ _ HEB.out
        have hso := fun k h => setCells_other (b := w3.heap.size) cs 0 wb k h
        refine step_storeM stEvt rfl _ _ rfl w3.heap.size 0 cs rfl rfl (blk_there HEB.out (show 0 + 21 ≤ 21 by omega)) HX3.out.1 HX3.out.2.1 ?_
        obtain ⟨w4, hw4⟩ : ∃ W, wb.setCells w3.heap.size 0 cs = W := ⟨_, rfl⟩
        rw [hw4] at hst hso ⊢
        rw [setM_full (vs := cs) (xs := EvtCells zE none 0) HX3.out.1] at hst
        have HS4 := Lib.hid hst
        have HB4 : Hid (Below w1.heap.size w1 w4) := Lib.hid (HBB.out.trans (hst.2.mono HB3.out.size))
        have HX4 : Hid (FxOut w1 kd v r cs ok w4 (fun b => w1.heap.size ≤ b ∧ b ≠ w3.heap.size)) := Lib.hid ⟨HX3.out.1, HX3.out.2.1, HX3.out.2.2.1, fun h => by
          obtain ⟨e, C, cc, h1, h2, h3⟩ := HX3.out.2.2.2 h
          exact ⟨e, C, cc, h1, h2, intsOff_keep h3 (Nat.le_trans BB.out.size hst.2.size) (fun b hb hp => ⟨⟨by have h9 : wd.heap.size ≤ b := hp; omega, by omega⟩, (hso b (by omega)).trans (BB.out.block b hb)⟩)⟩⟩
        clear hst hso hw4
        refine hK.out _ _ ((Q0.out _ HB4.out)) (fun hHeld => ?_)
        clear hK K
        (try simp only [Act.put, List.getElem_toArray, List.getElem_cons_succ, List.getElem_cons_zero, List.setIfInBounds_toArray, List.set_cons_zero, List.set_cons_succ])
        (refine wpAnyH_take (i := 14) (v := ?_) rfl (by kernel_rfl) (by kernel_rfl) (by kernel_rfl) (fun _ _ _ h => h) (Or.inl ⟨by kernel_rfl, ?_⟩) (by assumption) ?_; rotate_left; (focus (intro w hSw; (try dsimp only at hSw); go_simp; all_goals with_reducible rfl)); (try simp only [Act.put, List.getElem_toArray, List.getElem_cons_succ, List.getElem_cons_zero, List.setIfInBounds_toArray, List.set_cons_zero, List.set_cons_succ]))
        (refine wpAnyH_done (by kernel_rfl) ?_ _)
        go_wp2_with fail
        go_meet
        exact ⟨w3.heap.size, cs, ok, rfl, rfl, HB3.out.size, HS4.out.1, HX4.out, HB4.out⟩
      · go_simp
        rw [HWA.out]
        refine hK.out _ _ ((Q0.out _ BA.out)) (fun hHeld => ?_)
        clear hK K
        (try simp only [Act.put, List.getElem_toArray, List.getElem_cons_succ, List.getElem_cons_zero, List.setIfInBounds_toArray, List.set_cons_zero, List.set_cons_succ])
        (refine wpAnyH_ready (rs := [8]) (by kernel_rfl) (by simp) ?_; refine AllReadyH.cons rfl (fun K hK => ?_) AllReadyH.nil)
        go_simp
        refine (HFD.out wa BA.out).mono ?_
        rintro e3 w3 ⟨cs, ok, rfl, hb3, hx3⟩
        have HB3 := Lib.hid hb3
        have HX3 := Lib.hid hx3
        clear hb3 hx3
        refine hK.out _ _ ((Q0.out _ (BA.out.trans (HB3.out.mono BA.out.size)))) (fun hHeld => ?_)
        clear hK K
        (try simp only [Act.put, List.getElem_toArray, List.getElem_cons_succ, List.getElem_cons_zero, List.setIfInBounds_toArray, List.set_cons_zero, List.set_cons_succ])
        (refine wpAnyH_take (i := 9) (v := ?_) rfl (by kernel_rfl) (by kernel_rfl) (by kernel_rfl) (fun _ _ _ h => h) (Or.inl ⟨by kernel_rfl, ?_⟩) (by assumption) ?_; rotate_left; (focus (intro w hSw; (try dsimp only at hSw); go_simp; all_goals with_reducible rfl)); (try simp only [Act.put, List.getElem_toArray, List.getElem_cons_succ, List.getElem_cons_zero, List.setIfInBounds_toArray, List.set_cons_zero, List.set_cons_succ]))
        (refine wpAnyH_take (i := 10) (v := ?_) rfl (by kernel_rfl) (by kernel_rfl) (by kernel_rfl) (fun _ _ _ h => h) (Or.inl ⟨by kernel_rfl, ?_⟩) (by assumption) ?_; rotate_left; (focus (intro w hSw; (try dsimp only at hSw); go_simp; all_goals with_reducible rfl)); (try simp only [Act.put, List.getElem_toArray, List.getElem_cons_succ, List.getElem_cons_zero, List.setIfInBounds_toArray, List.set_cons_zero, List.set_cons_succ]))
        (refine wpAnyH_take (i := 11) (v := ?_) rfl (by kernel_rfl) (by kernel_rfl) (by kernel_rfl) (fun _ _ _ h => h) (Or.inl ⟨by kernel_rfl, ?_⟩) (by assumption) ?_; rotate_left; (focus (intro w hSw; (try dsimp only at hSw); go_simp; all_goals with_reducible rfl)); (try simp only [Act.put, List.getElem_toArray, List.getElem_cons_succ, List.getElem_cons_zero, List.setIfInBounds_toArray, List.set_cons_zero, List.set_cons_succ]))
        have HEB := Lib.hid (HEA.out.below HB3.out)
        (refine wpAnyH_ready (rs := [13]) (by kernel_rfl) (by simp) ?_; refine AllReadyH.cons rfl (fun K hK => ?_) AllReadyH.nil)
        have hst := blk_setCells cs 0 _ _ HEB.out
        have hso := fun k h => setCells_other (b := wd.heap.size) cs 0 w3 k h
        refine step_storeM stEvt rfl _ _ rfl wd.heap.size 0 cs rfl rfl (blk_there HEB.out (show 0 + 21 ≤ 21 by omega)) HX3.out.1 HX3.out.2.1 ?_
        obtain ⟨w4, hw4⟩ : ∃ W, w3.setCells wd.heap.size 0 cs = W := ⟨_, rfl⟩
        rw [hw4] at hst hso ⊢
        rw [setM_full (vs := cs) (xs := EvtCells zE none 0) HX3.out.1] at hst
        have HS4 := Lib.hid hst
        have HB4 : Hid (Below w1.heap.size w1 w4) := Lib.hid ((BA.out.trans (HB3.out.mono BA.out.size)).trans (hst.2.mono zd))
        have HX4 : Hid (FxOut w1 kd v r cs ok w4 (fun b => w1.heap.size ≤ b ∧ b ≠ wd.heap.size)) := Lib.hid ⟨HX3.out.1, HX3.out.2.1, HX3.out.2.2.1, fun h => by
          obtain ⟨e, C, cc, h1, h2, h3⟩ := HX3.out.2.2.2 h
          exact ⟨e, C, cc, h1, h2, intsOff_keep h3 hst.2.size (fun b hb hp => ⟨⟨by have h9 : wa.heap.size ≤ b := hp; have := BA.out.size; omega, by have h9 : wa.heap.size ≤ b := hp; have := HEA.out.lt; omega⟩, hso b (by have h9 : wa.heap.size ≤ b := hp; have := HEA.out.lt; omega)⟩)⟩⟩
        clear hst hso hw4
        refine hK.out _ _ ((Q0.out _ HB4.out)) (fun hHeld => ?_)
        clear hK K
        (try simp only [Act.put, List.getElem_toArray, List.getElem_cons_succ, List.getElem_cons_zero, List.setIfInBounds_toArray, List.set_cons_zero, List.set_cons_succ])
        (refine wpAnyH_take (i := 14) (v := ?_) rfl (by kernel_rfl) (by kernel_rfl) (by kernel_rfl) (fun _ _ _ h => h) (Or.inl ⟨by kernel_rfl, ?_⟩) (by assumption) ?_; rotate_left; (focus (intro w hSw; (try dsimp only at hSw); go_simp; all_goals with_reducible rfl)); (try simp only [Act.put, List.getElem_toArray, List.getElem_cons_succ, List.getElem_cons_zero, List.setIfInBounds_toArray, List.set_cons_zero, List.set_cons_succ]))
        (refine wpAnyH_done (by kernel_rfl) ?_ _)
        go_wp2_with fail
        go_meet
        exact ⟨wd.heap.size, cs, ok, rfl, rfl, zd, HS4.out.1, HX4.out, HB4.out⟩
    · go_simp
      rw [HWA.out]
      refine hK.out _ _ ((Q0.out _ BA.out)) (fun hHeld => ?_)
      clear hK K
      (try simp only [Act.put, List.getElem_toArray, List.getElem_cons_succ, List.getElem_cons_zero, List.setIfInBounds_toArray, List.set_cons_zero, List.set_cons_succ])
      (refine wpAnyH_ready (rs := [3]) (by kernel_rfl) (by simp) ?_; refine AllReadyH.cons rfl (fun K hK => ?_) AllReadyH.nil)
      go_simp
      refine (HKC.out _).mono ?_
      rintro e2 w2 ⟨rfl, rfl⟩
      refine hK.out _ _ ((Q0.out _ BA.out)) (fun hHeld => ?_)
      clear hK K
      (try simp only [Act.put, List.getElem_toArray, List.getElem_cons_succ, List.getElem_cons_zero, List.setIfInBounds_toArray, List.set_cons_zero, List.set_cons_succ])
      (refine wpAnyH_take (i := 5) (v := _) rfl (by kernel_rfl) (by kernel_rfl) (by kernel_rfl) (fun _ _ _ h => h) (Or.inl ⟨by kernel_rfl, fun _ hSw => exec_buildL bEvt _ rfl [(1, .int .i64 kd), (0, .int .i64 v)] (EvtCells (evA kd v) none 0) rfl (evt_fill2 kd v)⟩) (by assumption) ?_; (try simp only [Act.put, List.getElem_toArray, List.getElem_cons_succ, List.getElem_cons_zero, List.setIfInBounds_toArray, List.set_cons_zero, List.set_cons_succ]))
      (refine wpAnyH_ready (rs := [8]) (by kernel_rfl) (by simp) ?_; refine AllReadyH.cons rfl (fun K hK => ?_) AllReadyH.nil)
      go_simp
      refine (HFD.out wa BA.out).mono ?_
      rintro e3 w3 ⟨cs, ok, rfl, hb3, hx3⟩
      have HB3 := Lib.hid hb3
      have HX3 := Lib.hid hx3
      clear hb3 hx3
      refine hK.out _ _ ((Q0.out _ (BA.out.trans (HB3.out.mono BA.out.size)))) (fun hHeld => ?_)
      clear hK K
      (try simp only [Act.put, List.getElem_toArray, List.getElem_cons_succ, List.getElem_cons_zero, List.setIfInBounds_toArray, List.set_cons_zero, List.set_cons_succ])
      (refine wpAnyH_take (i := 9) (v := ?_) rfl (by kernel_rfl) (by kernel_rfl) (by kernel_rfl) (fun _ _ _ h => h) (Or.inl ⟨by kernel_rfl, ?_⟩) (by assumption) ?_; rotate_left; (focus (intro w hSw; (try dsimp only at hSw); go_simp; all_goals with_reducible rfl)); (try simp only [Act.put, List.getElem_toArray, List.getElem_cons_succ, List.getElem_cons_zero, List.setIfInBounds_toArray, List.set_cons_zero, List.set_cons_succ]))
      (refine wpAnyH_take (i := 10) (v := ?_) rfl (by kernel_rfl) (by kernel_rfl) (by kernel_rfl) (fun _ _ _ h => h) (Or.inl ⟨by kernel_rfl, ?_⟩) (by assumption) ?_; rotate_left; (focus (intro w hSw; (try dsimp only at hSw); go_simp; all_goals with_reducible rfl)); (try simp only [Act.put, List.getElem_toArray, List.getElem_cons_succ, List.getElem_cons_zero, List.setIfInBounds_toArray, List.set_cons_zero, List.set_cons_succ]))
      (refine wpAnyH_take (i := 11) (v := ?_) rfl (by kernel_rfl) (by kernel_rfl) (by kernel_rfl) (fun _ _ _ h => h) (Or.inl ⟨by kernel_rfl, ?_⟩) (by assumption) ?_; rotate_left; (focus (intro w hSw; (try dsimp only at hSw); go_simp; all_goals with_reducible rfl)); (try simp only [Act.put, List.getElem_toArray, List.getElem_cons_succ, List.getElem_cons_zero, List.setIfInBounds_toArray, List.set_cons_zero, List.set_cons_succ]))
      have HEB := Lib.hid (HEA.out.below HB3.out)
      (refine wpAnyH_ready (rs := [13]) (by kernel_rfl) (by simp) ?_; refine AllReadyH.cons rfl (fun K hK => ?_) AllReadyH.nil)
      have hst := blk_setCells cs 0 _ _ HEB.out
      have hso := fun k h => setCells_other (b := wd.heap.size) cs 0 w3 k h
      refine step_storeM stEvt rfl _ _ rfl wd.heap.size 0 cs rfl rfl (blk_there HEB.out (show 0 + 21 ≤ 21 by omega)) HX3.out.1 HX3.out.2.1 ?_
      obtain ⟨w4, hw4⟩ : ∃ W, w3.setCells wd.heap.size 0 cs = W := ⟨_, rfl⟩
      rw [hw4] at hst hso ⊢
      rw [setM_full (vs := cs) (xs := EvtCells zE none 0) HX3.out.1] at hst
      have HS4 := Lib.hid hst
      have HB4 : Hid (Below w1.heap.size w1 w4) := Lib.hid ((BA.out.trans (HB3.out.mono BA.out.size)).trans (hst.2.mono zd))
      have HX4 : Hid (FxOut w1 kd v r cs ok w4 (fun b => w1.heap.size ≤ b ∧ b ≠ wd.heap.size)) := Lib.hid ⟨HX3.out.1, HX3.out.2.1, HX3.out.2.2.1, fun h => by
        obtain ⟨e, C, cc, h1, h2, h3⟩ := HX3.out.2.2.2 h
        exact ⟨e, C, cc, h1, h2, intsOff_keep h3 hst.2.size (fun b hb hp => ⟨⟨by have h9 : wa.heap.size ≤ b := hp; have := BA.out.size; omega, by have h9 : wa.heap.size ≤ b := hp; have := HEA.out.lt; omega⟩, hso b (by have h9 : wa.heap.size ≤ b := hp; have := HEA.out.lt; omega)⟩)⟩⟩
      clear hst hso hw4
      refine hK.out _ _ ((Q0.out _ HB4.out)) (fun hHeld => ?_)
      clear hK K
      (try simp only [Act.put, List.getElem_toArray, List.getElem_cons_succ, List.getElem_cons_zero, List.setIfInBounds_toArray, List.set_cons_zero, List.set_cons_succ])
      (refine wpAnyH_take (i := 14) (v := ?_) rfl (by kernel_rfl) (by kernel_rfl) (by kernel_rfl) (fun _ _ _ h => h) (Or.inl ⟨by kernel_rfl, ?_⟩) (by assumption) ?_; rotate_left; (focus (intro w hSw; (try dsimp only at hSw); go_simp; all_goals with_reducible rfl)); (try simp only [Act.put, List.getElem_toArray, List.getElem_cons_succ, List.getElem_cons_zero, List.setIfInBounds_toArray, List.set_cons_zero, List.set_cons_succ]))
      (refine wpAnyH_done (by kernel_rfl) ?_ _)
      go_wp2_with fail
      go_meet
      exact ⟨wd.heap.size, cs, ok, rfl, rfl, zd, HS4.out.1, HX4.out, HB4.out⟩
  obtain ⟨eb, cs, ok, rfl, rfl, hebz, hEb, hFx, hbx⟩ := hcut
  have HEb := Lib.hid hEb
  have HFx := Lib.hid hFx
  have HRx : Hid (Blk wc rb 37 (EvtCells zE none 0)) := Lib.hid ((hbx.block rb (by omega)).trans HR1.out)
  have HBx := Lib.hid (HBW1.out.trans (hbx.mono (by have := HBW1.out.size; omega)))
  clear hEb hFx hbx q0 q1
  cases ok
  · have HEE : Hid (ParseOk S none) := Lib.hid (by have h := HPK.out; rw [HPR.out, HFx.out.2.2.1 rfl] at h; exact h)
    go_wp2_with (first
      | fail
      | ((with_reducible refine wpList_buildL bEvt rfl [] rfl [] (EvtCells zE none 0) ?_ evt_fill0 ?_); exact rfl)
      | ((with_reducible refine wpList_storeL stEvt rfl _ _ rfl (rb) (EvtCells zE none 0) (EvtCells zE none 0) ?_ ?_ ?_ ?_ ?_ (evtC_one _ _ _) ?_); exact rfl; exact rfl; exact (HRx.out); exact rfl; exact (rfl); intro wz k1 k2 k3 k4; have K := Lib.hid (And.intro k1 (And.intro k2 (And.intro k3 k4))); clear k1 k2 k3 k4))
    have HRz : Blk wz rb 37 (EvtCells zE none 0) := K.out.1
    refine bodyPost_ret (v := .tuple #[.agg (EvtCells zE none 0).toArray, .int .i64 3]) (big.res_cell_tmp stEvt Tryz.results26 rfl rfl HRz.cells rfl) rfl ?_
    exact ⟨(HBx.out).trans (K.out.2.2.2.mono hrb), .inl ⟨HEE.out, rfl⟩⟩
  obtain ⟨e, C, ce, he1, rfl, he3⟩ := HFx.out.2.2.2 rfl
  have HEE : Hid (ParseOk S (some e)) := Lib.hid (by have h := HPK.out; rw [HPR.out, he1] at h; exact h)
  have HIE := Lib.hid he3
  have HSM := Lib.hid (line_small (HEE.out.1 e rfl))
  clear he1 he3
  go_wp2_with (first
    | ((with_reducible refine wpList_loadG stEvt _ rfl ⟨eb, 0, none⟩ (EvtCells e C ce) ?_ ?_ ?_ ?_ ?_); exact rfl; exact rfl; exact HEb.out.cells; exact rfl)
    | ((with_reducible refine wpList_storeL stEvt rfl _ _ rfl (rb) (EvtCells zE none 0) (EvtCells e C ce) ?_ ?_ ?_ ?_ ?_ (evtC_one _ _ _) ?_); exact rfl; exact rfl; exact HRx.out; exact rfl; exact (rfl); intro wz k1 k2 k3 k4; have K := Lib.hid (And.intro k1 (And.intro k2 (And.intro k3 k4))); clear k1 k2 k3 k4))
  have HRz : Blk wz rb 37 (EvtCells e C ce) := K.out.1
  refine bodyPost_ret (v := .tuple #[.agg (EvtCells e C ce).toArray, .int .i64 0]) (big.res_cell_tmp stEvt Tryz.results26 rfl rfl HRz.cells rfl) rfl ?_
  refine ⟨HBx.out.trans (K.out.2.2.2.mono hrb), .inr ⟨e, C, ce, HEE.out, by have := HSM.out.1; omega, HSM.out.2, rfl, ?_⟩⟩
  exact intsOff_keep HIE.out (by rw [K.out.2.2.1]; exact Nat.le_refl _) (fun b hb hp => ⟨by have := hp.1; have := HBW1.out.size; show w.heap.size ≤ b; omega, K.out.2.1 b (by have := hp.1; omega)⟩)
end Go.Proofs.YtofabhenmplkoaaGreatDoor.evt
