/- rules: the violations of a list of pairs. -/
import Derived.Test.YtceceomaheobhaaGreatDoorRulA
import Derived.Test.YtceceomaheobhaaGreatDoorBase
import Derived.Deep.DeepCutAuto
namespace Go.Proofs.YtceceomaheobhaaGreatDoor.rul
open Go.RowKit
open Go.Proofs.YtceceomaheobhaaGreatDoor.lib Go.Proofs.YtceceomaheobhaaGreatDoor.rd Go.Proofs.YtceceomaheobhaaGreatDoor.typ Go.Proofs.YtceceomaheobhaaGreatDoor.app Go.Proofs.YtceceomaheobhaaGreatDoor.flts Go.Proofs.YtceceomaheobhaaGreatDoor.eqg Go.Proofs.YtceceomaheobhaaGreatDoor.txt Go.Proofs.YtceceomaheobhaaGreatDoor.note
set_option linter.unusedVariables false
set_option linter.unusedSimpArgs false

def atS (word : ByteArray) (i : Nat) : ByteArray := word ++ ⟨#[32]⟩ ++ decS i
def badB (orders : Int) (p : Int × Int) : Bool := !rightB p.1 orders || (!rightB p.2 orders || p.1 == p.2)
def pairP (orders : Int) (word : ByteArray) (same : Int × Int → Int × Int → Bool) (l : List (Int × Int)) (i : Nat) (p : Int × Int) : List Flt :=
  if badB orders p = true then [⟨2, atS word i⟩] else if (l.take i).any (same p) = true then [⟨6, atS word i⟩] else []
def pairAt (orders : Int) (word : ByteArray) (same : Int × Int → Int × Int → Bool) (l : List (Int × Int)) (i : Nat) : List Flt := match l[i]? with
  | some p => pairP orders word same l i p
  | none => []
/-- The violations of the pairs below j. -/
def pairsTo (orders : Int) (word : ByteArray) (same : Int × Int → Int × Int → Bool) (l : List (Int × Int)) : Nat → List Flt
  | 0 => if l.length ≤ 16 then [] else [⟨4, word⟩]
  | j + 1 => pairsTo orders word same l j ++ pairAt orders word same l j
theorem pairP_len (orders : Int) (word : ByteArray) (same : Int × Int → Int × Int → Bool) (l : List (Int × Int)) (i : Nat) (p : Int × Int) : (pairP orders word same l i p).length ≤ 1 := by
  unfold pairP
  split
  · simp
  · split <;> simp
theorem pairsTo_len (orders : Int) (word : ByteArray) (same : Int × Int → Int × Int → Bool) (l : List (Int × Int)) : ∀ j, (pairsTo orders word same l j).length ≤ 1 + j
  | 0 => by unfold pairsTo; split <;> simp
  | j + 1 => by
    have ih := pairsTo_len orders word same l j
    have h : (pairAt orders word same l j).length ≤ 1 := by
      unfold pairAt
      split
      · exact pairP_len _ _ _ _ _ _
      · exact Nat.zero_le _
    rw [pairsTo, List.length_append]
    omega
theorem pairsTo_succ {orders : Int} {word : ByteArray} {same : Int × Int → Int × Int → Bool} {l : List (Int × Int)} {j : Nat} {p : Int × Int} (h : l[j]? = some p) : pairsTo orders word same l (j + 1) = pairsTo orders word same l j ++ pairP orders word same l j p := by
  rw [pairsTo]
  unfold pairAt
  rw [h]

theorem take_anyP {α : Type} {p : α → Bool} {l : List α} {k : Nat} {x : α} (h : l[k]? = some x) : (l.take (k + 1)).any p = ((l.take k).any p || p x) := by
  obtain ⟨h1, h2⟩ := List.getElem?_eq_some_iff.1 h
  rw [List.take_succ_eq_append_getElem h1, h2, List.any_append]
  simp
theorem take_any_true {α : Type} {p : α → Bool} {l : List α} {k j : Nat} {b : Bool} (h : (l.take (k + 1)).any p = (b || true)) (hj : k + 1 ≤ j) : (l.take j).any p = true := by
  rw [Bool.or_true, List.any_eq_true] at h
  obtain ⟨x, hx, hp⟩ := h
  refine List.any_eq_true.2 ⟨x, ?_, hp⟩
  obtain ⟨n, hn⟩ := List.mem_iff_getElem?.1 hx
  rw [List.getElem?_take] at hn
  split at hn
  · exact List.mem_iff_getElem?.2 ⟨n, by rw [List.getElem?_take, if_pos (by omega)]; exact hn⟩
  · cases hn

set_option maxRecDepth 20000 in
set_option maxHeartbeats 1000000 in
theorem looseP_any (orders : Int) (word : ByteArray) (hws : word.size ≤ 1000) (A : Option Addr) (c : Nat) (l : List (Int × Int)) (w : World) (hL : RowAt (rPair rInt rInt) w w.heap.size A l) (hl : l.length ≤ 24) (hcap : l.length ≤ c) :
    Calls Tryz.prog 68 #[.int .i64 orders, .string word, .slice A l.length c, .func (.func 69) #[] #[]] w (FltsOut w (pairsTo orders word looseB l l.length)) := by
  obtain ⟨m, hm⟩ : ∃ m, l.length = m := ⟨_, rfl⟩
  have HM := Lib.hid hm
  obtain ⟨F, hF⟩ : ∃ F, pairsTo orders word looseB l = F := ⟨_, rfl⟩
  have HF := Lib.hid hF
  have hFl : ∀ j, (F j).length ≤ 1 + j := fun j => by rw [← hF]; exact pairsTo_len _ _ _ _ j
  have HF0 : Hid (F 0 = if m ≤ 16 then [] else [⟨4, word⟩]) := Lib.hid (by rw [← hF, ← hm]; rfl)
  rw [hm] at hl hcap ⊢
  clear hm hF
  go_enter Tryz.func68, Tryz.ntmps68
  go_upto_if 18 with fail
  go_cut [9] (fun v wx => ∃ A' c', v = .slice A' (F 0).length c' ∧ Fown wx (w.heap.size + 1) A' c' (F 0) ∧ wx.cell? ⟨w.heap.size, 0, none⟩ = some (.int .i64 orders) ∧ Below w.heap.size w wx ∧ w.heap.size + 1 ≤ wx.heap.size)
  case first =>
    obtain ⟨W1, hW1⟩ : ∃ W1, w.alloc (.cells #[.int .i64 orders] 3) = W1 := ⟨_, rfl⟩
    have hc0 : W1.cell? ⟨w.heap.size, 0, none⟩ = some (.int .i64 orders) := by rw [← hW1]; exact one_new w _ _ 0 _ rfl
    have hs1 : W1.heap.size = w.heap.size + 1 := by rw [← hW1]; simp
    have hB1 : Below w.heap.size w W1 := by rw [← hW1]; exact (Below.refl _ _).alloc (Nat.le_refl _) _
    rw [hW1]
    clear hW1
    have HS := Lib.hid hs1
    clear hs1
    by_cases hq : m ≤ 16
    · have HE : Hid (F 0 = []) := Lib.hid (by rw [HF0.out, if_pos hq])
      have hq' : ¬ (16 : Int) < (m : Int) := by omega
      clear hq
      go_wp2
      go_meet
      exact ⟨none, 0, by rw [HE.out]; rfl, by rw [HE.out]; exact World.ownsRow_nil _ _ _ _, hc0, hB1, by have := HS.out; omega⟩
    · have HE : Hid (F 0 = [⟨4, word⟩]) := Lib.hid (by rw [HF0.out, if_neg hq])
      have hq' : (16 : Int) < (m : Int) := by omega
      clear hq
      go_wp2_with (at_builtin; refine wpList_app fault_elem _ _ rfl (w.heap.size + 1) none 0 0 [] rfl ((World.ownsRow_nil _ _ _ _).alloc _) ⟨W1.heap.size, 0, none⟩ 1 [.int .i64 4, .string word] rfl rfl (two_new _ _ _ _) (by simp [Value.oneCell']) (by omega) (by simp; have := HS.out; omega) rfl ?_; intro g1 c1 w2 hown1 hg1 hd1)
      go_meet
      refine ⟨_, _, by rw [HE.out]; rfl, by rw [HE.out]; exact hown1, ?_, ?_, ?_⟩
      · exact hg1.cell ((World.cell?_alloc_lt W1 _ _ (show w.heap.size < W1.heap.size by have := HS.out; omega)).trans hc0) (by intro e; cases e)
      · exact (hB1.alloc (by have := HS.out; omega) _).grown hg1 (by simp; have := HS.out; omega) (fun q e => by cases e)
      · have := hg1.size; have := HS.out; simp at *; omega
  obtain ⟨A', c', hv, hown, hc0, hB, hs⟩ := hcut
  subst hv
  go_upto_region 6 with fail
  go_loopw [9, 27] (fun v k wr => ∃ (j : Nat) (A' : Option Addr) (c' : Nat), j ≤ m ∧ k = .int .i64 j ∧ v = .slice A' (F j).length c' ∧ Fown wr (w.heap.size + 1) A' c' (F j) ∧ wr.cell? ⟨w.heap.size, 0, none⟩ = some (.int .i64 orders) ∧ Below w.heap.size w wr ∧ w.heap.size + 1 ≤ wr.heap.size) (fun _ k _ => m - (intOf k).toNat)
  case atStart => exact ⟨0, A', c', by omega, rfl, rfl, hown, hc0, hB, hs⟩
  case round =>
    clear hown hc0 hB hs
    obtain ⟨j, A', c', hj, rfl, rfl, hown, hc0, hB, hs⟩ := hrel
    by_cases hlt : j < m
    · obtain ⟨⟨x1, x2⟩, hp⟩ : ∃ p, l[j]? = some p := ⟨_, List.getElem?_eq_getElem (by rw [HM.out]; exact hlt)⟩
      obtain ⟨ad, rfl, hadb, ⟨m0, m1⟩, _⟩ := row_Two (hL.below hB) hp
      simp only at m0 m1
      have hbb : (ad.add (j * 2)).block < wr.heap.size := by rw [block_of_add]; omega
      have hk0 : (0 : Int) ≤ (j : Int) := by omega
      have hkn : (j : Int) < (m : Int) := by omega
      have hFj := hFl j
      have hjn : j < 24 := by omega
      have hds := decS_size j
      have t1 : ¬ 9223372036854775807 < word.size + 1 := by omega
      have t2 : ¬ 9223372036854775807 < word.size + 1 + (decS j).size := by omega
      have HP : Hid (F (j + 1) = F j ++ pairP orders word looseB l j (x1, x2)) := Lib.hid (by rw [← HF.out, pairsTo_succ hp])
      clear hp
      go_upto_region 9 with (go_at_call 107; refine (dec_any j hjn _).mono ?_; rintro e w3 ⟨rfl, rfl⟩)
      have k0 : (wr.alloc (.cells #[.int .i64 x1, .int .i64 x2] 88)).cell? ⟨wr.heap.size, 0, none⟩ = some (.int .i64 x1) := two_new wr _ _ _ 0 _ rfl
      have k1 : (wr.alloc (.cells #[.int .i64 x1, .int .i64 x2] 88)).cell? ⟨wr.heap.size, 1, none⟩ = some (.int .i64 x2) := two_new wr _ _ _ 1 _ rfl
      obtain ⟨W, hW⟩ : ∃ W, wr.alloc (.cells #[.int .i64 x1, .int .i64 x2] 88) = W := ⟨_, rfl⟩
      have hWs : W.heap.size = wr.heap.size + 1 := by rw [← hW]; simp
      have hownW : Fown W (w.heap.size + 1) A' c' (F j) := by rw [← hW]; exact World.ownsRow.alloc hown _
      have hownR : W.ownsRow (w.heap.size + 1) 37 2 (.slice A' (F j).length c') (F j).length (fcs (F j)) := hownW
      have hzc : w.heap.size < W.heap.size := by omega
      have hcW : W.cell? ⟨w.heap.size, 0, none⟩ = some (.int .i64 orders) := by rw [← hW]; exact (World.cell?_alloc_lt wr _ _ (show w.heap.size < wr.heap.size by omega)).trans hc0
      have BW : Below w.heap.size w W := by rw [← hW]; exact hB.alloc (by omega) _
      rw [hW] at k0 k1 ⊢
      have HWS := Lib.hid hWs
      have zW : w.heap.size + 1 ≤ W.heap.size := by omega
      have zp : wr.heap.size < W.heap.size := by omega
      have HK := Lib.hid (And.intro hown hc0)
      clear hW m0 m1 hWs hown hc0
      obtain ⟨P, hP⟩ : ∃ P, wr.heap.size = P := ⟨_, rfl⟩
      rw [hP] at k0 k1 zp ⊢
      clear hP
      have HK9 := Lib.hid (And.intro k0 k1)
      have HO := Lib.hid hownR
      have HOW := Lib.hid hownW
      clear hownR hownW
      go_cut [55] (fun v wx => v = .bool (badB orders (x1, x2)) ∧ W = wx)
      case first => as_aux_lemma =>
        cases hr1 : rightB x1 orders
        case false =>
          have HE : Hid (badB orders (x1, x2) = true) := Lib.hid (by unfold badB; simp only [hr1]; rfl)
          go_wp2_with (go_at_call 106; refine (right_any _ orders w.heap.size _ hzc hcW).mono ?_; rintro e we ⟨rfl, rfl⟩)
          go_meet
          exact ⟨by rw [HE.out], rfl⟩
        case true =>
          cases hr2 : rightB x2 orders
          case false =>
            have HE : Hid (badB orders (x1, x2) = true) := Lib.hid (by unfold badB; simp only [hr1, hr2]; rfl)
            go_wp2_with (go_at_call 106; refine (right_any _ orders w.heap.size _ hzc hcW).mono ?_; rintro e we ⟨rfl, rfl⟩)
            go_meet
            exact ⟨by rw [HE.out], rfl⟩
          case true =>
            have HE : Hid (badB orders (x1, x2) = (x1 == x2)) := Lib.hid (by unfold badB; simp only [hr1, hr2]; rfl)
            go_wp2_with (go_at_call 106; refine (right_any _ orders w.heap.size _ hzc hcW).mono ?_; rintro e we ⟨rfl, rfl⟩)
            go_meet
            exact ⟨by rw [HE.out], rfl⟩
      obtain ⟨h55, hwc⟩ := hcut
      subst h55
      subst hwc
      obtain ⟨k0, k1⟩ := HK9.out
      have hownR := HO.out
      have hownW := HOW.out
      cases he : badB orders (x1, x2)
      case true =>
        go_upto_if 55 with fail
        have HE : Hid (F (j + 1) = F j ++ [⟨2, atS word j⟩]) := Lib.hid (by rw [HP.out]; unfold pairP; simp only [he]; rfl)
        go_wp2_with (first
          | (at_builtin; refine wpList_app fault_elem _ _ rfl (w.heap.size + 1) A' (F j).length c' (fcs (F j)) rfl (World.ownsRow.alloc hownR _) ⟨W.heap.size, 0, none⟩ 1 [.int .i64 2, .string (word ++ ⟨#[32]⟩ ++ decS j)] rfl rfl (two_new W (.int .i64 2) (.string (word ++ ⟨#[32]⟩ ++ decS j)) 37) (by simp [Value.oneCell']) (by omega) (by simp <;> omega) rfl ?_; intro g3 c3 w3 hown3 hg3 hd3))
        go_roundw
        case rel =>
          refine ⟨j + 1, some ⟨g3, 0, none⟩, c3, by omega, by go_num, by rw [HE.out, List.length_append]; rfl, by unfold Fown; rw [HE.out, List.length_append, fcs_snoc]; exact hown3, ?_, ?_, ?_⟩
          · exact hg3.cell ((World.cell?_alloc_lt W _ _ hzc).trans hcW) (by intro e; have := (World.ownsRow.lt hownW _ e.symm).1; simp at this; omega)
          · exact (BW.alloc (by omega) _).grown hg3 (by simp; omega) (fun q' e => by have := (World.ownsRow.lt hownW _ e).1; omega)
          · have := hg3.size; simp at *; omega
        case measure => simp [intOf]; omega
      case false =>
        go_upto_if 55 with fail
        have HP6 : Hid (F (j + 1) = F j ++ if (l.take j).any (looseB (x1, x2)) = true then [⟨6, atS word j⟩] else []) := Lib.hid (by rw [HP.out]; unfold pairP; simp only [he]; rfl)
        clear HP he
        have hjc : j ≤ c := by omega
        have hjc2 : (j : Int) ≤ (c : Int) := by omega
        go_wp2
        go_loopw [9, 65] (fun v k wr => ∃ i : Nat, i ≤ j ∧ k = .int .i64 i ∧ v = .slice A' (F j).length c' ∧ Hid ((l.take i).any (looseB (x1, x2)) = false) ∧ Below W.heap.size W wr) (fun _ k _ => j - (intOf k).toNat)
        case atStart => exact ⟨0, by omega, rfl, rfl, Lib.hid rfl, Below.refl _ _⟩
        case round =>
          obtain ⟨i, hi, rfl, rfl, HA, hbi⟩ := hrel
          have zi := hbi.size
          have BI : Below w.heap.size w wr := BW.trans (hbi.mono (by omega))
          have hcI : wr.cell? ⟨w.heap.size, 0, none⟩ = some (.int .i64 orders) := (hbi.cell (p := ⟨w.heap.size, 0, none⟩) hzc).trans hcW
          have hownI := own_below hownR hbi
          by_cases hil : i < j
          · obtain ⟨⟨y1, y2⟩, hq⟩ : ∃ q, l[i]? = some q := ⟨_, List.getElem?_eq_getElem (by rw [HM.out]; omega)⟩
            obtain ⟨ad2, hadeq, hadb2, ⟨n0, n1⟩, _⟩ := row_Two (hL.below BI) hq
            obtain rfl : ad = ad2 := Option.some.inj hadeq
            simp only at n0 n1
            have q0 : wr.cell? ⟨P, 0, none⟩ = some (.int .i64 x1) := (hbi.cell (p := ⟨P, 0, none⟩) zp).trans k0
            have q1 : wr.cell? ⟨P, 1, none⟩ = some (.int .i64 x2) := (hbi.cell (p := ⟨P, 1, none⟩) zp).trans k1
            have zpi : P < wr.heap.size := by omega
            have i0 : (0 : Int) ≤ (i : Int) := by omega
            have ij : (i : Int) < (j : Int) := by omega
            have HT := Lib.hid (take_anyP (p := looseB (x1, x2)) hq)
            obtain ⟨s, hs⟩ : ∃ s, looseB (x1, x2) (y1, y2) = s := ⟨_, rfl⟩
            have HC : Hid (∀ w', Calls Tryz.prog 69 #[.agg #[.int .i64 x1, .int .i64 x2], .agg #[.int .i64 y1, .int .i64 y2]] w' fun e w'' => e = .returned (.bool s) ∧ Below w'.heap.size w' w'') := Lib.hid fun w' => by rw [← hs]; exact loose_any (x1, x2) (y1, y2) w'
            rw [hs] at HT
            have HCI := Lib.hid hcI
            clear hq hs hadeq k0 k1 hcW hcI
            have HOI := Lib.hid hownI
            clear hownI
            cases s
            case true =>
              have HE : Hid (F (j + 1) = F j ++ [⟨6, atS word j⟩]) := Lib.hid (by rw [HP6.out, if_pos (take_any_true HT.out (by omega))])
              go_wp2_with (first
                | (go_at_call 69; refine (HC.out _).mono ?_; rintro e we ⟨rfl, hbe⟩)
                | (at_builtin; refine wpList_app fault_elem _ _ rfl (w.heap.size + 1) A' (F j).length c' (fcs (F j)) rfl ((own_below (World.ownsRow.alloc HOI.out _) hbe).alloc _) ⟨we.heap.size, 0, none⟩ 1 [.int .i64 6, .string (word ++ ⟨#[32]⟩ ++ decS j)] rfl rfl (two_new we (.int .i64 6) (.string (word ++ ⟨#[32]⟩ ++ decS j)) 37) (by simp [Value.oneCell']) (by omega) (by have := hbe.size; simp at *; omega) rfl ?_; intro g3 c3 w3 hown3 hg3 hd3))
              have ownE := own_below (World.ownsRow.alloc HOI.out _) hbe
              have BE : Below w.heap.size w we := (BI.alloc (by omega) _).trans (hbe.mono (by simp; omega))
              have zE := BE.size
              have ltE : w.heap.size < we.heap.size := by have := hbe.size; simp at this; omega
              have cE : we.cell? ⟨w.heap.size, 0, none⟩ = some (.int .i64 orders) := (hbe.cell (p := ⟨w.heap.size, 0, none⟩) (by simp; omega)).trans ((World.cell?_alloc_lt _ _ _ (show w.heap.size < wr.heap.size by omega)).trans HCI.out)
              go_roundw
              case rel =>
                refine ⟨j + 1, some ⟨g3, 0, none⟩, c3, by omega, by go_num, by rw [HE.out, List.length_append]; rfl, by unfold Fown; rw [HE.out, List.length_append, fcs_snoc]; exact hown3, ?_, ?_, ?_⟩
                · exact hg3.cell ((World.cell?_alloc_lt we _ _ ltE).trans cE) (by intro e; have := (World.ownsRow.lt ownE _ e.symm).1; simp at this; omega)
                · exact (BE.alloc (by omega) _).grown hg3 (by simp; omega) (fun q' e => by have := (World.ownsRow.lt ownE _ e).1; omega)
                · have := hg3.size; simp at *; omega
              case measure => simp [intOf]; omega
            case false =>
              go_wp2_with (go_at_call 69; refine (HC.out _).mono ?_; rintro e we ⟨rfl, hbe⟩)
              go_roundw
              case rel => exact ⟨i + 1, by omega, by go_num, rfl, Lib.hid (by rw [HT.out, HA.out]; rfl), (hbi.alloc zi _).trans (hbe.mono (by simp; omega))⟩
              case measure => simp [intOf]; omega
          · have hij : i = j := by omega
            subst hij
            have HE : Hid (F (i + 1) = F i) := Lib.hid (by rw [HP6.out, HA.out]; simp)
            go_wp2
            go_roundw
            case rel => exact ⟨i + 1, A', c', by omega, by go_num, by rw [HE.out], by rw [HE.out]; exact hownI, hcI, BI, by omega⟩
            case measure => simp [intOf]; omega
    · have hjm : j = m := by omega
      subst hjm
      go_wp2
      go_ret
      rw [HF.out]
      unfold Fown at hown
      exact ⟨A', c', rfl, own_less hown (by omega), hB⟩
set_option maxRecDepth 20000 in
set_option maxHeartbeats 1000000 in
theorem exactP_any (orders : Int) (word : ByteArray) (hws : word.size ≤ 1000) (A : Option Addr) (c : Nat) (l : List (Int × Int)) (w : World) (hL : RowAt (rPair rInt rInt) w w.heap.size A l) (hl : l.length ≤ 24) (hcap : l.length ≤ c) :
    Calls Tryz.prog 68 #[.int .i64 orders, .string word, .slice A l.length c, .func (.func 70) #[] #[]] w (FltsOut w (pairsTo orders word twoEq l l.length)) := by
  obtain ⟨m, hm⟩ : ∃ m, l.length = m := ⟨_, rfl⟩
  have HM := Lib.hid hm
  obtain ⟨F, hF⟩ : ∃ F, pairsTo orders word twoEq l = F := ⟨_, rfl⟩
  have HF := Lib.hid hF
  have hFl : ∀ j, (F j).length ≤ 1 + j := fun j => by rw [← hF]; exact pairsTo_len _ _ _ _ j
  have HF0 : Hid (F 0 = if m ≤ 16 then [] else [⟨4, word⟩]) := Lib.hid (by rw [← hF, ← hm]; rfl)
  rw [hm] at hl hcap ⊢
  clear hm hF
  go_enter Tryz.func68, Tryz.ntmps68
  go_upto_if 18 with fail
  go_cut [9] (fun v wx => ∃ A' c', v = .slice A' (F 0).length c' ∧ Fown wx (w.heap.size + 1) A' c' (F 0) ∧ wx.cell? ⟨w.heap.size, 0, none⟩ = some (.int .i64 orders) ∧ Below w.heap.size w wx ∧ w.heap.size + 1 ≤ wx.heap.size)
  case first =>
    obtain ⟨W1, hW1⟩ : ∃ W1, w.alloc (.cells #[.int .i64 orders] 3) = W1 := ⟨_, rfl⟩
    have hc0 : W1.cell? ⟨w.heap.size, 0, none⟩ = some (.int .i64 orders) := by rw [← hW1]; exact one_new w _ _ 0 _ rfl
    have hs1 : W1.heap.size = w.heap.size + 1 := by rw [← hW1]; simp
    have hB1 : Below w.heap.size w W1 := by rw [← hW1]; exact (Below.refl _ _).alloc (Nat.le_refl _) _
    rw [hW1]
    clear hW1
    have HS := Lib.hid hs1
    clear hs1
    by_cases hq : m ≤ 16
    · have HE : Hid (F 0 = []) := Lib.hid (by rw [HF0.out, if_pos hq])
      have hq' : ¬ (16 : Int) < (m : Int) := by omega
      clear hq
      go_wp2
      go_meet
      exact ⟨none, 0, by rw [HE.out]; rfl, by rw [HE.out]; exact World.ownsRow_nil _ _ _ _, hc0, hB1, by have := HS.out; omega⟩
    · have HE : Hid (F 0 = [⟨4, word⟩]) := Lib.hid (by rw [HF0.out, if_neg hq])
      have hq' : (16 : Int) < (m : Int) := by omega
      clear hq
      go_wp2_with (at_builtin; refine wpList_app fault_elem _ _ rfl (w.heap.size + 1) none 0 0 [] rfl ((World.ownsRow_nil _ _ _ _).alloc _) ⟨W1.heap.size, 0, none⟩ 1 [.int .i64 4, .string word] rfl rfl (two_new _ _ _ _) (by simp [Value.oneCell']) (by omega) (by simp; have := HS.out; omega) rfl ?_; intro g1 c1 w2 hown1 hg1 hd1)
      go_meet
      refine ⟨_, _, by rw [HE.out]; rfl, by rw [HE.out]; exact hown1, ?_, ?_, ?_⟩
      · exact hg1.cell ((World.cell?_alloc_lt W1 _ _ (show w.heap.size < W1.heap.size by have := HS.out; omega)).trans hc0) (by intro e; cases e)
      · exact (hB1.alloc (by have := HS.out; omega) _).grown hg1 (by simp; have := HS.out; omega) (fun q e => by cases e)
      · have := hg1.size; have := HS.out; simp at *; omega
  obtain ⟨A', c', hv, hown, hc0, hB, hs⟩ := hcut
  subst hv
  go_upto_region 6 with fail
  go_loopw [9, 27] (fun v k wr => ∃ (j : Nat) (A' : Option Addr) (c' : Nat), j ≤ m ∧ k = .int .i64 j ∧ v = .slice A' (F j).length c' ∧ Fown wr (w.heap.size + 1) A' c' (F j) ∧ wr.cell? ⟨w.heap.size, 0, none⟩ = some (.int .i64 orders) ∧ Below w.heap.size w wr ∧ w.heap.size + 1 ≤ wr.heap.size) (fun _ k _ => m - (intOf k).toNat)
  case atStart => exact ⟨0, A', c', by omega, rfl, rfl, hown, hc0, hB, hs⟩
  case round =>
    clear hown hc0 hB hs
    obtain ⟨j, A', c', hj, rfl, rfl, hown, hc0, hB, hs⟩ := hrel
    by_cases hlt : j < m
    · obtain ⟨⟨x1, x2⟩, hp⟩ : ∃ p, l[j]? = some p := ⟨_, List.getElem?_eq_getElem (by rw [HM.out]; exact hlt)⟩
      obtain ⟨ad, rfl, hadb, ⟨m0, m1⟩, _⟩ := row_Two (hL.below hB) hp
      simp only at m0 m1
      have hbb : (ad.add (j * 2)).block < wr.heap.size := by rw [block_of_add]; omega
      have hk0 : (0 : Int) ≤ (j : Int) := by omega
      have hkn : (j : Int) < (m : Int) := by omega
      have hFj := hFl j
      have hjn : j < 24 := by omega
      have hds := decS_size j
      have t1 : ¬ 9223372036854775807 < word.size + 1 := by omega
      have t2 : ¬ 9223372036854775807 < word.size + 1 + (decS j).size := by omega
      have HP : Hid (F (j + 1) = F j ++ pairP orders word twoEq l j (x1, x2)) := Lib.hid (by rw [← HF.out, pairsTo_succ hp])
      clear hp
      go_upto_region 9 with (go_at_call 107; refine (dec_any j hjn _).mono ?_; rintro e w3 ⟨rfl, rfl⟩)
      have k0 : (wr.alloc (.cells #[.int .i64 x1, .int .i64 x2] 88)).cell? ⟨wr.heap.size, 0, none⟩ = some (.int .i64 x1) := two_new wr _ _ _ 0 _ rfl
      have k1 : (wr.alloc (.cells #[.int .i64 x1, .int .i64 x2] 88)).cell? ⟨wr.heap.size, 1, none⟩ = some (.int .i64 x2) := two_new wr _ _ _ 1 _ rfl
      obtain ⟨W, hW⟩ : ∃ W, wr.alloc (.cells #[.int .i64 x1, .int .i64 x2] 88) = W := ⟨_, rfl⟩
      have hWs : W.heap.size = wr.heap.size + 1 := by rw [← hW]; simp
      have hownW : Fown W (w.heap.size + 1) A' c' (F j) := by rw [← hW]; exact World.ownsRow.alloc hown _
      have hownR : W.ownsRow (w.heap.size + 1) 37 2 (.slice A' (F j).length c') (F j).length (fcs (F j)) := hownW
      have hzc : w.heap.size < W.heap.size := by omega
      have hcW : W.cell? ⟨w.heap.size, 0, none⟩ = some (.int .i64 orders) := by rw [← hW]; exact (World.cell?_alloc_lt wr _ _ (show w.heap.size < wr.heap.size by omega)).trans hc0
      have BW : Below w.heap.size w W := by rw [← hW]; exact hB.alloc (by omega) _
      rw [hW] at k0 k1 ⊢
      have HWS := Lib.hid hWs
      have zW : w.heap.size + 1 ≤ W.heap.size := by omega
      have zp : wr.heap.size < W.heap.size := by omega
      have HK := Lib.hid (And.intro hown hc0)
      clear hW m0 m1 hWs hown hc0
      obtain ⟨P, hP⟩ : ∃ P, wr.heap.size = P := ⟨_, rfl⟩
      rw [hP] at k0 k1 zp ⊢
      clear hP
      have HK9 := Lib.hid (And.intro k0 k1)
      have HO := Lib.hid hownR
      have HOW := Lib.hid hownW
      clear hownR hownW
      go_cut [55] (fun v wx => v = .bool (badB orders (x1, x2)) ∧ W = wx)
      case first => as_aux_lemma =>
        cases hr1 : rightB x1 orders
        case false =>
          have HE : Hid (badB orders (x1, x2) = true) := Lib.hid (by unfold badB; simp only [hr1]; rfl)
          go_wp2_with (go_at_call 106; refine (right_any _ orders w.heap.size _ hzc hcW).mono ?_; rintro e we ⟨rfl, rfl⟩)
          go_meet
          exact ⟨by rw [HE.out], rfl⟩
        case true =>
          cases hr2 : rightB x2 orders
          case false =>
            have HE : Hid (badB orders (x1, x2) = true) := Lib.hid (by unfold badB; simp only [hr1, hr2]; rfl)
            go_wp2_with (go_at_call 106; refine (right_any _ orders w.heap.size _ hzc hcW).mono ?_; rintro e we ⟨rfl, rfl⟩)
            go_meet
            exact ⟨by rw [HE.out], rfl⟩
          case true =>
            have HE : Hid (badB orders (x1, x2) = (x1 == x2)) := Lib.hid (by unfold badB; simp only [hr1, hr2]; rfl)
            go_wp2_with (go_at_call 106; refine (right_any _ orders w.heap.size _ hzc hcW).mono ?_; rintro e we ⟨rfl, rfl⟩)
            go_meet
            exact ⟨by rw [HE.out], rfl⟩
      obtain ⟨h55, hwc⟩ := hcut
      subst h55
      subst hwc
      obtain ⟨k0, k1⟩ := HK9.out
      have hownR := HO.out
      have hownW := HOW.out
      cases he : badB orders (x1, x2)
      case true =>
        go_upto_if 55 with fail
        have HE : Hid (F (j + 1) = F j ++ [⟨2, atS word j⟩]) := Lib.hid (by rw [HP.out]; unfold pairP; simp only [he]; rfl)
        go_wp2_with (first
          | (at_builtin; refine wpList_app fault_elem _ _ rfl (w.heap.size + 1) A' (F j).length c' (fcs (F j)) rfl (World.ownsRow.alloc hownR _) ⟨W.heap.size, 0, none⟩ 1 [.int .i64 2, .string (word ++ ⟨#[32]⟩ ++ decS j)] rfl rfl (two_new W (.int .i64 2) (.string (word ++ ⟨#[32]⟩ ++ decS j)) 37) (by simp [Value.oneCell']) (by omega) (by simp <;> omega) rfl ?_; intro g3 c3 w3 hown3 hg3 hd3))
        go_roundw
        case rel =>
          refine ⟨j + 1, some ⟨g3, 0, none⟩, c3, by omega, by go_num, by rw [HE.out, List.length_append]; rfl, by unfold Fown; rw [HE.out, List.length_append, fcs_snoc]; exact hown3, ?_, ?_, ?_⟩
          · exact hg3.cell ((World.cell?_alloc_lt W _ _ hzc).trans hcW) (by intro e; have := (World.ownsRow.lt hownW _ e.symm).1; simp at this; omega)
          · exact (BW.alloc (by omega) _).grown hg3 (by simp; omega) (fun q' e => by have := (World.ownsRow.lt hownW _ e).1; omega)
          · have := hg3.size; simp at *; omega
        case measure => simp [intOf]; omega
      case false =>
        go_upto_if 55 with fail
        have HP6 : Hid (F (j + 1) = F j ++ if (l.take j).any (twoEq (x1, x2)) = true then [⟨6, atS word j⟩] else []) := Lib.hid (by rw [HP.out]; unfold pairP; simp only [he]; rfl)
        clear HP he
        have hjc : j ≤ c := by omega
        have hjc2 : (j : Int) ≤ (c : Int) := by omega
        go_wp2
        go_loopw [9, 65] (fun v k wr => ∃ i : Nat, i ≤ j ∧ k = .int .i64 i ∧ v = .slice A' (F j).length c' ∧ Hid ((l.take i).any (twoEq (x1, x2)) = false) ∧ Below W.heap.size W wr) (fun _ k _ => j - (intOf k).toNat)
        case atStart => exact ⟨0, by omega, rfl, rfl, Lib.hid rfl, Below.refl _ _⟩
        case round =>
          obtain ⟨i, hi, rfl, rfl, HA, hbi⟩ := hrel
          have zi := hbi.size
          have BI : Below w.heap.size w wr := BW.trans (hbi.mono (by omega))
          have hcI : wr.cell? ⟨w.heap.size, 0, none⟩ = some (.int .i64 orders) := (hbi.cell (p := ⟨w.heap.size, 0, none⟩) hzc).trans hcW
          have hownI := own_below hownR hbi
          by_cases hil : i < j
          · obtain ⟨⟨y1, y2⟩, hq⟩ : ∃ q, l[i]? = some q := ⟨_, List.getElem?_eq_getElem (by rw [HM.out]; omega)⟩
            obtain ⟨ad2, hadeq, hadb2, ⟨n0, n1⟩, _⟩ := row_Two (hL.below BI) hq
            obtain rfl : ad = ad2 := Option.some.inj hadeq
            simp only at n0 n1
            have q0 : wr.cell? ⟨P, 0, none⟩ = some (.int .i64 x1) := (hbi.cell (p := ⟨P, 0, none⟩) zp).trans k0
            have q1 : wr.cell? ⟨P, 1, none⟩ = some (.int .i64 x2) := (hbi.cell (p := ⟨P, 1, none⟩) zp).trans k1
            have zpi : P < wr.heap.size := by omega
            have i0 : (0 : Int) ≤ (i : Int) := by omega
            have ij : (i : Int) < (j : Int) := by omega
            have HT := Lib.hid (take_anyP (p := twoEq (x1, x2)) hq)
            obtain ⟨s, hs⟩ : ∃ s, twoEq (x1, x2) (y1, y2) = s := ⟨_, rfl⟩
            have HC : Hid (∀ w', Calls Tryz.prog 70 #[.agg #[.int .i64 x1, .int .i64 x2], .agg #[.int .i64 y1, .int .i64 y2]] w' fun e w'' => e = .returned (.bool s) ∧ Below w'.heap.size w' w'') := Lib.hid fun w' => by rw [← hs]; exact exact_any (x1, x2) (y1, y2) w'
            rw [hs] at HT
            have HCI := Lib.hid hcI
            clear hq hs hadeq k0 k1 hcW hcI
            have HOI := Lib.hid hownI
            clear hownI
            cases s
            case true =>
              have HE : Hid (F (j + 1) = F j ++ [⟨6, atS word j⟩]) := Lib.hid (by rw [HP6.out, if_pos (take_any_true HT.out (by omega))])
              go_wp2_with (first
                | (go_at_call 70; refine (HC.out _).mono ?_; rintro e we ⟨rfl, hbe⟩)
                | (at_builtin; refine wpList_app fault_elem _ _ rfl (w.heap.size + 1) A' (F j).length c' (fcs (F j)) rfl ((own_below (World.ownsRow.alloc HOI.out _) hbe).alloc _) ⟨we.heap.size, 0, none⟩ 1 [.int .i64 6, .string (word ++ ⟨#[32]⟩ ++ decS j)] rfl rfl (two_new we (.int .i64 6) (.string (word ++ ⟨#[32]⟩ ++ decS j)) 37) (by simp [Value.oneCell']) (by omega) (by have := hbe.size; simp at *; omega) rfl ?_; intro g3 c3 w3 hown3 hg3 hd3))
              have ownE := own_below (World.ownsRow.alloc HOI.out _) hbe
              have BE : Below w.heap.size w we := (BI.alloc (by omega) _).trans (hbe.mono (by simp; omega))
              have zE := BE.size
              have ltE : w.heap.size < we.heap.size := by have := hbe.size; simp at this; omega
              have cE : we.cell? ⟨w.heap.size, 0, none⟩ = some (.int .i64 orders) := (hbe.cell (p := ⟨w.heap.size, 0, none⟩) (by simp; omega)).trans ((World.cell?_alloc_lt _ _ _ (show w.heap.size < wr.heap.size by omega)).trans HCI.out)
              go_roundw
              case rel =>
                refine ⟨j + 1, some ⟨g3, 0, none⟩, c3, by omega, by go_num, by rw [HE.out, List.length_append]; rfl, by unfold Fown; rw [HE.out, List.length_append, fcs_snoc]; exact hown3, ?_, ?_, ?_⟩
                · exact hg3.cell ((World.cell?_alloc_lt we _ _ ltE).trans cE) (by intro e; have := (World.ownsRow.lt ownE _ e.symm).1; simp at this; omega)
                · exact (BE.alloc (by omega) _).grown hg3 (by simp; omega) (fun q' e => by have := (World.ownsRow.lt ownE _ e).1; omega)
                · have := hg3.size; simp at *; omega
              case measure => simp [intOf]; omega
            case false =>
              go_wp2_with (go_at_call 70; refine (HC.out _).mono ?_; rintro e we ⟨rfl, hbe⟩)
              go_roundw
              case rel => exact ⟨i + 1, by omega, by go_num, rfl, Lib.hid (by rw [HT.out, HA.out]; rfl), (hbi.alloc zi _).trans (hbe.mono (by simp; omega))⟩
              case measure => simp [intOf]; omega
          · have hij : i = j := by omega
            subst hij
            have HE : Hid (F (i + 1) = F i) := Lib.hid (by rw [HP6.out, HA.out]; simp)
            go_wp2
            go_roundw
            case rel => exact ⟨i + 1, A', c', by omega, by go_num, by rw [HE.out], by rw [HE.out]; exact hownI, hcI, BI, by omega⟩
            case measure => simp [intOf]; omega
    · have hjm : j = m := by omega
      subst hjm
      go_wp2
      go_ret
      rw [HF.out]
      unfold Fown at hown
      exact ⟨A', c', rfl, own_less hown (by omega), hB⟩
end Go.Proofs.YtceceomaheobhaaGreatDoor.rul
