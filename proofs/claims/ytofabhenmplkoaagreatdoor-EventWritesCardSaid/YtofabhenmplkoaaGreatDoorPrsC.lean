/- event.parse. -/
import Derived.Test.YtofabhenmplkoaaGreatDoorPrsB
import Derived.Test.YtofabhenmplkoaaGreatDoorPrsQ
namespace Go.Proofs.YtofabhenmplkoaaGreatDoor.evt
open Go.RowKit
open Go.Proofs.YtofabhenmplkoaaGreatDoor.lib Go.Proofs.YtofabhenmplkoaaGreatDoor.rd Go.Proofs.YtofabhenmplkoaaGreatDoor.app Go.Proofs.YtofabhenmplkoaaGreatDoor.els Go.Proofs.YtofabhenmplkoaaGreatDoor.typ Go.Proofs.YtofabhenmplkoaaGreatDoor.big Go.Proofs.YtofabhenmplkoaaGreatDoor.ins Go.Proofs.YtofabhenmplkoaaGreatDoor.ord
open Go.Proofs.YtofabhenmplkoaaGreatDoor.gen hiding zOrd bOrd
open Go.Proofs.YtofabhenmplkoaaGreatDoor.off (setM step_storeM wpList_storeM intsOff_keep)
open Go.Proofs.YtofabhenmplkoaaGreatDoor.txt (in64 By strV strV_of joinS decW decW_any Tabs elem_str nameB name_any toList_data Strs numL number_any own_cap)
set_option linter.unusedVariables false
set_option linter.unusedSimpArgs false

def zE : Evt := ⟨0, 0, 0, 0, 0, ordO⟩
def evZ (k : Int) : Evt := ⟨0, k, 0, 0, 0, ordO⟩
theorem bEvt : BuildOf 37 (.agg (EvtCells zE none 0).toArray) #[(0, 1), (1, 1), (2, 1), (3, 1), (4, 1), (5, 16)] := ⟨⟨_, Tryz.underlying37, fun w => by kernel_rfl⟩, fun w => by kernel_rfl⟩
theorem evt_fill0 : Instr.fill ((#[(0, 1), (1, 1), (2, 1), (3, 1), (4, 1), (5, 16)] : Array (Nat × Nat))[·]?) (Value.agg (EvtCells zE none 0).toArray).cells [] = some (EvtCells zE none 0).toArray := by kernel_rfl
theorem evt_fill1 (k : Int) : Instr.fill ((#[(0, 1), (1, 1), (2, 1), (3, 1), (4, 1), (5, 16)] : Array (Nat × Nat))[·]?) (Value.agg (EvtCells zE none 0).toArray).cells [(1, .int .i64 k)] = some (EvtCells (evZ k) none 0).toArray := by kernel_rfl
theorem evtC_one (e : Evt) (C : Option Addr) (c : Nat) : ∀ u ∈ EvtCells e C c, u.oneCell' = true := fun u hu => by
  simp only [EvtCells, List.mem_cons, List.not_mem_nil, or_false] at hu
  rcases hu with rfl | rfl | rfl | rfl | rfl | rfl | rfl | rfl | rfl | rfl | rfl | rfl | rfl | rfl | rfl | rfl | rfl | rfl | rfl | rfl | rfl <;> rfl
/-- The kind of a word, as far as k words have been tried. -/
def kTo (x : By) : Nat → Int
  | 0 => 0
  | k + 1 => if x = (wordS ((k + 1 : Nat) : Int)).data.toList then ((k + 1 : Nat) : Int) else kTo x k
theorem kTo_five (x : By) : kTo x 5 = kindF x := rfl
theorem Strs.dropS {w : World} {B : Nat} {ad : Addr} {L : List By} (h : Strs w B (some ad) L) (k : Nat) (hk : k ≤ L.length) : Strs w B (some (ad.add k)) (L.drop k) := by
  obtain ⟨⟨h1, h2⟩, h3⟩ := h
  refine ⟨⟨by simp, fun h0 => ?_⟩, by rw [List.length_drop]; omega⟩
  rw [List.length_drop] at h0
  obtain ⟨ad', e, hb, hc⟩ := h2 (by omega)
  obtain rfl := Option.some.inj e
  refine ⟨_, rfl, by rw [block_of_add]; exact hb, fun j u hu => ?_⟩
  rw [add_of_add]
  refine hc (k + j) u ?_
  rw [List.map_drop, List.getElem?_drop] at hu
  exact hu
theorem own_ints {w : World} {base c : Nat} {A : Option Addr} {l : List Int} (h : IOwn w base A c l) (h0 : 0 < l.length) : ∃ g, A = some ⟨g, 0, none⟩ ∧ base ≤ g ∧ g < w.heap.size ∧ ∀ (j : Nat) x, l[j]? = some x → w.cell? ⟨g, j, none⟩ = some (.int .i64 x) := by
  have h' := h
  unfold IOwn at h'
  obtain ⟨g, cap, hv, _, hlt⟩ := World.ownsRow.form h' h0
  injection hv with q1 _ _
  subst q1
  refine ⟨g, rfl, own_base h' g rfl, hlt, fun j x hx => ?_⟩
  have hj := (List.getElem?_eq_some_iff.1 hx).1
  have h2 := World.ownsRow.cellAt h' j (by omega)
  rw [h2, List.getElem?_map, hx]; rfl
theorem setM_one : ∀ {vs : List Value} {cs : List Value} (o : Nat), (∀ u ∈ cs, u.oneCell' = true) → (∀ u ∈ vs, u.oneCell' = true) → ∀ u ∈ setM cs o vs, u.oneCell' = true
  | [], cs, o, h, _ => h
  | v :: r, cs, o, h, h2 => setM_one (o + 1) (fun u hu => by
      rcases List.mem_or_eq_of_mem_set hu with h3 | rfl
      · exact h u h3
      · exact h2 _ (List.mem_cons_self ..)) (fun u hu => h2 u (List.mem_cons_of_mem _ hu))
theorem set_evt {k a : Int} {o : Ord} {C : Option Addr} {c : Nat} : setM ((EvtCells (evZ k) none 0).set 0 (.int .i64 a)) 5 (OrdCells o C c) = EvtCells ⟨a, k, 0, 0, 0, o⟩ C c := by simp [setM, EvtCells, OrdCells, evZ]
/-- What parse answers. -/
def PaOut (w : World) (L : List By) (en : Ending) (w' : World) : Prop := Below w.heap.size w w' ∧
  ((parseF L = none ∧ ∃ cs : List Value, cs.length = 21 ∧ (∀ u ∈ cs, u.oneCell' = true) ∧ en = .returned (.tuple #[.agg cs.toArray, .bool false])) ∨ ∃ (e : Evt) (C : Option Addr) (c : Nat), parseF L = some e ∧ en = .returned (.tuple #[.agg (EvtCells e C c).toArray, .bool true]) ∧ IntsOff w' (fun b => w.heap.size ≤ b) C e.order.load)
set_option maxRecDepth 20000 in
set_option maxHeartbeats 8000000 in
theorem parse_any (L : List By) (A : Option Addr) (n c : Nat) (hn : n = L.length) (hnc : n ≤ c) (w : World) (hL : Strs w w.heap.size A L) (hm : ∀ x ∈ L, x.length ≤ 100000) (ht : Tabs w) : Calls Tryz.prog 74 #[.slice A n c] w (PaOut w L) := by
  obtain ⟨W0, hW0⟩ : ∃ W0, w.alloc (.cells (EvtCells zE none 0).toArray 37) = W0 := ⟨_, rfl⟩
  have hB0 : Below w.heap.size w W0 := by rw [← hW0]; exact (Below.refl _ _).alloc (Nat.le_refl _) _
  have z0 := hB0.size
  have b0 : Blk W0 w.heap.size 37 (EvtCells zE none 0) := by rw [← hW0]; exact Blk.new w _ _
  obtain ⟨rb, hrb0⟩ : ∃ b, w.heap.size = b := ⟨_, rfl⟩
  have hrb : w.heap.size ≤ rb := by omega
  have zz : rb < W0.heap.size := by rw [← hrb0]; exact b0.lt
  have HB0 := Lib.hid hB0
  have HR0 := Lib.hid b0
  have HL := Lib.hid (hL.below hB0)
  have HM := Lib.hid hm
  have HN := Lib.hid hn
  have HT := Lib.hid (ht.below hB0)
  have HW0 := Lib.hid (show w.alloc (.cells #[.int .i64 0, .int .i64 0, .int .i64 0, .int .i64 0, .int .i64 0, .string ⟨#[]⟩, .slice none 0 0, .int .i64 0, .int .i64 0, .int .i64 0, .int .i64 0, .int .i64 0, .int .i64 0, .int .i64 0, .int .i64 0, .int .i64 0, .int .i64 0, .int .i64 0, .int .i64 0, .int .i64 0, .bool false] 37) = W0 from hW0)
  clear hL hm hn ht b0 hB0 hW0
  go_enter Tryz.func74, Tryz.ntmps74
  go_upto_region 1 with fail
  rw [HW0.out]
  rw [hrb0] at HR0
  clear HW0
  by_cases h2 : n < 2
  · have HEE : Hid (parseF L = none) := Lib.hid (by
      have := HN.out
      cases L with
      | nil => rfl
      | cons x r =>
        cases r with
        | nil => rfl
        | cons y r => simp at this; omega)
    have h2' : (n : Int) < 2 := by omega
    go_wp2_with (first
      | ((with_reducible refine wpList_buildL bEvt rfl [] rfl [] (EvtCells zE none 0) ?_ evt_fill0 ?_); exact rfl)
      | ((with_reducible refine wpList_storeL stEvt rfl _ _ rfl (rb) (EvtCells zE none 0) (EvtCells zE none 0) ?_ ?_ ?_ ?_ ?_ (evtC_one _ _ _) ?_); exact rfl; exact rfl; exact (HR0.out); exact rfl; exact rfl; intro wz k1 k2 k3 k4; have K := Lib.hid (And.intro k1 (And.intro k2 (And.intro k3 k4))); clear k1 k2 k3 k4))
    have HRz : Blk wz rb 37 (EvtCells zE none 0) := K.out.1
    refine bodyPost_ret (v := .tuple #[.agg (EvtCells zE none 0).toArray, .bool false]) (big.res_cell_tmp stEvt Tryz.results74 rfl rfl HRz.cells rfl) rfl ?_
    exact ⟨(HB0.out).trans (K.out.2.2.2.mono hrb), .inl ⟨HEE.out, _, rfl, evtC_one _ _ _, rfl⟩⟩
  obtain ⟨ad, x0, hA, hadb, hx0, hcell0⟩ := HL.out.at_ (k := 0) (by rw [← HN.out]; omega)
  obtain ⟨ad1, x1, hA1, _, hx1, hcell1⟩ := HL.out.at_ (k := 1) (by rw [← HN.out]; omega)
  subst hA
  obtain rfl : ad = ad1 := Option.some.inj hA1
  obtain ⟨r, hLr⟩ : ∃ r, L = x0 :: x1 :: r := by
    cases L with
    | nil => cases hx0
    | cons y q =>
      cases q with
      | nil => cases hx1
      | cons z r => exact ⟨r, by rw [show y = x0 from Option.some.inj hx0, show z = x1 from Option.some.inj hx1]⟩
  have HLR := Lib.hid hLr
  have HC0 : Hid (∀ w', Below W0.heap.size W0 w' → w'.cell? ad = some (.string ⟨x0.toArray⟩) ∧ w'.cell? ⟨ad.block, ad.off + 1, none⟩ = some (.string ⟨x1.toArray⟩)) := Lib.hid (fun w' h => by
    refine ⟨?_, ?_⟩
    · exact (h.cell (p := ad.add 0) (by rw [block_of_add]; omega)).trans hcell0
    · exact (h.cell (p := ad.add 1) (by rw [block_of_add]; omega)).trans hcell1)
  have hn2 : ¬ (n : Int) < 2 := by omega
  have hn0 : 0 < n := by omega
  have hn1 : 1 < n := by omega
  clear hx0 hx1 hcell0 hcell1 hA1 hLr
  go_upto_region 5 with fail
  go_loopw [4, 5] (fun kv iv wr => ∃ k : Nat, k ≤ 5 ∧ iv = .int .i64 ((k + 1 : Nat) : Int) ∧ kv = .int .i64 (kTo x0 k) ∧ Below W0.heap.size W0 wr) (fun _ iv _ => 6 - (intOf iv).toNat)
  case atStart => exact ⟨0, by omega, rfl, rfl, Below.refl _ _⟩
  case round =>
    obtain ⟨k, hk, rfl, rfl, hbw⟩ := hrel
    have hbz := hbw.size
    by_cases hlt : k < 5
    · have h5 : ((k + 1 : Nat) : Int) ≤ 5 := by omega
      go_upto_region 7 with fail
      (refine wp_region_held_drew (S := (fun w' => w'.cell? ad = some (.string ⟨x0.toArray⟩))) (by kernel_rfl) ?_ (fun hHeld => ?_))
      · exact (HC0.out _ hbw.drew).1
      (refine wpAnyH_take (i := 2) (v := ?_) rfl (by kernel_rfl) (by kernel_rfl) (by kernel_rfl) (fun _ _ _ h => h) (Or.inl ⟨by kernel_rfl, ?_⟩) (by assumption) ?_; rotate_left; (focus (intro w hSw; (try dsimp only at hSw); go_simp; all_goals with_reducible rfl)); (try simp only [Act.put, List.getElem_toArray, List.getElem_cons_succ, List.getElem_cons_zero, List.setIfInBounds_toArray, List.set_cons_zero, List.set_cons_succ]))
      (refine wpAnyH_take (i := 3) (v := ?_) rfl (by kernel_rfl) (by kernel_rfl) (by kernel_rfl) (fun _ _ _ h => h) (Or.inl ⟨by kernel_rfl, ?_⟩) (by assumption) ?_; rotate_left; (focus (intro w hSw; (try dsimp only at hSw); go_simp; all_goals with_reducible rfl)); (try simp only [Act.put, List.getElem_toArray, List.getElem_cons_succ, List.getElem_cons_zero, List.setIfInBounds_toArray, List.set_cons_zero, List.set_cons_succ]))
      (refine wpAnyH_take (i := 4) (v := ?_) rfl (by kernel_rfl) (by kernel_rfl) (by kernel_rfl) (fun _ _ _ h => h) (Or.inl ⟨by kernel_rfl, ?_⟩) (by assumption) ?_; rotate_left; (focus (intro w hSw; (try dsimp only at hSw); go_simp; all_goals with_reducible rfl)); (try simp only [Act.put, List.getElem_toArray, List.getElem_cons_succ, List.getElem_cons_zero, List.setIfInBounds_toArray, List.set_cons_zero, List.set_cons_succ]))
      (refine wpAnyH_take (i := 0) (v := ?_) rfl (by kernel_rfl) (by kernel_rfl) (by kernel_rfl) (fun _ _ _ h => h) (Or.inl ⟨by kernel_rfl, ?_⟩) (by assumption) ?_; rotate_left; (focus (intro w hSw; (try dsimp only at hSw); go_simp; all_goals with_reducible rfl)); (try simp only [Act.put, List.getElem_toArray, List.getElem_cons_succ, List.getElem_cons_zero, List.setIfInBounds_toArray, List.set_cons_zero, List.set_cons_succ]))
      (refine wpAnyH_ready (rs := [1]) (by kernel_rfl) (by simp) ?_; refine AllReadyH.cons rfl (fun K hK => ?_) AllReadyH.nil)
      go_simp
      go_at_call 62
      refine (Go.Proofs.YtofabhenmplkoaaGreatDoor.evt.word_any ((k + 1 : Nat) : Int) _).mono ?_
      rintro e2 w2 ⟨rfl, hb2⟩
      have hbw2 : Below W0.heap.size W0 w2 := hbw.drew.trans (hb2.mono hbz)
      refine hK.out _ _ ((HC0.out _ hbw2).1) (fun hHeld => ?_)
      clear hK K
      (try simp only [Act.put, List.getElem_toArray, List.getElem_cons_succ, List.getElem_cons_zero, List.setIfInBounds_toArray, List.set_cons_zero, List.set_cons_succ])
      (refine wpAnyH_take (i := 5) (v := ?_) rfl (by kernel_rfl) (by kernel_rfl) (by kernel_rfl) (fun _ _ _ h => h) (Or.inl ⟨by kernel_rfl, ?_⟩) (by assumption) ?_; rotate_left; (focus (intro w hSw; (try dsimp only at hSw); go_simp; all_goals with_reducible rfl)); (try simp only [Act.put, List.getElem_toArray, List.getElem_cons_succ, List.getElem_cons_zero, List.setIfInBounds_toArray, List.set_cons_zero, List.set_cons_succ]))
      (refine wpAnyH_done (by kernel_rfl) ?_ _)
      obtain ⟨bq, hbq⟩ : ∃ b, ((wordS ((k : Int) + 1)).toList == x0) = b := ⟨_, rfl⟩
      have HKN : Hid (kTo x0 (k + 1) = if bq = true then ((k + 1 : Nat) : Int) else kTo x0 k) := Lib.hid (by
        rw [kTo, ← hbq, toList_data]
        by_cases he : x0 = (wordS ((k + 1 : Nat) : Int)).data.toList
        · rw [if_pos he, if_pos]
          rw [beq_iff_eq]; exact he.symm
        · rw [if_neg he, if_neg]
          rw [beq_iff_eq]; exact fun h => he h.symm)
      rw [hbq]
      clear hbq hbw hb2
      cases bq
      · go_wp2_with fail
        exact ⟨⟨k + 1, by omega, by go_num, by rw [HKN.out]; rfl, hbw2⟩, by simp [intOf]; omega⟩
      · go_wp2_with fail
        exact ⟨⟨k + 1, by omega, by go_num, by rw [HKN.out]; rfl, hbw2⟩, by simp [intOf]; omega⟩
    · have hk5 : k = 5 := by omega
      subst hk5
      rw [kTo_five]
      obtain ⟨kd, hK⟩ : ∃ K, kindF x0 = K := ⟨_, rfl⟩
      have hKi := kindF_in x0
      rw [hK] at hKi ⊢
      have HKD := Lib.hid hK
      clear hK hlt hk
      have HBW := Lib.hid hbw
      go_upto_region 10 with (first
        | ((with_reducible refine wpList_buildL bEvt rfl [(1, .tmp 28)] rfl [(1, .int .i64 kd)] (EvtCells (evZ kd) none 0) ?_ (evt_fill1 kd) ?_); exact rfl)
        | ((with_reducible refine wpList_storeL stEvt rfl _ _ rfl (wr.heap.size) (EvtCells zE none 0) (EvtCells (evZ kd) none 0) ?_ ?_ ?_ ?_ ?_ (evtC_one _ _ _) ?_); exact rfl; exact rfl; exact Blk.new wr _ _; exact rfl; exact rfl; intro wz k1 k2 k3 k4; have K := Lib.hid (And.intro k1 (And.intro k2 (And.intro k3 k4))); clear k1 k2 k3 k4))
      have b1 : Below wr.heap.size wr wz := ((Below.refl _ _).alloc (Nat.le_refl _) _).trans K.out.2.2.2
      have HE1 : Hid (Blk wz wr.heap.size 37 (EvtCells (evZ kd) none 0)) := Lib.hid K.out.1
      obtain ⟨w1, hw1⟩ : ∃ W, wz = W := ⟨_, rfl⟩
      rw [hw1] at b1 HE1 ⊢
      obtain ⟨eb, heb⟩ : ∃ q, wr.heap.size = q := ⟨_, rfl⟩
      have hebz : W0.heap.size ≤ eb := by omega
      have HB1 : Hid (Below W0.heap.size W0 w1) := Lib.hid (hbw.trans (b1.mono hbz))
      rw [heb] at HE1 ⊢
      have z1 : eb < w1.heap.size := HE1.out.lt
      clear K hw1 b1 heb HBW hbw hbz
      have hL3 : Hid (∀ w', Below W0.heap.size W0 w' → Strs w' w'.heap.size (some ⟨ad.block, ad.off + 1, none⟩) (x1 :: r)) := Lib.hid (fun w' h => by
        have h1 := Strs.dropS HL.out 1 (by rw [← HN.out]; omega)
        rw [HLR.out] at h1
        exact (h1.below (h.mono z0)).more (Nat.le_trans z0 h.size))
      have hL4 : Hid (∀ w', Below W0.heap.size W0 w' → Strs w' w'.heap.size (if c = 2 then some ad else some ⟨ad.block, ad.off + 2, none⟩) r) := Lib.hid (fun w' h => by
        by_cases hc2 : c = 2
        · have hr0 : r = [] := by
            have h5 := HN.out
            rw [HLR.out] at h5
            simp at h5
            exact List.eq_nil_of_length_eq_zero (by omega)
          rw [if_pos hc2, hr0]
          exact ⟨⟨rfl, fun h => absurd h (by decide)⟩, by simp⟩
        rw [if_neg hc2]
        have h1 := Strs.dropS HL.out 2 (by rw [← HN.out]; omega)
        rw [HLR.out] at h1
        exact (h1.below (h.mono z0)).more (Nat.le_trans z0 h.size))
      have hM1 : ∀ x ∈ (x1 :: r), x.length ≤ 100000 := fun x hx => HM.out x (by rw [HLR.out]; exact List.mem_cons_of_mem _ hx)
      have hM2 : ∀ x ∈ r, x.length ≤ 100000 := fun x hx => hM1 x (List.mem_cons_of_mem _ hx)
      have HM1 := Lib.hid (And.intro hM1 hM2)
      have hnr : n = r.length + 2 := by rw [HN.out, HLR.out]; rfl
      have HNR := Lib.hid hnr
      have HPF : Hid (parseF L = if kd = 1 then (readO r).bind (parse1 x1) else (readF (x1 :: r)).bind (parse2 kd)) := Lib.hid (by
        rw [HLR.out, parseF_cons x0 (by simp), HKD.out]; rfl)
      clear hM1 hM2 hnr
      by_cases hk1 : kd = 1
      case pos =>
        subst hk1
        have HP1 : Hid (parseF L = (readO r).bind (parse1 x1)) := Lib.hid (by rw [HPF.out, if_pos rfl])
        have e1 := (HC0.out _ HB1.out).2
        obtain ⟨v, hv⟩ : ∃ v, (numL x1).1 = v := ⟨_, rfl⟩
        obtain ⟨f, hf⟩ : ∃ f, (numL x1).2 = f := ⟨_, rfl⟩
        have HVF := Lib.hid (And.intro hv hf)
        have hnum : Calls Tryz.prog 128 #[.string ⟨x1.toArray⟩] w1 fun e w'' => e = .returned (.tuple #[.int .i64 v, .int .i64 f]) ∧ Below w1.heap.size w1 w'' := by
          have h1 := number_any ⟨x1.toArray⟩ (by show x1.toArray.size ≤ _; have := HM1.out.1 x1 (List.mem_cons_self ..); simp; omega) w1 (HT.out.below (HB1.out))
          have e : (⟨x1.toArray⟩ : ByteArray).data.toList = x1 := rfl
          rw [e, hv, hf] at h1
          exact h1
        clear hv hf HPF
        go_upto_region 12 with (go_at_call 128; refine hnum.mono ?_; rintro e2 w2 ⟨rfl, hb2⟩)
        have HB2 := Lib.hid (HB1.out.trans (hb2.mono (by omega)))
        have HE2 := Lib.hid (HE1.out.below hb2)
        have z2 := hb2.size
        clear hb2 hnum e1 HE1
        have hro : Calls Tryz.prog 129 #[.slice (if c = 2 then some ad else some ⟨ad.block, ad.off + 2, none⟩) (n - 2) (c - 2)] w2 (RoOut w2 r) := readOrder_any r _ _ _ (by have := HNR.out; omega) (by omega) w2 (hL4.out _ HB2.out) HM1.out.2 (HT.out.below HB2.out)
        have hn2' : (2 : Int) ≤ (n : Int) := by omega
        have hro2 : Calls Tryz.prog 129 #[.slice (if c = 2 then some ad else some ⟨ad.block, ad.off + 2, none⟩) (n - 2) (c - 2)] w2 fun e w' => ∃ (oc : List Value) (ok : Bool), e = .returned (.tuple #[.agg oc.toArray, .bool ok]) ∧ Below w2.heap.size w2 w' ∧ oc.length = 16 ∧ (∀ u ∈ oc, u.oneCell' = true) ∧ (ok = false → readO r = none) ∧ (ok = true → ∃ o C cc, readO r = some o ∧ oc = OrdCells o C cc ∧ IntsOff w' (fun b => w2.heap.size ≤ b) C o.load) := hro.mono (by
          rintro e w' ⟨hb, ⟨h, rfl⟩ | ⟨o, C, cc, h, rfl, hi⟩⟩
          · exact ⟨ins.zOrd, false, rfl, hb, rfl, by decide, fun _ => h, fun e => (by cases e)⟩
          · exact ⟨OrdCells o C cc, true, rfl, hb, rfl, ordCells_one _ _ _, fun e => (by cases e), fun _ => ⟨o, C, cc, h, rfl, hi⟩⟩)
        clear hro
        go_upto_region 13 with (first
          | (go_at_call 129; refine hro2.mono ?_; rintro e3 w3 ⟨oc, ok, rfl, hb3, h9⟩; have HOO := Lib.hid h9; clear h9)
          | ((with_reducible refine wpList_storeL stOrd' rfl _ _ rfl w3.heap.size ins.zOrd oc ?_ ?_ ?_ ?_ ?_ HOO.out.2.1 ?_); exact rfl; exact rfl; exact Blk.new w3 _ _; exact rfl; exact HOO.out.1; intro wz k1 k2 k3 k4; have K := Lib.hid (And.intro k1 (And.intro k2 (And.intro k3 k4))); clear k1 k2 k3 k4))
        obtain ⟨A2, hA2⟩ : ∃ A2, (if c = 2 then some ad else some ⟨ad.block, ad.off + 2, none⟩ : Option Addr) = A2 := ⟨_, rfl⟩
        rw [hA2]
        clear hA2
        obtain ⟨w4, hw4⟩ : ∃ W, wz = W := ⟨_, rfl⟩
        have b34 : Below w3.heap.size w3 w4 := by rw [← hw4]; exact ((Below.refl _ _).alloc (Nat.le_refl _) _).trans K.out.2.2.2
        have HO4 : Hid (Blk w4 w3.heap.size 35 oc) := Lib.hid (by rw [← hw4]; exact K.out.1)
        rw [hw4]
        obtain ⟨qb, hqb⟩ : ∃ q, w3.heap.size = q := ⟨_, rfl⟩
        have HE4 := Lib.hid ((HE2.out.below hb3).below b34)
        have z3 := hb3.size
        have HB4 := Lib.hid (HB2.out.trans ((hb3.trans (b34.mono z3)).mono (by omega)))
        have HI4 : Hid (ok = true → ∃ o C cc, readO r = some o ∧ oc = OrdCells o C cc ∧ IntsOff w4 (fun b => eb < b) C o.load) := Lib.hid (fun h => by
          obtain ⟨o, C, cc, h1, h2, h3⟩ := HOO.out.2.2.2 h
          exact ⟨o, C, cc, h1, h2, intsOff_keep h3 b34.size (fun b hb hp => ⟨by have h9 : w2.heap.size ≤ b := hp; omega, b34.block b hb⟩)⟩)
        have hebq : eb < qb := by omega
        rw [hqb] at HO4 ⊢
        have HO5 := Lib.hid (And.intro HOO.out.1 (And.intro HOO.out.2.1 HOO.out.2.2.1))
        clear K hw4 b34 hqb hb3 hro2 HOO HE2 z3
        (refine wp_region_held_drew (S := (fun w' => CellsAt w' ⟨qb, 0, none⟩ oc)) (by kernel_rfl) ?_ (fun hHeld => ?_))
        · exact HO4.out.cells
        obtain ⟨wd, hwd⟩ : ∃ W, w4.drew = W := ⟨_, rfl⟩
        have HWD : Hid (Blk wd eb 37 (EvtCells (evZ 1) none 0) ∧ Blk wd qb 35 oc ∧ Below eb w4 wd ∧ (∀ b, b < w4.heap.size → wd.heap[b]? = w4.heap[b]?)) := Lib.hid (by rw [← hwd]; exact ⟨HE4.out, HO4.out, (Below.refl _ _).drew, fun b _ => rfl⟩)
        rw [hwd] at hHeld ⊢
        clear hwd
        (refine wpAnyH_take (i := 0) (v := ?_) rfl (by kernel_rfl) (by kernel_rfl) (by kernel_rfl) (fun _ _ _ h => h) (Or.inl ⟨by kernel_rfl, ?_⟩) (by assumption) ?_; rotate_left; (focus (intro w hSw; (try dsimp only at hSw); go_simp; all_goals with_reducible rfl)); (try simp only [Act.put, List.getElem_toArray, List.getElem_cons_succ, List.getElem_cons_zero, List.setIfInBounds_toArray, List.set_cons_zero, List.set_cons_succ]))
        (refine wpAnyH_take (i := 1) (v := _) rfl (by kernel_rfl) (by kernel_rfl) (by kernel_rfl) (fun _ _ _ h => h) (Or.inl ⟨by kernel_rfl, fun _ hSw => exec_loadS stOrd' rfl rfl hSw HO5.out.1⟩) (by assumption) ?_; (try simp only [Act.put, List.getElem_toArray, List.getElem_cons_succ, List.getElem_cons_zero, List.setIfInBounds_toArray, List.set_cons_zero, List.set_cons_succ]))
        (refine wpAnyH_take (i := 2) (v := ?_) rfl (by kernel_rfl) (by kernel_rfl) (by kernel_rfl) (fun _ _ _ h => h) (Or.inl ⟨by kernel_rfl, ?_⟩) (by assumption) ?_; rotate_left; (focus (intro w hSw; (try dsimp only at hSw); go_simp; all_goals with_reducible rfl)); (try simp only [Act.put, List.getElem_toArray, List.getElem_cons_succ, List.getElem_cons_zero, List.setIfInBounds_toArray, List.set_cons_zero, List.set_cons_succ]))
        have hEd := HWD.out.1
        have fc := hEd.cell (j := 0) rfl
        have ff := hEd.frozen 0
        (refine wpAnyH_ready (rs := [3]) (by kernel_rfl) (by simp) ?_; refine AllReadyH.cons rfl (fun K hK => ?_) AllReadyH.nil)
        go_simp
        clear fc ff
        obtain ⟨w5, hw5⟩ : ∃ W, wd.setCell ⟨eb, 0, none⟩ (.int .i64 v) = W := ⟨_, rfl⟩
        rw [hw5]
        have HE5 : Hid (Blk w5 eb 37 ((EvtCells (evZ 1) none 0).set 0 (.int .i64 v)) ∧ Below eb w4 w5 ∧ (∀ k, k ≠ eb → w5.heap[k]? = wd.heap[k]?)) := Lib.hid (by rw [← hw5]; exact ⟨hEd.set 0 _, HWD.out.2.2.1.setCell (p := ⟨eb, 0, none⟩) (Nat.le_refl _) _, fun k hk => Below.heap_setCell wd ⟨eb, 0, none⟩ _ k hk⟩)
        have HO6 : Hid (Blk w5 qb 35 oc) := Lib.hid ((HE5.out.2.2 qb (by omega)).trans HWD.out.2.1)
        clear hw5 hEd
        refine hK.out _ _ (HO6.out.cells) (fun hHeld => ?_)
        clear hK K
        (try simp only [Act.put, List.getElem_toArray, List.getElem_cons_succ, List.getElem_cons_zero, List.setIfInBounds_toArray, List.set_cons_zero, List.set_cons_succ])
        (refine wpAnyH_take (i := 4) (v := ?_) rfl (by kernel_rfl) (by kernel_rfl) (by kernel_rfl) (fun _ _ _ h => h) (Or.inl ⟨by kernel_rfl, ?_⟩) (by assumption) ?_; rotate_left; (focus (intro w hSw; (try dsimp only at hSw); go_simp; all_goals with_reducible rfl)); (try simp only [Act.put, List.getElem_toArray, List.getElem_cons_succ, List.getElem_cons_zero, List.setIfInBounds_toArray, List.set_cons_zero, List.set_cons_succ]))
        (refine wpAnyH_ready (rs := [5]) (by kernel_rfl) (by simp) ?_; refine AllReadyH.cons rfl (fun K hK => ?_) AllReadyH.nil)
        have hst := blk_setCells oc 5 _ _ HE5.out.1
        have hso := fun k h => setCells_other (b := eb) oc 5 w5 k h
        refine step_storeM stOrd' rfl _ _ rfl eb 5 oc rfl rfl (blk_there HE5.out.1 (by rw [List.length_set]; decide)) HO5.out.1 HO5.out.2.1 ?_
        obtain ⟨w6, hw6⟩ : ∃ W, w5.setCells eb 5 oc = W := ⟨_, rfl⟩
        rw [hw6] at hst hso ⊢
        refine hK.out _ _ (Blk.cells (show Blk w6 qb 35 oc from (hso qb (by omega)).trans HO6.out)) (fun hHeld => ?_)
        clear hK K
        (try simp only [Act.put, List.getElem_toArray, List.getElem_cons_succ, List.getElem_cons_zero, List.setIfInBounds_toArray, List.set_cons_zero, List.set_cons_succ])
        (refine wpAnyH_done (by kernel_rfl) ?_ _)
        have HB6 : Hid (Below w.heap.size w w6) := Lib.hid (HB0.out.trans ((HB4.out.trans ((HE5.out.2.1.trans hst.2).mono hebz)).mono z0))
        have HR6 : Hid (Blk w6 rb 37 (EvtCells zE none 0)) := Lib.hid ((hst.2.block rb (by omega)).trans ((HE5.out.2.1.block rb (by omega)).trans ((HB4.out.block rb zz).trans HR0.out)))
        have hlen : (setM ((EvtCells (evZ 1) none 0).set 0 (.int .i64 v)) 5 oc).length = 21 := by rw [off.setM_len, List.length_set]; rfl
        have hone : ∀ u ∈ setM ((EvtCells (evZ 1) none 0).set 0 (.int .i64 v)) 5 oc, u.oneCell' = true := setM_one _ (fun u hu => by
          rcases List.mem_or_eq_of_mem_set hu with h | rfl
          · exact evtC_one _ _ _ u h
          · rfl) HO5.out.2.1
        obtain ⟨CE, hCE⟩ : ∃ CE, setM ((EvtCells (evZ 1) none 0).set 0 (.int .i64 v)) 5 oc = CE := ⟨_, rfl⟩
        have HI6 : Hid (ok = true → ∃ o C cc, readO r = some o ∧ CE = EvtCells ⟨v, 1, 0, 0, 0, o⟩ C cc ∧ IntsOff w6 (fun b => eb < b) C o.load) := Lib.hid (fun h => by
          obtain ⟨o, C, cc, h1, h2, h3⟩ := HI4.out h
          exact ⟨o, C, cc, h1, by rw [← hCE, h2, set_evt], intsOff_keep h3 (Nat.le_trans HE5.out.2.1.size hst.2.size) (fun b hb hp => ⟨hp, (hso b (by have h9 : eb < b := hp; omega)).trans ((HE5.out.2.2 b (by have h9 : eb < b := hp; omega)).trans (HWD.out.2.2.2 b hb))⟩)⟩)
        rw [hCE] at hlen hone hst
        have HCE := Lib.hid (And.intro hlen hone)
        have HE6 := Lib.hid hst.1
        have HP6 : Hid (¬ (ok = true ∧ f = 0) → parseF L = none) := Lib.hid (fun h => by
          rw [HP1.out]
          cases ok
          · rw [HO5.out.2.2 rfl]; rfl
          · obtain ⟨o, C, cc, h1, _⟩ := HI6.out rfl
            rw [h1]
            show parse1 x1 o = none
            unfold parse1
            rw [HVF.out.2, if_neg (fun e => h ⟨rfl, e⟩)])
        clear hlen hone hst hso hCE hw6 HE5 HO6 HWD HI4 HO4 HE4 HB4 HO5 HP1 hHeld
        cases ok
        · have HEE := Lib.hid (HP6.out (by simp))
          go_wp2_with (first
            | ((with_reducible refine wpList_loadG stEvt _ rfl ⟨eb, 0, none⟩ (CE) ?_ ?_ ?_ ?_ ?_); exact rfl; exact rfl; exact (HE6.out).cells; exact (HCE.out.1))
            | ((with_reducible refine wpList_storeL stEvt rfl _ _ rfl rb (EvtCells zE none 0) (CE) ?_ ?_ ?_ ?_ ?_ (HCE.out.2) ?_); exact rfl; exact rfl; exact (HR6.out); exact rfl; exact (HCE.out.1); intro wz k1 k2 k3 k4; have K := Lib.hid (And.intro k1 (And.intro k2 (And.intro k3 k4))); clear k1 k2 k3 k4))
          have HRz : Blk wz rb 37 (CE) := K.out.1
          have hbz : Below w.heap.size w wz := (HB6.out).trans (K.out.2.2.2.mono hrb)
          refine bodyPost_ret (v := .tuple #[.agg (CE).toArray, .bool false]) (big.res_cell_tmp stEvt Tryz.results74 rfl rfl HRz.cells (HCE.out.1)) rfl ?_
          exact ⟨hbz, .inl ⟨HEE.out, _, HCE.out.1, HCE.out.2, rfl⟩⟩
        by_cases hf0 : f = 0
        · subst hf0
          obtain ⟨o, C, cc, ho1, ho2, ho3⟩ := HI6.out rfl
          have HPO : Hid (parseF L = some ⟨v, 1, 0, 0, 0, o⟩ ∧ CE = EvtCells ⟨v, 1, 0, 0, 0, o⟩ C cc ∧ IntsOff w6 (fun b => eb < b) C o.load) := Lib.hid ⟨by
            rw [HLR.out, parseF_cons x0 (by simp), HKD.out, if_pos rfl]
            show (readO r).bind (parse1 x1) = _
            rw [ho1]
            show parse1 x1 o = _
            unfold parse1
            rw [HVF.out.1, HVF.out.2, if_pos rfl], ho2, ho3⟩
          clear ho1 ho2 ho3 HI6 HP6
          go_wp2_with (first
            | ((with_reducible refine wpList_loadG stEvt _ rfl ⟨eb, 0, none⟩ (CE) ?_ ?_ ?_ ?_ ?_); exact rfl; exact rfl; exact (HE6.out).cells; exact (HCE.out.1))
            | ((with_reducible refine wpList_storeL stEvt rfl _ _ rfl rb (EvtCells zE none 0) (CE) ?_ ?_ ?_ ?_ ?_ (HCE.out.2) ?_); exact rfl; exact rfl; exact (HR6.out); exact rfl; exact (HCE.out.1); intro wz k1 k2 k3 k4; have K := Lib.hid (And.intro k1 (And.intro k2 (And.intro k3 k4))); clear k1 k2 k3 k4))
          have HRz : Blk wz rb 37 (CE) := K.out.1
          have hbz : Below w.heap.size w wz := (HB6.out).trans (K.out.2.2.2.mono hrb)
          refine bodyPost_ret (v := .tuple #[.agg (CE).toArray, .bool true]) (big.res_cell_tmp stEvt Tryz.results74 rfl rfl HRz.cells (HCE.out.1)) rfl ?_
          exact ⟨hbz, .inr ⟨_, C, cc, HPO.out.1, by rw [← HPO.out.2.1], intsOff_keep HPO.out.2.2 (by rw [K.out.2.2.1]; exact Nat.le_refl _) (fun b hb hp => ⟨by have h9 : eb < b := hp; show w.heap.size ≤ b; omega, K.out.2.1 b (by have h9 : eb < b := hp; omega)⟩)⟩⟩
        · have hf1 : (f == 0) = false := by simp [hf0]
          have HEE := Lib.hid (HP6.out (by simp [hf0]))
          go_wp2_with (first
            | ((with_reducible refine wpList_loadG stEvt _ rfl ⟨eb, 0, none⟩ (CE) ?_ ?_ ?_ ?_ ?_); exact rfl; exact rfl; exact (HE6.out).cells; exact (HCE.out.1))
            | ((with_reducible refine wpList_storeL stEvt rfl _ _ rfl rb (EvtCells zE none 0) (CE) ?_ ?_ ?_ ?_ ?_ (HCE.out.2) ?_); exact rfl; exact rfl; exact (HR6.out); exact rfl; exact (HCE.out.1); intro wz k1 k2 k3 k4; have K := Lib.hid (And.intro k1 (And.intro k2 (And.intro k3 k4))); clear k1 k2 k3 k4))
          have HRz : Blk wz rb 37 (CE) := K.out.1
          have hbz : Below w.heap.size w wz := (HB6.out).trans (K.out.2.2.2.mono hrb)
          refine bodyPost_ret (v := .tuple #[.agg (CE).toArray, .bool false]) (big.res_cell_tmp stEvt Tryz.results74 rfl rfl HRz.cells (HCE.out.1)) rfl ?_
          exact ⟨hbz, .inl ⟨HEE.out, _, HCE.out.1, HCE.out.2, rfl⟩⟩
      case neg =>
        have HP1 : Hid (parseF L = (readF (x1 :: r)).bind (parse2 kd)) := Lib.hid (by rw [HPF.out, if_neg hk1])
        have hrd : Calls Tryz.prog 130 #[.slice (some ⟨ad.block, ad.off + 1, none⟩) (n - 1) (c - 1)] w1 (RdOut w1 (x1 :: r)) := read_any (x1 :: r) _ _ _ (by have := HNR.out; simp; omega) _ (hL3.out _ HB1.out) HM1.out.1 (HT.out.below HB1.out)
        have hn1' : (1 : Int) ≤ (n : Int) := by omega
        have hrd2 : Calls Tryz.prog 130 #[.slice (some ⟨ad.block, ad.off + 1, none⟩) (n - 1) (c - 1)] w1 fun e w' => ∃ (l : List Int) (A1 : Option Addr) (c1 m1 : Nat) (ok : Bool), e = .returned (.tuple #[.slice A1 m1 c1, .bool ok]) ∧ Below w1.heap.size w1 w' ∧ m1 = l.length ∧ (ok = false → readF (x1 :: r) = none) ∧ (ok = true → readF (x1 :: r) = some l ∧ IOwn w' w1.heap.size A1 c1 l) := hrd.mono (by
          rintro e w' ⟨hb, ⟨h, rfl⟩ | ⟨l, A1, c1, m1, h, hm, rfl, ho⟩⟩
          · exact ⟨[], none, 0, 0, false, rfl, hb, rfl, fun _ => h, fun e => (by cases e)⟩
          · exact ⟨l, A1, c1, m1, true, rfl, hb, hm, fun e => (by cases e), fun _ => ⟨h, ho⟩⟩)
        clear hrd HPF
        go_upto_region 16 with (go_at_call 130; refine hrd2.mono ?_; rintro e2 w2 ⟨ns, A1, c1, m1, ok, rfl, hb2, h9⟩; have HNS := Lib.hid h9; clear h9)
        have HB2 := Lib.hid (HB1.out.trans (hb2.mono (by omega)))
        have HE2 := Lib.hid (HE1.out.below hb2)
        have z2 := hb2.size
        have HR2 : Hid (Blk w2 rb 37 (EvtCells zE none 0)) := Lib.hid ((HB2.out.block rb zz).trans HR0.out)
        have HBW2 := Lib.hid (HB0.out.trans (HB2.out.mono z0))
        clear hb2 hrd2 HE1
        by_cases hk0 : kd = 0
        · subst hk0
          have HEE : Hid (parseF L = none) := Lib.hid (by
            rw [HP1.out]
            cases readF (x1 :: r) with
            | none => rfl
            | some l => rfl)
          go_wp2_with (first
            | ((with_reducible refine wpList_buildL bEvt rfl [] rfl [] (EvtCells zE none 0) ?_ evt_fill0 ?_); exact rfl)
            | ((with_reducible refine wpList_storeL stEvt rfl _ _ rfl (rb) (EvtCells zE none 0) (EvtCells zE none 0) ?_ ?_ ?_ ?_ ?_ (evtC_one _ _ _) ?_); exact rfl; exact rfl; exact (HR2.out); exact rfl; exact rfl; intro wz k1 k2 k3 k4; have K := Lib.hid (And.intro k1 (And.intro k2 (And.intro k3 k4))); clear k1 k2 k3 k4))
          have HRz : Blk wz rb 37 (EvtCells zE none 0) := K.out.1
          refine bodyPost_ret (v := .tuple #[.agg (EvtCells zE none 0).toArray, .bool false]) (big.res_cell_tmp stEvt Tryz.results74 rfl rfl HRz.cells rfl) rfl ?_
          exact ⟨(HBW2.out).trans (K.out.2.2.2.mono hrb), .inl ⟨HEE.out, _, rfl, evtC_one _ _ _, rfl⟩⟩
        have hk0b : (kd == 0) = false := by simp [hk0]
        cases ok
        · have HEE : Hid (parseF L = none) := Lib.hid (by rw [HP1.out, HNS.out.2.1 rfl]; rfl)
          go_wp2_with (first
            | ((with_reducible refine wpList_buildL bEvt rfl [] rfl [] (EvtCells zE none 0) ?_ evt_fill0 ?_); exact rfl)
            | ((with_reducible refine wpList_storeL stEvt rfl _ _ rfl (rb) (EvtCells zE none 0) (EvtCells zE none 0) ?_ ?_ ?_ ?_ ?_ (evtC_one _ _ _) ?_); exact rfl; exact rfl; exact (HR2.out); exact rfl; exact rfl; intro wz k1 k2 k3 k4; have K := Lib.hid (And.intro k1 (And.intro k2 (And.intro k3 k4))); clear k1 k2 k3 k4))
          have HRz : Blk wz rb 37 (EvtCells zE none 0) := K.out.1
          refine bodyPost_ret (v := .tuple #[.agg (EvtCells zE none 0).toArray, .bool false]) (big.res_cell_tmp stEvt Tryz.results74 rfl rfl HRz.cells rfl) rfl ?_
          exact ⟨(HBW2.out).trans (K.out.2.2.2.mono hrb), .inl ⟨HEE.out, _, rfl, evtC_one _ _ _, rfl⟩⟩
        obtain ⟨hns, hio⟩ := HNS.out.2.2 rfl
        have HNA := Lib.hid hns
        have HIO := Lib.hid hio
        have hm1 := HNS.out.1
        have HM1' := Lib.hid hm1
        have hml := (readF_len hns).1
        have hm1b : m1 ≤ 2000000 := by have := (hL3.out _ HB1.out).2; omega
        clear hns hio hm1 hml
        obtain ⟨cn, hcn⟩ : ∃ cn, cntF kd = cn := ⟨_, rfl⟩
        have HCN := Lib.hid hcn
        have hcn4 : 2 ≤ cn ∧ cn ≤ 4 := by
          have hk2 : kd = 2 ∨ kd = 3 ∨ kd = 4 ∨ kd = 5 := by omega
          rw [← hcn]
          rcases hk2 with rfl | rfl | rfl | rfl <;> decide
        have hnl : (numsF (evZ kd)).length = cn := by rw [cntF_eq]; exact hcn
        have HNM : Hid (∀ w', Calls Tryz.prog 64 #[.agg (EvtCells (evZ kd) none 0).toArray] w' fun e w'' => ∃ A2 c2, e = .returned (.slice A2 cn c2) ∧ Below w'.heap.size w' w'') := Lib.hid (fun w' => (numbers_any (evZ kd) none 0 w').mono (by
          rintro e w'' ⟨A2, c2, m2, rfl, hm2, hb, _⟩
          exact ⟨A2, c2, by rw [hm2, hnl], hb⟩))
        clear hcn hnl
        by_cases hmn : m1 = cn
        rotate_left
        · have HEE : Hid (parseF L = none) := Lib.hid (by
            rw [HP1.out, HNA.out]
            show parse2 kd ns = none
            unfold parse2
            rw [if_pos (.inr (by rw [← HM1'.out, HCN.out]; exact hmn))])
          have hmn2 : ((m1 : Int) != (cn : Int)) = true := by simp; omega
          go_upto_region 17 with (first
            | ((with_reducible refine wpList_loadG stEvt _ rfl ⟨eb, 0, none⟩ (EvtCells (evZ kd) none 0) ?_ ?_ ?_ ?_ ?_); exact rfl; exact rfl; exact HE2.out.cells; exact rfl)
            | (go_at_call 64; refine (HNM.out _).mono ?_; rintro e3 w3 ⟨A2, c2, rfl, hb3⟩))
          have HR3 := Lib.hid (HR2.out.below hb3)
          have HBW3 := Lib.hid (HBW2.out.trans (hb3.mono (by have := HB0.out.size; have := HB2.out.size; omega)))
          go_wp2_with (first
            | ((with_reducible refine wpList_buildL bEvt rfl [] rfl [] (EvtCells zE none 0) ?_ evt_fill0 ?_); exact rfl)
            | ((with_reducible refine wpList_storeL stEvt rfl _ _ rfl (rb) (EvtCells zE none 0) (EvtCells zE none 0) ?_ ?_ ?_ ?_ ?_ (evtC_one _ _ _) ?_); exact rfl; exact rfl; exact (HR3.out); exact rfl; exact rfl; intro wz k1 k2 k3 k4; have K := Lib.hid (And.intro k1 (And.intro k2 (And.intro k3 k4))); clear k1 k2 k3 k4))
          have HRz : Blk wz rb 37 (EvtCells zE none 0) := K.out.1
          refine bodyPost_ret (v := .tuple #[.agg (EvtCells zE none 0).toArray, .bool false]) (big.res_cell_tmp stEvt Tryz.results74 rfl rfl HRz.cells rfl) rfl ?_
          exact ⟨(HBW3.out).trans (K.out.2.2.2.mono hrb), .inl ⟨HEE.out, _, rfl, evtC_one _ _ _, rfl⟩⟩
        subst hmn
        obtain ⟨g, hA1, hg1, hg2, hgc⟩ := own_ints HIO.out (by rw [← HM1'.out]; omega)
        subst hA1
        have HGC := Lib.hid hgc
        clear hgc HIO
        go_upto_region 18 with (first
          | ((with_reducible refine wpList_loadG stEvt _ rfl ⟨eb, 0, none⟩ (EvtCells (evZ kd) none 0) ?_ ?_ ?_ ?_ ?_); exact rfl; exact rfl; exact HE2.out.cells; exact rfl)
          | (go_at_call 64; refine (HNM.out _).mono ?_; rintro e3 w3 ⟨A2, c2, rfl, hb3⟩))
        have z3 := hb3.size
        have HR3 := Lib.hid (HR2.out.below hb3)
        have HBW3 := Lib.hid (HBW2.out.trans (hb3.mono (by have := HB0.out.size; have := HB2.out.size; omega)))
        have HE3 := Lib.hid (HE2.out.below hb3)
        have HSC : Hid (∀ w' : World, w'.heap[g]? = w3.heap[g]? → ∀ (j : Nat) (x : Int), ns[j]? = some x → w'.cell? ⟨g, j, none⟩ = some (.int .i64 x)) := Lib.hid (fun w' h j x hx => (World.cell?_of_block (h.trans (hb3.block g hg2))).trans (HGC.out j x hx))
        have HGE : Hid (g ≠ eb) := Lib.hid (by omega)
        have hrbe : rb < eb := by omega
        have hweb : w.heap.size ≤ eb := by omega
        clear HE2 HR2 HBW2 HGC hb3 HNM
        have hk2 : kd = 2 ∨ kd = 3 ∨ kd = 4 ∨ kd = 5 := by omega
        have hlen := HM1'.out
        obtain ⟨n0, hn0'⟩ : ∃ y, ns[0]? = some y := ⟨_, List.getElem?_eq_getElem (by omega)⟩
        obtain ⟨n1, hn1''⟩ : ∃ y, ns[1]? = some y := ⟨_, List.getElem?_eq_getElem (by omega)⟩
        have HN0 := Lib.hid hn0'
        have HN1 := Lib.hid hn1''
        have HW : Hid (Blk w3 eb 37 (EvtCells (evZ kd) none 0) ∧ (∀ k, k ≠ eb → w3.heap[k]? = w3.heap[k]?) ∧ Below eb w3 w3) := Lib.hid ⟨HE3.out, fun _ _ => rfl, Below.refl _ _⟩
        have hcn1 : (1 : Int) < (m1 : Int) := by omega
        have hcn0 : (0 : Int) < (m1 : Int) := by omega
        have hcn1n : 1 < m1 := by omega
        have hcn0n : 0 < m1 := by omega
        clear hn0' hn1'' hlen
        (refine wp_region_held_drew (S := (fun w' => w'.cell? ⟨g, 0, none⟩ = some (.int .i64 n0) ∧ w'.cell? ⟨g, 1, none⟩ = some (.int .i64 n1))) (by kernel_rfl) ?_ (fun hHeld => ?_))
        · exact ⟨HSC.out _ (HW.out.2.1 g HGE.out) 0 _ HN0.out, HSC.out _ (HW.out.2.1 g HGE.out) 1 _ HN1.out⟩
        obtain ⟨wd, hwd⟩ : ∃ W, w3.drew = W := ⟨_, rfl⟩
        have HWd : Hid (Blk wd eb 37 (EvtCells (evZ kd) none 0) ∧ (∀ k, k ≠ eb → wd.heap[k]? = w3.heap[k]?) ∧ Below eb w3 wd) := Lib.hid (by rw [← hwd]; exact ⟨HW.out.1, HW.out.2.1, HW.out.2.2.drew⟩)
        rw [hwd] at hHeld ⊢
        have HW := HWd
        clear HWd hwd
        (refine wpAnyH_take (i := 0) (v := ?_) rfl (by kernel_rfl) (by kernel_rfl) (by kernel_rfl) (fun _ _ _ h => h) (Or.inl ⟨by kernel_rfl, ?_⟩) (by assumption) ?_; rotate_left; (focus (intro w hSw; (try dsimp only at hSw); go_simp; all_goals with_reducible rfl)); (try simp only [Act.put, List.getElem_toArray, List.getElem_cons_succ, List.getElem_cons_zero, List.setIfInBounds_toArray, List.set_cons_zero, List.set_cons_succ]))
        (refine wpAnyH_take (i := 1) (v := ?_) rfl (by kernel_rfl) (by kernel_rfl) (by kernel_rfl) (fun _ _ _ h => h) (Or.inl ⟨by kernel_rfl, ?_⟩) (by assumption) ?_; rotate_left; (focus (intro w hSw; (try dsimp only at hSw); go_simp; all_goals with_reducible rfl)); (try simp only [Act.put, List.getElem_toArray, List.getElem_cons_succ, List.getElem_cons_zero, List.setIfInBounds_toArray, List.set_cons_zero, List.set_cons_succ]))
        (refine wpAnyH_take (i := 2) (v := ?_) rfl (by kernel_rfl) (by kernel_rfl) (by kernel_rfl) (fun _ _ _ h => h) (Or.inl ⟨by kernel_rfl, ?_⟩) (by assumption) ?_; rotate_left; (focus (intro w hSw; (try dsimp only at hSw); go_simp; all_goals with_reducible rfl)); (try simp only [Act.put, List.getElem_toArray, List.getElem_cons_succ, List.getElem_cons_zero, List.setIfInBounds_toArray, List.set_cons_zero, List.set_cons_succ]))
        (refine wpAnyH_take (i := 3) (v := ?_) rfl (by kernel_rfl) (by kernel_rfl) (by kernel_rfl) (fun _ _ _ h => h) (Or.inl ⟨by kernel_rfl, ?_⟩) (by assumption) ?_; rotate_left; (focus (intro w hSw; (try dsimp only at hSw); go_simp; all_goals with_reducible rfl)); (try simp only [Act.put, List.getElem_toArray, List.getElem_cons_succ, List.getElem_cons_zero, List.setIfInBounds_toArray, List.set_cons_zero, List.set_cons_succ]))
        (refine wpAnyH_take (i := 4) (v := ?_) rfl (by kernel_rfl) (by kernel_rfl) (by kernel_rfl) (fun _ _ _ h => h) (Or.inl ⟨by kernel_rfl, ?_⟩) (by assumption) ?_; rotate_left; (focus (intro w hSw; (try dsimp only at hSw); go_simp; all_goals with_reducible rfl)); (try simp only [Act.put, List.getElem_toArray, List.getElem_cons_succ, List.getElem_cons_zero, List.setIfInBounds_toArray, List.set_cons_zero, List.set_cons_succ]))
        (refine wpAnyH_take (i := 5) (v := ?_) rfl (by kernel_rfl) (by kernel_rfl) (by kernel_rfl) (fun _ _ _ h => h) (Or.inl ⟨by kernel_rfl, ?_⟩) (by assumption) ?_; rotate_left; (focus (intro w hSw; (try dsimp only at hSw); go_simp; all_goals with_reducible rfl)); (try simp only [Act.put, List.getElem_toArray, List.getElem_cons_succ, List.getElem_cons_zero, List.setIfInBounds_toArray, List.set_cons_zero, List.set_cons_succ]))
        (refine wpAnyH_take (i := 6) (v := ?_) rfl (by kernel_rfl) (by kernel_rfl) (by kernel_rfl) (fun _ _ _ h => h) (Or.inl ⟨by kernel_rfl, ?_⟩) (by assumption) ?_; rotate_left; (focus (intro w hSw; (try dsimp only at hSw); go_simp; all_goals with_reducible rfl)); (try simp only [Act.put, List.getElem_toArray, List.getElem_cons_succ, List.getElem_cons_zero, List.setIfInBounds_toArray, List.set_cons_zero, List.set_cons_succ]))
        have fc := HW.out.1.cell (j := 0) rfl
        have ff := HW.out.1.frozen 0
        (refine wpAnyH_ready (rs := [7]) (by kernel_rfl) (by simp) ?_; refine AllReadyH.cons rfl (fun K hK => ?_) AllReadyH.nil)
        go_simp
        clear fc ff
        obtain ⟨w4, hwb⟩ : ∃ W, wd.setCell ⟨eb, 0, none⟩ (.int .i64 n0) = W := ⟨_, rfl⟩
        rw [hwb]
        have HWd : Hid (Blk w4 eb 37 (List.set (EvtCells (evZ kd) none 0) 0 (.int .i64 n0)) ∧ (∀ k, k ≠ eb → w4.heap[k]? = w3.heap[k]?) ∧ Below eb w3 w4) := Lib.hid (by rw [← hwb]; exact ⟨HW.out.1.set _ _, fun k hk => (Below.heap_setCell _ _ _ _ hk).trans (HW.out.2.1 k hk), HW.out.2.2.setCell (p := ⟨eb, 0, none⟩) (Nat.le_refl _) _⟩)
        have HW := HWd
        clear HWd hwb
        refine hK.out _ _ (⟨HSC.out _ (HW.out.2.1 g HGE.out) 0 _ HN0.out, HSC.out _ (HW.out.2.1 g HGE.out) 1 _ HN1.out⟩) (fun hHeld => ?_)
        clear hK K
        (try simp only [Act.put, List.getElem_toArray, List.getElem_cons_succ, List.getElem_cons_zero, List.setIfInBounds_toArray, List.set_cons_zero, List.set_cons_succ])
        (refine wpAnyH_take (i := 8) (v := ?_) rfl (by kernel_rfl) (by kernel_rfl) (by kernel_rfl) (fun _ _ _ h => h) (Or.inl ⟨by kernel_rfl, ?_⟩) (by assumption) ?_; rotate_left; (focus (intro w hSw; (try dsimp only at hSw); go_simp; all_goals with_reducible rfl)); (try simp only [Act.put, List.getElem_toArray, List.getElem_cons_succ, List.getElem_cons_zero, List.setIfInBounds_toArray, List.set_cons_zero, List.set_cons_succ]))
        have fc := HW.out.1.cell (j := 2) rfl
        have ff := HW.out.1.frozen 2
        (refine wpAnyH_ready (rs := [9]) (by kernel_rfl) (by simp) ?_; refine AllReadyH.cons rfl (fun K hK => ?_) AllReadyH.nil)
        go_simp
        clear fc ff
        obtain ⟨w5, hwb⟩ : ∃ W, w4.setCell ⟨eb, 2, none⟩ (.int .i64 n1) = W := ⟨_, rfl⟩
        rw [hwb]
        have HWd : Hid (Blk w5 eb 37 (List.set (List.set (EvtCells (evZ kd) none 0) 0 (.int .i64 n0)) 2 (.int .i64 n1)) ∧ (∀ k, k ≠ eb → w5.heap[k]? = w3.heap[k]?) ∧ Below eb w3 w5) := Lib.hid (by rw [← hwb]; exact ⟨HW.out.1.set _ _, fun k hk => (Below.heap_setCell _ _ _ _ hk).trans (HW.out.2.1 k hk), HW.out.2.2.setCell (p := ⟨eb, 2, none⟩) (Nat.le_refl _) _⟩)
        have HW := HWd
        clear HWd hwb
        refine hK.out _ _ (⟨HSC.out _ (HW.out.2.1 g HGE.out) 0 _ HN0.out, HSC.out _ (HW.out.2.1 g HGE.out) 1 _ HN1.out⟩) (fun hHeld => ?_)
        clear hK K
        (try simp only [Act.put, List.getElem_toArray, List.getElem_cons_succ, List.getElem_cons_zero, List.setIfInBounds_toArray, List.set_cons_zero, List.set_cons_succ])
        (refine wpAnyH_done (by kernel_rfl) ?_ _)
        rcases hk2 with rfl | rfl | rfl | rfl
        · skip
          have hcs : List.set (List.set (EvtCells (evZ 2) none 0) 0 (.int .i64 n0)) 2 (.int .i64 n1) = EvtCells (evtM 2 ns) none 0 := by simp [evtM, EvtCells, evZ, HN0.out, HN1.out]
          have HPO : Hid (parseF L = some (evtM 2 ns)) := Lib.hid (by
            rw [HP1.out, HNA.out]
            show parse2 2 ns = _
            unfold parse2
            rw [if_neg (by rw [← HM1'.out, HCN.out]; simp)])
          have HE9 : Hid (Blk w5 eb 37 (EvtCells (evtM 2 ns) none 0)) := Lib.hid (by rw [← hcs]; exact HW.out.1)
          have HR9 : Hid (Blk w5 rb 37 (EvtCells zE none 0)) := Lib.hid ((HW.out.2.2.block rb (by omega)).trans HR3.out)
          have HB9 : Hid (Below w.heap.size w w5) := Lib.hid (HBW3.out.trans (HW.out.2.2.mono (by omega)))
          clear hcs
          go_wp2_with (first
            | ((with_reducible refine wpList_loadG stEvt _ rfl ⟨eb, 0, none⟩ (EvtCells (evtM 2 ns) none 0) ?_ ?_ ?_ ?_ ?_); exact rfl; exact rfl; exact (HE9.out).cells; exact (rfl))
            | ((with_reducible refine wpList_storeL stEvt rfl _ _ rfl rb (EvtCells zE none 0) (EvtCells (evtM 2 ns) none 0) ?_ ?_ ?_ ?_ ?_ (evtC_one _ _ _) ?_); exact rfl; exact rfl; exact (HR9.out); exact rfl; exact (rfl); intro wz k1 k2 k3 k4; have K := Lib.hid (And.intro k1 (And.intro k2 (And.intro k3 k4))); clear k1 k2 k3 k4))
          have HRz : Blk wz rb 37 (EvtCells (evtM 2 ns) none 0) := K.out.1
          have hbz : Below w.heap.size w wz := (HB9.out).trans (K.out.2.2.2.mono hrb)
          refine bodyPost_ret (v := .tuple #[.agg (EvtCells (evtM 2 ns) none 0).toArray, .bool true]) (big.res_cell_tmp stEvt Tryz.results74 rfl rfl HRz.cells (rfl)) rfl ?_
          exact ⟨hbz, .inr ⟨_, none, 0, HPO.out, rfl, ⟨Ints.nil, fun h => absurd h (by simp [evtM, ordO])⟩⟩⟩
        · have hm4 : m1 = 4 := by rw [← HCN.out]; rfl
          have hlen := HM1'.out
          obtain ⟨n2, hn2'⟩ : ∃ y, ns[2]? = some y := ⟨_, List.getElem?_eq_getElem (by omega)⟩
          obtain ⟨n3, hn3'⟩ : ∃ y, ns[3]? = some y := ⟨_, List.getElem?_eq_getElem (by omega)⟩
          have HN2 := Lib.hid hn2'
          have HN3 := Lib.hid hn3'
          have hcn2 : (2 : Int) < (m1 : Int) := by omega
          have hcn3 : (3 : Int) < (m1 : Int) := by omega
          have hcn2n : 2 < m1 := by omega
          have hcn3n : 3 < m1 := by omega
          clear hn2' hn3' hlen hm4
          go_upto_region 21 with fail
          (refine wp_region_held_drew (S := (fun w' => w'.cell? ⟨g, 2, none⟩ = some (.int .i64 n2) ∧ w'.cell? ⟨g, 3, none⟩ = some (.int .i64 n3))) (by kernel_rfl) ?_ (fun hHeld => ?_))
          · exact ⟨HSC.out _ (HW.out.2.1 g HGE.out) 2 _ HN2.out, HSC.out _ (HW.out.2.1 g HGE.out) 3 _ HN3.out⟩
          obtain ⟨wd2, hwd⟩ : ∃ W, w5.drew = W := ⟨_, rfl⟩
          have HWd : Hid (Blk wd2 eb 37 (List.set (List.set (EvtCells (evZ 3) none 0) 0 (.int .i64 n0)) 2 (.int .i64 n1)) ∧ (∀ k, k ≠ eb → wd2.heap[k]? = w3.heap[k]?) ∧ Below eb w3 wd2) := Lib.hid (by rw [← hwd]; exact ⟨HW.out.1, HW.out.2.1, HW.out.2.2.drew⟩)
          rw [hwd] at hHeld ⊢
          have HW := HWd
          clear HWd hwd
          (refine wpAnyH_take (i := 0) (v := ?_) rfl (by kernel_rfl) (by kernel_rfl) (by kernel_rfl) (fun _ _ _ h => h) (Or.inl ⟨by kernel_rfl, ?_⟩) (by assumption) ?_; rotate_left; (focus (intro w hSw; (try dsimp only at hSw); go_simp; all_goals with_reducible rfl)); (try simp only [Act.put, List.getElem_toArray, List.getElem_cons_succ, List.getElem_cons_zero, List.setIfInBounds_toArray, List.set_cons_zero, List.set_cons_succ]))
          (refine wpAnyH_take (i := 1) (v := ?_) rfl (by kernel_rfl) (by kernel_rfl) (by kernel_rfl) (fun _ _ _ h => h) (Or.inl ⟨by kernel_rfl, ?_⟩) (by assumption) ?_; rotate_left; (focus (intro w hSw; (try dsimp only at hSw); go_simp; all_goals with_reducible rfl)); (try simp only [Act.put, List.getElem_toArray, List.getElem_cons_succ, List.getElem_cons_zero, List.setIfInBounds_toArray, List.set_cons_zero, List.set_cons_succ]))
          (refine wpAnyH_take (i := 2) (v := ?_) rfl (by kernel_rfl) (by kernel_rfl) (by kernel_rfl) (fun _ _ _ h => h) (Or.inl ⟨by kernel_rfl, ?_⟩) (by assumption) ?_; rotate_left; (focus (intro w hSw; (try dsimp only at hSw); go_simp; all_goals with_reducible rfl)); (try simp only [Act.put, List.getElem_toArray, List.getElem_cons_succ, List.getElem_cons_zero, List.setIfInBounds_toArray, List.set_cons_zero, List.set_cons_succ]))
          (refine wpAnyH_take (i := 3) (v := ?_) rfl (by kernel_rfl) (by kernel_rfl) (by kernel_rfl) (fun _ _ _ h => h) (Or.inl ⟨by kernel_rfl, ?_⟩) (by assumption) ?_; rotate_left; (focus (intro w hSw; (try dsimp only at hSw); go_simp; all_goals with_reducible rfl)); (try simp only [Act.put, List.getElem_toArray, List.getElem_cons_succ, List.getElem_cons_zero, List.setIfInBounds_toArray, List.set_cons_zero, List.set_cons_succ]))
          (refine wpAnyH_take (i := 4) (v := ?_) rfl (by kernel_rfl) (by kernel_rfl) (by kernel_rfl) (fun _ _ _ h => h) (Or.inl ⟨by kernel_rfl, ?_⟩) (by assumption) ?_; rotate_left; (focus (intro w hSw; (try dsimp only at hSw); go_simp; all_goals with_reducible rfl)); (try simp only [Act.put, List.getElem_toArray, List.getElem_cons_succ, List.getElem_cons_zero, List.setIfInBounds_toArray, List.set_cons_zero, List.set_cons_succ]))
          (refine wpAnyH_take (i := 5) (v := ?_) rfl (by kernel_rfl) (by kernel_rfl) (by kernel_rfl) (fun _ _ _ h => h) (Or.inl ⟨by kernel_rfl, ?_⟩) (by assumption) ?_; rotate_left; (focus (intro w hSw; (try dsimp only at hSw); go_simp; all_goals with_reducible rfl)); (try simp only [Act.put, List.getElem_toArray, List.getElem_cons_succ, List.getElem_cons_zero, List.setIfInBounds_toArray, List.set_cons_zero, List.set_cons_succ]))
          (refine wpAnyH_take (i := 6) (v := ?_) rfl (by kernel_rfl) (by kernel_rfl) (by kernel_rfl) (fun _ _ _ h => h) (Or.inl ⟨by kernel_rfl, ?_⟩) (by assumption) ?_; rotate_left; (focus (intro w hSw; (try dsimp only at hSw); go_simp; all_goals with_reducible rfl)); (try simp only [Act.put, List.getElem_toArray, List.getElem_cons_succ, List.getElem_cons_zero, List.setIfInBounds_toArray, List.set_cons_zero, List.set_cons_succ]))
          have fc := HW.out.1.cell (j := 3) rfl
          have ff := HW.out.1.frozen 3
          (refine wpAnyH_ready (rs := [7]) (by kernel_rfl) (by simp) ?_; refine AllReadyH.cons rfl (fun K hK => ?_) AllReadyH.nil)
          go_simp
          clear fc ff
          obtain ⟨w6, hwb⟩ : ∃ W, wd2.setCell ⟨eb, 3, none⟩ (.int .i64 n2) = W := ⟨_, rfl⟩
          rw [hwb]
          have HWd : Hid (Blk w6 eb 37 (List.set (List.set (List.set (EvtCells (evZ 3) none 0) 0 (.int .i64 n0)) 2 (.int .i64 n1)) 3 (.int .i64 n2)) ∧ (∀ k, k ≠ eb → w6.heap[k]? = w3.heap[k]?) ∧ Below eb w3 w6) := Lib.hid (by rw [← hwb]; exact ⟨HW.out.1.set _ _, fun k hk => (Below.heap_setCell _ _ _ _ hk).trans (HW.out.2.1 k hk), HW.out.2.2.setCell (p := ⟨eb, 3, none⟩) (Nat.le_refl _) _⟩)
          have HW := HWd
          clear HWd hwb
          refine hK.out _ _ (⟨HSC.out _ (HW.out.2.1 g HGE.out) 2 _ HN2.out, HSC.out _ (HW.out.2.1 g HGE.out) 3 _ HN3.out⟩) (fun hHeld => ?_)
          clear hK K
          (try simp only [Act.put, List.getElem_toArray, List.getElem_cons_succ, List.getElem_cons_zero, List.setIfInBounds_toArray, List.set_cons_zero, List.set_cons_succ])
          (refine wpAnyH_take (i := 8) (v := ?_) rfl (by kernel_rfl) (by kernel_rfl) (by kernel_rfl) (fun _ _ _ h => h) (Or.inl ⟨by kernel_rfl, ?_⟩) (by assumption) ?_; rotate_left; (focus (intro w hSw; (try dsimp only at hSw); go_simp; all_goals with_reducible rfl)); (try simp only [Act.put, List.getElem_toArray, List.getElem_cons_succ, List.getElem_cons_zero, List.setIfInBounds_toArray, List.set_cons_zero, List.set_cons_succ]))
          have fc := HW.out.1.cell (j := 4) rfl
          have ff := HW.out.1.frozen 4
          (refine wpAnyH_ready (rs := [9]) (by kernel_rfl) (by simp) ?_; refine AllReadyH.cons rfl (fun K hK => ?_) AllReadyH.nil)
          go_simp
          clear fc ff
          obtain ⟨w7, hwb⟩ : ∃ W, w6.setCell ⟨eb, 4, none⟩ (.int .i64 n3) = W := ⟨_, rfl⟩
          rw [hwb]
          have HWd : Hid (Blk w7 eb 37 (List.set (List.set (List.set (List.set (EvtCells (evZ 3) none 0) 0 (.int .i64 n0)) 2 (.int .i64 n1)) 3 (.int .i64 n2)) 4 (.int .i64 n3)) ∧ (∀ k, k ≠ eb → w7.heap[k]? = w3.heap[k]?) ∧ Below eb w3 w7) := Lib.hid (by rw [← hwb]; exact ⟨HW.out.1.set _ _, fun k hk => (Below.heap_setCell _ _ _ _ hk).trans (HW.out.2.1 k hk), HW.out.2.2.setCell (p := ⟨eb, 4, none⟩) (Nat.le_refl _) _⟩)
          have HW := HWd
          clear HWd hwb
          refine hK.out _ _ (⟨HSC.out _ (HW.out.2.1 g HGE.out) 2 _ HN2.out, HSC.out _ (HW.out.2.1 g HGE.out) 3 _ HN3.out⟩) (fun hHeld => ?_)
          clear hK K
          (try simp only [Act.put, List.getElem_toArray, List.getElem_cons_succ, List.getElem_cons_zero, List.setIfInBounds_toArray, List.set_cons_zero, List.set_cons_succ])
          (refine wpAnyH_done (by kernel_rfl) ?_ _)
          have hcs : List.set (List.set (List.set (List.set (EvtCells (evZ 3) none 0) 0 (.int .i64 n0)) 2 (.int .i64 n1)) 3 (.int .i64 n2)) 4 (.int .i64 n3) = EvtCells (evtM 3 ns) none 0 := by simp [evtM, EvtCells, evZ, HN0.out, HN1.out, HN2.out, HN3.out]
          have HPO : Hid (parseF L = some (evtM 3 ns)) := Lib.hid (by
            rw [HP1.out, HNA.out]
            show parse2 3 ns = _
            unfold parse2
            rw [if_neg (by rw [← HM1'.out, HCN.out]; simp)])
          have HE9 : Hid (Blk w7 eb 37 (EvtCells (evtM 3 ns) none 0)) := Lib.hid (by rw [← hcs]; exact HW.out.1)
          have HR9 : Hid (Blk w7 rb 37 (EvtCells zE none 0)) := Lib.hid ((HW.out.2.2.block rb (by omega)).trans HR3.out)
          have HB9 : Hid (Below w.heap.size w w7) := Lib.hid (HBW3.out.trans (HW.out.2.2.mono (by omega)))
          clear hcs
          go_wp2_with (first
            | ((with_reducible refine wpList_loadG stEvt _ rfl ⟨eb, 0, none⟩ (EvtCells (evtM 3 ns) none 0) ?_ ?_ ?_ ?_ ?_); exact rfl; exact rfl; exact (HE9.out).cells; exact (rfl))
            | ((with_reducible refine wpList_storeL stEvt rfl _ _ rfl rb (EvtCells zE none 0) (EvtCells (evtM 3 ns) none 0) ?_ ?_ ?_ ?_ ?_ (evtC_one _ _ _) ?_); exact rfl; exact rfl; exact (HR9.out); exact rfl; exact (rfl); intro wz k1 k2 k3 k4; have K := Lib.hid (And.intro k1 (And.intro k2 (And.intro k3 k4))); clear k1 k2 k3 k4))
          have HRz : Blk wz rb 37 (EvtCells (evtM 3 ns) none 0) := K.out.1
          have hbz : Below w.heap.size w wz := (HB9.out).trans (K.out.2.2.2.mono hrb)
          refine bodyPost_ret (v := .tuple #[.agg (EvtCells (evtM 3 ns) none 0).toArray, .bool true]) (big.res_cell_tmp stEvt Tryz.results74 rfl rfl HRz.cells (rfl)) rfl ?_
          exact ⟨hbz, .inr ⟨_, none, 0, HPO.out, rfl, ⟨Ints.nil, fun h => absurd h (by simp [evtM, ordO])⟩⟩⟩
        · skip
          have hcs : List.set (List.set (EvtCells (evZ 4) none 0) 0 (.int .i64 n0)) 2 (.int .i64 n1) = EvtCells (evtM 4 ns) none 0 := by simp [evtM, EvtCells, evZ, HN0.out, HN1.out]
          have HPO : Hid (parseF L = some (evtM 4 ns)) := Lib.hid (by
            rw [HP1.out, HNA.out]
            show parse2 4 ns = _
            unfold parse2
            rw [if_neg (by rw [← HM1'.out, HCN.out]; simp)])
          have HE9 : Hid (Blk w5 eb 37 (EvtCells (evtM 4 ns) none 0)) := Lib.hid (by rw [← hcs]; exact HW.out.1)
          have HR9 : Hid (Blk w5 rb 37 (EvtCells zE none 0)) := Lib.hid ((HW.out.2.2.block rb (by omega)).trans HR3.out)
          have HB9 : Hid (Below w.heap.size w w5) := Lib.hid (HBW3.out.trans (HW.out.2.2.mono (by omega)))
          clear hcs
          go_wp2_with (first
            | ((with_reducible refine wpList_loadG stEvt _ rfl ⟨eb, 0, none⟩ (EvtCells (evtM 4 ns) none 0) ?_ ?_ ?_ ?_ ?_); exact rfl; exact rfl; exact (HE9.out).cells; exact (rfl))
            | ((with_reducible refine wpList_storeL stEvt rfl _ _ rfl rb (EvtCells zE none 0) (EvtCells (evtM 4 ns) none 0) ?_ ?_ ?_ ?_ ?_ (evtC_one _ _ _) ?_); exact rfl; exact rfl; exact (HR9.out); exact rfl; exact (rfl); intro wz k1 k2 k3 k4; have K := Lib.hid (And.intro k1 (And.intro k2 (And.intro k3 k4))); clear k1 k2 k3 k4))
          have HRz : Blk wz rb 37 (EvtCells (evtM 4 ns) none 0) := K.out.1
          have hbz : Below w.heap.size w wz := (HB9.out).trans (K.out.2.2.2.mono hrb)
          refine bodyPost_ret (v := .tuple #[.agg (EvtCells (evtM 4 ns) none 0).toArray, .bool true]) (big.res_cell_tmp stEvt Tryz.results74 rfl rfl HRz.cells (rfl)) rfl ?_
          exact ⟨hbz, .inr ⟨_, none, 0, HPO.out, rfl, ⟨Ints.nil, fun h => absurd h (by simp [evtM, ordO])⟩⟩⟩
        · have hm4 : m1 = 3 := by rw [← HCN.out]; rfl
          have hlen := HM1'.out
          obtain ⟨n2, hn2'⟩ : ∃ y, ns[2]? = some y := ⟨_, List.getElem?_eq_getElem (by omega)⟩
          have HN2 := Lib.hid hn2'
          have hcn2 : (2 : Int) < (m1 : Int) := by omega
          have hcn2n : 2 < m1 := by omega
          clear hn2' hlen hm4
          have fg := HSC.out w5 (HW.out.2.1 g HGE.out) 2 _ HN2.out
          have fc := HW.out.1.cell (j := 4) rfl
          have ff := HW.out.1.frozen 4
          go_upto_region 24 with fail
          clear fg fc ff
          obtain ⟨w6, hwb⟩ : ∃ W, w5.setCell ⟨eb, 4, none⟩ (.int .i64 n2) = W := ⟨_, rfl⟩
          rw [hwb]
          have HWd : Hid (Blk w6 eb 37 (List.set (List.set (List.set (EvtCells (evZ 5) none 0) 0 (.int .i64 n0)) 2 (.int .i64 n1)) 4 (.int .i64 n2)) ∧ (∀ k, k ≠ eb → w6.heap[k]? = w3.heap[k]?) ∧ Below eb w3 w6) := Lib.hid (by rw [← hwb]; exact ⟨HW.out.1.set _ _, fun k hk => (Below.heap_setCell _ _ _ _ hk).trans (HW.out.2.1 k hk), HW.out.2.2.setCell (p := ⟨eb, 4, none⟩) (Nat.le_refl _) _⟩)
          have HW := HWd
          clear HWd hwb
          have hcs : List.set (List.set (List.set (EvtCells (evZ 5) none 0) 0 (.int .i64 n0)) 2 (.int .i64 n1)) 4 (.int .i64 n2) = EvtCells (evtM 5 ns) none 0 := by simp [evtM, EvtCells, evZ, HN0.out, HN1.out, HN2.out]
          have HPO : Hid (parseF L = some (evtM 5 ns)) := Lib.hid (by
            rw [HP1.out, HNA.out]
            show parse2 5 ns = _
            unfold parse2
            rw [if_neg (by rw [← HM1'.out, HCN.out]; simp)])
          have HE9 : Hid (Blk w6 eb 37 (EvtCells (evtM 5 ns) none 0)) := Lib.hid (by rw [← hcs]; exact HW.out.1)
          have HR9 : Hid (Blk w6 rb 37 (EvtCells zE none 0)) := Lib.hid ((HW.out.2.2.block rb (by omega)).trans HR3.out)
          have HB9 : Hid (Below w.heap.size w w6) := Lib.hid (HBW3.out.trans (HW.out.2.2.mono (by omega)))
          clear hcs
          go_wp2_with (first
            | ((with_reducible refine wpList_loadG stEvt _ rfl ⟨eb, 0, none⟩ (EvtCells (evtM 5 ns) none 0) ?_ ?_ ?_ ?_ ?_); exact rfl; exact rfl; exact (HE9.out).cells; exact (rfl))
            | ((with_reducible refine wpList_storeL stEvt rfl _ _ rfl rb (EvtCells zE none 0) (EvtCells (evtM 5 ns) none 0) ?_ ?_ ?_ ?_ ?_ (evtC_one _ _ _) ?_); exact rfl; exact rfl; exact (HR9.out); exact rfl; exact (rfl); intro wz k1 k2 k3 k4; have K := Lib.hid (And.intro k1 (And.intro k2 (And.intro k3 k4))); clear k1 k2 k3 k4))
          have HRz : Blk wz rb 37 (EvtCells (evtM 5 ns) none 0) := K.out.1
          have hbz : Below w.heap.size w wz := (HB9.out).trans (K.out.2.2.2.mono hrb)
          refine bodyPost_ret (v := .tuple #[.agg (EvtCells (evtM 5 ns) none 0).toArray, .bool true]) (big.res_cell_tmp stEvt Tryz.results74 rfl rfl HRz.cells (rfl)) rfl ?_
          exact ⟨hbz, .inr ⟨_, none, 0, HPO.out, rfl, ⟨Ints.nil, fun h => absurd h (by simp [evtM, ordO])⟩⟩⟩
end Go.Proofs.YtofabhenmplkoaaGreatDoor.evt
