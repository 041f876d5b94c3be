/- event.Print of the program, walked. -/
import Derived.Test.YtofabhenmplkoaaGreatDoorPrtB
namespace Go.Proofs.YtofabhenmplkoaaGreatDoor.evt
open Go.RowKit
open Go.Proofs.YtofabhenmplkoaaGreatDoor.lib Go.Proofs.YtofabhenmplkoaaGreatDoor.rd Go.Proofs.YtofabhenmplkoaaGreatDoor.app Go.Proofs.YtofabhenmplkoaaGreatDoor.els Go.Proofs.YtofabhenmplkoaaGreatDoor.typ Go.Proofs.YtofabhenmplkoaaGreatDoor.big Go.Proofs.YtofabhenmplkoaaGreatDoor.ins Go.Proofs.YtofabhenmplkoaaGreatDoor.ord Go.Proofs.YtofabhenmplkoaaGreatDoor.gen
open Go.Proofs.YtofabhenmplkoaaGreatDoor.txt (in64 By strV strV_of joinS decW decW_any Tabs elem_str nameB name_any toList_data)
set_option linter.unusedVariables false
set_option linter.unusedSimpArgs false

theorem tjoin_any (L : List By) (g n c base : Nat) (w : World) (hn : n = L.length) (hown : w.ownsRow base 9 1 (.slice (some ⟨g, 0, none⟩) n c) n (L.map strV)) (h0 : 0 < n) (hn1 : n ≤ 100000) (hlen : (joinS L).length ≤ 140737488355328) :
    Calls Tryz.prog 68 #[.slice (some ⟨g, 0, none⟩) n c] w fun e w' => e = .returned (.string ⟨(joinS L).toArray⟩) ∧ Below w.heap.size w w' := by
  obtain ⟨xs, hxs⟩ : ∃ xs : List ByteArray, xs = L.map fun l => ⟨l.toArray⟩ := ⟨_, rfl⟩
  have hxl : xs.length = n := by rw [hxs, hn]; simp
  have hxm : xs.map (·.data.toList) = L := by rw [hxs, List.map_map]; exact List.map_id L
  have hcap : xs.length ≤ c := by
    rw [hxl]
    rcases hown.2 with ⟨h, hz⟩ | ⟨g0, cap0, cur, h, _, hg, hnc, _⟩
    · cases h
    · injection h with e1 e2 e3
      omega
  have hbk : g < w.heap.size := by
    obtain ⟨g1, c1, hv, _, hlt⟩ := hown.form h0
    injection hv with e1 e2 e3
    have e4 : g = g1 := congrArg Addr.block (Option.some.inj e1)
    omega
  have hcells : ∀ (j : Nat) x, xs[j]? = some x → w.cell? ⟨g, 0 + j, none⟩ = some (.string x) := by
    intro j x hx
    have hj : j < n := by rw [← hxl]; exact (List.getElem?_eq_some_iff.1 hx).1
    have h := hown.cellAt j (by omega)
    rw [Nat.zero_add, h, List.getElem?_map]
    rw [hxs, List.getElem?_map] at hx
    cases hL : L[j]? with
    | none => rw [hL] at hx; cases hx
    | some l =>
      rw [hL] at hx
      have hx2 := Option.some.inj hx
      show some (strV l) = some (Value.string x)
      rw [← hx2]; rfl
  have hc := Tryz.strings_Join g 0 c xs ⟨#[32]⟩ w hcells hbk (by omega) hcap (by rw [hxm]; exact hlen)
  rw [hxl, hxm] at hc
  have hc2 : Calls Tryz.prog 102 #[.slice (some ⟨g, 0, none⟩) n c, .string ⟨#[32]⟩] w fun e w' => e = .returned (.string ⟨(joinS L).toArray⟩) ∧ Below w.heap.size w w' := hc
  clear hc hcells hbk hcap hxm hxl hown hxs hlen hn
  go_enter Tryz.func68, Tryz.ntmps68
  go_wp2_with (go_at_call 102; refine hc2.mono ?_; rintro e w1 ⟨rfl, hb1⟩)
  go_ret
  exact ⟨rfl, hb1⟩

theorem word_len (k : Int) : (wordS k).data.toList.length ≤ 20 := by
  unfold wordS
  repeat (first | split | decide)
theorem word_ne {k : Int} (h : 1 ≤ k ∧ k ≤ 5) : ¬ (wordS k).toList = [] := by
  have hk : k = 1 ∨ k = 2 ∨ k = 3 ∨ k = 4 ∨ k = 5 := by omega
  rcases hk with rfl | rfl | rfl | rfl | rfl <;> (rw [toList_data]; decide)
theorem numsF_len (e : Evt) : (numsF e).length ≤ 4 ∧ 0 < (numsF e).length := by
  unfold numsF
  by_cases h3 : e.kind = 3
  · rw [if_pos h3]; exact ⟨Nat.le_refl _, by simp⟩
  rw [if_neg h3]
  by_cases h5 : e.kind = 5
  · rw [if_pos h5]; exact ⟨by simp, by simp⟩
  rw [if_neg h5]
  by_cases h4 : e.kind = 4 ∨ e.kind = 2
  · rw [if_pos h4]; exact ⟨by simp, by simp⟩
  · rw [if_neg h4]; exact ⟨by simp, by simp⟩
theorem parts_len {e : Evt} (he : Evt64 e) (h : prtE e = 0) : (joinS (partsF e)).length ≤ 5000 := by
  have hn := (numsF_len e).1
  have h64 := nums64 he.1
  unfold prtE at h
  by_cases hk : ¬ (1 ≤ e.kind ∧ e.kind ≤ 5)
  · rw [if_pos hk] at h; omega
  rw [if_neg hk] at h
  by_cases hc : ¬ cleanB e = true
  · rw [if_pos hc] at h; omega
  rw [if_neg hc] at h
  by_cases h1 : e.kind = 1
  · rw [if_pos h1] at h
    by_cases ho : e.order.off = true
    · rw [if_pos ho] at h; omega
    rw [if_neg ho] at h
    by_cases hnm : ¬ nameB e.order.name = true
    · rw [if_pos hnm] at h; omega
    rw [if_neg hnm] at h
    by_cases hl : 3 < e.order.load.length
    · rw [if_pos hl] at h; omega
    have hnm2 : nameB e.order.name = true := Decidable.not_not.1 hnm
    have hsz : e.order.name.size ≤ 16 := by
      unfold nameB at hnm2
      rw [Bool.and_eq_true, Bool.and_eq_true] at hnm2
      exact (of_decide_eq_true hnm2.1.1).2
    have ho64 := ord64 he.1.2.2.2.2.2 he.2 (by omega)
    refine join_le ?_ ?_
    · intro x hx
      unfold partsF at hx
      rw [if_pos h1, List.mem_cons, List.mem_append, List.mem_cons] at hx
      rcases hx with rfl | hx | rfl | hx
      · exact word_len _
      · obtain ⟨y, hy, rfl⟩ := List.mem_map.1 hx; exact itoa_len (h64 y hy)
      · simp; omega
      · obtain ⟨y, hy, rfl⟩ := List.mem_map.1 hx; exact itoa_len (ho64 y hy)
    · unfold partsF ordN stpN
      rw [if_pos h1]
      simp
      omega
  · refine join_le ?_ ?_
    · intro x hx
      unfold partsF at hx
      rw [if_neg h1, List.append_nil, List.mem_cons] at hx
      rcases hx with rfl | hx
      · exact word_len _
      · obtain ⟨y, hy, rfl⟩ := List.mem_map.1 hx; exact itoa_len (h64 y hy)
    · unfold partsF
      rw [if_neg h1]
      simp
      omega
set_option maxRecDepth 20000 in
set_option maxHeartbeats 4000000 in
theorem print_any (e : Evt) (C : Option Addr) (c : Nat) (w : World) (ht : Tabs w) (he : Evt64 e) (hI : Ints w w.heap.size C e.order.load) (hnm : e.order.name.size ≤ 140737488351232) (hld : e.order.load.length ≤ 1000) :
    Calls Tryz.prog 22 #[.agg (EvtCells e C c).toArray] w (PrOut w e) := by
  show Calls Tryz.prog 22 #[.agg #[.int .i64 e.at_, .int .i64 e.kind, .int .i64 e.a, .int .i64 e.b, .int .i64 e.n, .string e.order.name, .slice C e.order.load.length c, .int .i64 e.order.pick.place, .int .i64 e.order.pick.opn, .int .i64 e.order.pick.close, .int .i64 e.order.pick.service, .int .i64 e.order.drop.place, .int .i64 e.order.drop.opn, .int .i64 e.order.drop.close, .int .i64 e.order.drop.service, .int .i64 e.order.skills, .int .i64 e.order.penalty, .int .i64 e.order.split, .int .i64 e.order.last, .int .i64 e.order.now, .bool e.order.off]] w _
  obtain ⟨W0, hW0⟩ : ∃ W0, w.alloc (.cells (EvtCells e C c).toArray 37) = W0 := ⟨_, rfl⟩
  have hB0 : Below w.heap.size w W0 := by rw [← hW0]; exact (Below.refl _ _).alloc (Nat.le_refl _) _
  have z0 := hB0.size
  have b0 : Blk W0 w.heap.size 37 (EvtCells e C c) := by rw [← hW0]; exact Blk.new w _ _
  have HE0 := Lib.hid b0
  have hW1 : w.alloc (.cells #[.int .i64 e.at_, .int .i64 e.kind, .int .i64 e.a, .int .i64 e.b, .int .i64 e.n, .string e.order.name, .slice C e.order.load.length c, .int .i64 e.order.pick.place, .int .i64 e.order.pick.opn, .int .i64 e.order.pick.close, .int .i64 e.order.pick.service, .int .i64 e.order.drop.place, .int .i64 e.order.drop.opn, .int .i64 e.order.drop.close, .int .i64 e.order.drop.service, .int .i64 e.order.skills, .int .i64 e.order.penalty, .int .i64 e.order.split, .int .i64 e.order.last, .int .i64 e.order.now, .bool e.order.off] 37) = W0 := hW0
  have HW1 := Lib.hid hW1
  have c0 := b0.cell (j := 0) rfl
  have c1 := b0.cell (j := 1) rfl
  have c2 := b0.cell (j := 2) rfl
  have c3 := b0.cell (j := 3) rfl
  have c4 := b0.cell (j := 4) rfl
  clear hW0 hW1 b0
  have zz : w.heap.size < W0.heap.size := Lib.lt_of_cell c0
  have HB0 := Lib.hid hB0
  have HT0 : Hid (∀ w', Below W0.heap.size W0 w' → Tabs w') := Lib.hid (fun w' h => ht.below (hB0.trans (h.mono z0)))
  have hI0 : Hid (∀ w', Below W0.heap.size W0 w' → Ints w' w.heap.size C e.order.load) := Lib.hid (fun w' h => (hI.below hB0).below (h.mono z0))
  have HQ : Hid (∀ (w' : World) (t : By) (n : Int), prtS e = t → prtE e = n → Below W0.heap.size W0 w' → PrOut w e (.returned (.tuple #[.string ⟨t.toArray⟩, .int .i64 n])) w') := Lib.hid (fun w' t n h1 h2 h3 => ⟨by rw [h1, h2], hB0.trans (h3.mono z0)⟩)
  have H64 := Lib.hid (nums64 he.1)
  have HEF := Lib.hid he
  clear hB0 ht hI he c0 c2 c3 c4
  go_enter Tryz.func22, Tryz.ntmps22
  go_upto_region 1 with fail
  rw [HW1.out]
  clear HW1
  go_upto_region 2 with (go_at_call 62; refine (Go.Proofs.YtofabhenmplkoaaGreatDoor.evt.word_any e.kind _).mono ?_; rintro e2 w1 ⟨rfl, hb1⟩)
  have HB1 := Lib.hid hb1
  have z1 := hb1.size
  by_cases hk : 1 ≤ e.kind ∧ e.kind ≤ 5
  case neg =>
    have hS : prtE e = 8 := by unfold prtE; rw [if_pos hk]
    have hS2 : prtS e = [] := by unfold prtS; rw [hS]; rfl
    have HR := Lib.hid (HQ.out w1 [] 8 hS2 hS hb1)
    have hw0 : wordS e.kind = ⟨#[]⟩ := by unfold wordS; rw [if_neg (by omega), if_neg (by omega), if_neg (by omega), if_neg (by omega), if_neg (by omega)]
    rw [hw0]
    clear hk hS hS2 hw0 hb1
    go_wp2
    refine bodyPost_ret (v := .tuple #[.string ⟨#[]⟩, .int .i64 8]) (by simp [results, Tryz.results22, go_sem]) rfl ?_
    exact HR.out
  obtain ⟨ws, hws⟩ : ∃ s, wordS e.kind = s := ⟨_, rfl⟩
  have hwn := word_ne hk
  have HWL : Hid (ws.data.toList.length ≤ 20) := Lib.hid (by rw [← hws]; exact word_len _)
  have HK := Lib.hid hk
  rw [hws] at hwn ⊢
  have hwn2 : ws.toList.isEmpty = false := by rw [List.isEmpty_eq_false_iff]; exact hwn
  have HWS := Lib.hid hws
  have HE1 := Lib.hid (HE0.out.below hb1)
  clear hws hk hb1
  cases hc : cleanB e
  case false =>
    have hS : prtE e = 2 := by unfold prtE; rw [if_neg (not_not_intro HK.out), if_pos (by rw [hc]; decide)]
    have hS2 : prtS e = [] := by unfold prtS; rw [hS]; rfl
    have HR : Hid (∀ w', Below w1.heap.size w1 w' → PrOut w e (.returned (.tuple #[.string ⟨#[]⟩, .int .i64 2])) w') := Lib.hid (fun w' h => HQ.out w' [] 2 hS2 hS (HB1.out.trans (h.mono z1)))
    have HC := Lib.hid hc
    clear hS hS2 hc
    go_wp2_with (first
      | ((with_reducible refine wpList_loadG stEvt _ rfl ⟨w.heap.size, 0, none⟩ (EvtCells e C c) ?_ ?_ ?_ ?_ ?_); exact rfl; exact rfl; exact HE1.out.cells; exact rfl)
      | (go_at_call 63; refine (clean_any e C c _).mono ?_; rintro e3 w2 ⟨rfl, hb2⟩; rw [HC.out]))
    refine bodyPost_ret (v := .tuple #[.string ⟨#[]⟩, .int .i64 2]) (by simp [results, Tryz.results22, go_sem]) rfl ?_
    exact HR.out _ hb2
  have HC := Lib.hid hc
  clear hc
  go_upto_region 6 with (first
    | ((with_reducible refine wpList_loadG stEvt _ rfl ⟨w.heap.size, 0, none⟩ (EvtCells e C c) ?_ ?_ ?_ ?_ ?_); exact rfl; exact rfl; exact HE1.out.cells; exact rfl)
    | (go_at_call 63; refine (clean_any e C c _).mono ?_; rintro e3 w2 ⟨rfl, hb2⟩; rw [HC.out]))
  have HB2 := Lib.hid (HB1.out.trans (hb2.mono z1))
  have z2 := HB2.out.size
  have HE2 := Lib.hid (HE0.out.below HB2.out)
  clear hb2 HE1 HB1 z1 hwn hwn2
  have HR0 : Hid ((w2.alloc (.cells #[.string ws] 9)).ownsRow W0.heap.size 9 1 (.slice (some ⟨w2.heap.size, 0, none⟩) 1 1) 1 ([ws.data.toList].map strV)) := Lib.hid (by
    have h := World.ownsRow_lit (base := W0.heap.size) (e := 9) (size := 1) w2 #[.string ws] 1 z2 (by unfold maxLen; omega) rfl
    rw [List.map_cons, ← strV_of]
    exact h)
  have HBA : Hid (Below w2.heap.size w2 (w2.alloc (.cells #[.string ws] 9))) := Lib.hid ((Below.refl _ _).alloc (Nat.le_refl _) _)
  have HE3 := Lib.hid (HE2.out.below HBA.out)
  go_upto_region 8 with (first
    | ((with_reducible refine wpList_loadG stEvt _ rfl ⟨w.heap.size, 0, none⟩ (EvtCells e C c) ?_ ?_ ?_ ?_ ?_); exact rfl; exact rfl; exact HE3.out.cells; exact rfl)
    | (go_at_call 64; refine (numbers_any e C c _).mono ?_; rintro e3 w3 ⟨AN, cN, m, rfl, hm, hb3, hN⟩))
  have hNl := numsF_len e
  obtain ⟨l, hl⟩ : ∃ l, numsF e = l := ⟨_, rfl⟩
  rw [hl] at hm hN hNl ⊢
  rw [hl] at H64
  subst hm
  obtain ⟨m, hm0⟩ : ∃ m, l.length = m := ⟨_, rfl⟩
  have hm : m = l.length := hm0.symm
  rw [hm0] at hNl ⊢
  have hmb : m ≤ 1100 := by omega
  obtain ⟨gN, hAN, hgN1, hgN2⟩ : ∃ gN, AN = some ⟨gN, 0, none⟩ ∧ w2.heap.size < gN ∧ gN < w3.heap.size := by
    have hN' := hN
    unfold IOwn at hN'
    obtain ⟨g, cap, hv, _, hlt⟩ := World.ownsRow.form hN' (by omega)
    injection hv with e1 _ _
    subst e1
    refine ⟨g, rfl, ?_, hlt⟩
    have := own_base hN' g rfl
    simp at this
    omega
  subst hAN
  have HM : Hid (m = l.length) := Lib.hid hm
  have HLL : Hid (numsF e = l) := Lib.hid hl
  have HL0 : Hid ([ws.data.toList].length ≤ 1000) := Lib.hid (by simp)
  obtain ⟨L0, hL0⟩ : ∃ L0 : List By, [ws.data.toList] = L0 := ⟨_, rfl⟩
  rw [hL0] at HL0 HR0
  have HL1 := Lib.hid hL0
  have HP0 : Hid (PRel W0 L0 l m gN cN (.slice (some ⟨w2.heap.size, 0, none⟩) 1 1) (.int .i64 0) w3) := Lib.hid (by
    refine ⟨HB2.out.trans ((HBA.out.trans (hb3.mono HBA.out.size)).mono z2), 0, w2.heap.size, 1, 1, by omega, rfl, rfl, Lib.hid (by rw [← hL0]; rfl), by omega, hgN2, Lib.hid ?_, Lib.hid ?_⟩
    · rw [List.take_zero, List.map_nil, List.append_nil]
      exact own_below HR0.out hb3
    · have h := hN
      unfold IOwn at h
      rw [hm]
      exact own_less h (by have := HBA.out.size; omega))
  clear hm hm0 hl hL0 hN hNl HR0 HBA HE3 hb3 HE2 hgN1 hgN2 HWL
  go_loopw [5, 26] (fun pv iv wr => PRel W0 L0 l m gN cN pv iv wr) (fun _ iv _ => m - (intOf iv).toNat)
  case atStart => exact HP0.out
  case round =>
    clear HP0
    obtain ⟨hb, k, g, c1, n, hk, rfl, rfl, hn, hg, hgN, HR, HN⟩ := hrel
    have hbz := hb.size
    by_cases hlt : k < m
    case pos =>
      obtain ⟨x, hx⟩ : ∃ x, l[k]? = some x := ⟨_, List.getElem?_eq_getElem (by rw [← HM.out]; exact hlt)⟩
      have hx64 := H64.out x (List.mem_of_getElem? hx)
      have hcell : wr.cell? ⟨gN, k, none⟩ = some (.int .i64 x) := by
        have h := HN.out.cellAt k (by omega)
        rw [h, List.getElem?_map, hx]; rfl
      have HX := Lib.hid hx
      have HT := Lib.hid (HT0.out wr hb)
      clear hx
      have hnb : n ≤ 3000 + k := by rw [hn.out]; have := HL0.out; omega
      go_wp2_with (first
        | (go_at_call 65; refine (decW_any x hx64 _ HT.out).mono ?_; rintro e2 w2 ⟨rfl, hb2⟩; have y2 := hb2.size)
        | (at_builtin; refine push_str rfl _ _ rfl W0.heap.size g n c1 _ rfl (own_below HR.out hb2) (decW x) rfl (by omega) (by omega) ?_; intro g3 c3 w3 hown3 hg3 hor3 hb3))
      go_roundw
      case rel =>
        refine ⟨hb.trans ((hb2.mono hbz).trans hb3), k + 1, g3, c3, n + 1, by omega, by go_num, rfl, Lib.hid (by rw [hn.out]; omega), by rcases hor3 with h | h <;> omega, by have := hb3.size; omega, Lib.hid (by rw [take_itoa HX.out L0]; exact hown3), Lib.hid ?_⟩
        exact own_grown ((own_below HN.out hb2).alloc _) hg3 (.inr (by show some gN ≠ some g; intro e; exact hg (Option.some.inj e).symm))
      case measure => simp [intOf]; omega
    case neg =>
      have hkm : k = m := by omega
      subst hkm
      have HB4 := Lib.hid hb
      have HE4 := Lib.hid (HE0.out.below hb)
      have e1 := HE4.out.cell (j := 1) rfl
      have y4 := HE4.out.lt
      have HR4 : Hid (wr.ownsRow W0.heap.size 9 1 (.slice (some ⟨g, 0, none⟩) n c1) n ((L0 ++ l.map Lib.itoa).map strV)) := Lib.hid (by
        have h := HR.out
        rw [HM.out, List.take_length] at h
        exact h)
      have HT4 := Lib.hid (HT0.out wr hb)
      have HI4 := Lib.hid (hI0.out wr hb)
      have HN4 : Hid (n = (L0 ++ l.map Lib.itoa).length) := Lib.hid (by rw [hn.out, HM.out]; simp)
      have hn9 : n ≤ 2200 := by rw [hn.out]; have := HL0.out; omega
      clear hb hk hn hg hgN HR HN hlt hmb
      by_cases hk1 : e.kind = 1
      case neg =>
        have hS : prtE e = 0 := by unfold prtE; rw [if_neg (not_not_intro HK.out), if_neg (not_not_intro HC.out), if_neg hk1]
        have hS2 : prtS e = joinS (L0 ++ l.map Lib.itoa) := by
          unfold prtS partsF
          rw [if_pos hS, if_neg hk1, List.append_nil, HLL.out, HWS.out, ← HL1.out]
          rfl
        have hJ : (joinS (L0 ++ l.map Lib.itoa)).length ≤ 140737488355328 := by
          have hp := parts_len HEF.out hS
          rw [← hS2]; unfold prtS; rw [if_pos hS]; omega
        have hn0 : 0 < n := by rw [HN4.out, ← HL1.out]; simp
        have HR5 : Hid (∀ w', Below wr.heap.size wr w' → PrOut w e (.returned (.tuple #[.string ⟨(joinS (L0 ++ l.map Lib.itoa)).toArray⟩, .int .i64 0])) w') := Lib.hid (fun w' h => HQ.out w' _ 0 hS2 hS (HB4.out.trans (h.mono hbz)))
        clear hS hS2
        go_wp2_with (go_at_call 68; refine (tjoin_any _ g n c1 W0.heap.size _ HN4.out HR4.out hn0 (by omega) hJ).mono ?_; rintro e5 w5 ⟨rfl, hb5⟩)
        refine bodyPost_ret (v := .tuple #[.string ⟨(joinS (L0 ++ l.map Lib.itoa)).toArray⟩, .int .i64 0]) (by simp [results, Tryz.results22, go_sem]) rfl ?_
        exact HR5.out _ hb5
      have HKK := Lib.hid hk1
      have hord := Lib.hid (ord_evt HE4.out)
      go_upto_region 14 with (first
        | ((with_reducible refine wpList_loadG stOrd' _ rfl ⟨w.heap.size, 5, none⟩ (OrdCells e.order C c) ?_ ?_ ?_ ?_ ?_); exact rfl; exact rfl; exact hord.out; exact rfl)
        | ((with_reducible refine wpList_storeL stOrd' rfl _ _ rfl wr.heap.size zOrd (OrdCells e.order C c) ?_ ?_ ?_ ?_ ?_ (ordCells_one _ _ _) ?_); exact rfl; exact rfl; exact World.alloc_heap_new wr _; exact rfl; exact rfl; intro wq k1 k2 k3 k4; have K := Lib.hid (And.intro k1 (And.intro k2 (And.intro k3 k4))); clear k1 k2 k3 k4))
      have b6 : Below wr.heap.size wr wq := ((Below.refl _ _).alloc (Nat.le_refl _) _).trans K.out.2.2.2
      have z6 := b6.size
      have o6 : Blk wq wr.heap.size 35 (OrdCells e.order C c) := K.out.1
      have f0 := o6.cell (j := 0) rfl
      have f1 := o6.cell (j := 1) rfl
      have f15 := o6.cell (j := 15) rfl
      have HE6 := Lib.hid (HE4.out.below b6)
      have HB6 := Lib.hid (HB4.out.trans (b6.mono hbz))
      have HR6 := Lib.hid (own_below HR4.out b6)
      have f5 := HE6.out.cell (j := 5) rfl
      have y6 := HE6.out.lt
      clear b6 o6 e1 HE4 HR4 hord HT4 HI4 K
      have hP : prtE e = if e.order.off = true then 9 else if ¬ nameB e.order.name = true then 5 else if 3 < e.order.load.length then 4 else 0 := by
        unfold prtE; rw [if_neg (not_not_intro HK.out), if_neg (not_not_intro HC.out), if_pos hk1]
      have HP := Lib.hid hP
      clear hP hk1
      have hZ : ∀ n : Int, n ≠ 0 → prtE e = n → Hid (PrOut w e (.returned (.tuple #[.string ⟨#[]⟩, .int .i64 n])) wq) := fun n h0 h => Lib.hid (HQ.out wq [] n (by unfold prtS; rw [h, if_neg h0]) h HB6.out)
      cases hoff : e.order.off
      case true =>
        have HR7 := hZ 9 (by decide) (by rw [HP.out, if_pos hoff])
        clear hZ
        go_wp2
        refine bodyPost_ret (v := .tuple #[.string ⟨#[]⟩, .int .i64 9]) (by simp [results, Tryz.results22, go_sem]) rfl ?_
        exact HR7.out
      have HO := Lib.hid hoff
      cases hnb : nameB e.order.name
      case false =>
        have HR7 := hZ 5 (by decide) (by rw [HP.out, if_neg (by rw [hoff]; decide), if_pos (by rw [hnb]; decide)])
        have HN := Lib.hid hnb
        clear hZ hnb
        go_wp2_with (go_at_call 66; refine (name_any e.order.name hnm _).mono ?_; rintro e5 w5 ⟨rfl, rfl⟩; rw [HN.out])
        refine bodyPost_ret (v := .tuple #[.string ⟨#[]⟩, .int .i64 5]) (by simp [results, Tryz.results22, go_sem]) rfl ?_
        exact HR7.out
      have HN := Lib.hid hnb
      clear hnb
      by_cases hl3 : 3 < e.order.load.length
      case pos =>
        have HR7 := hZ 4 (by decide) (by rw [HP.out, if_neg (by rw [hoff]; decide), if_neg (by rw [HN.out]; decide), if_pos hl3])
        have hl4 : (3 : Int) < (e.order.load.length : Int) := by omega
        clear hZ
        go_wp2_with (go_at_call 66; refine (name_any e.order.name hnm _).mono ?_; rintro e5 w5 ⟨rfl, rfl⟩; rw [HN.out])
        refine bodyPost_ret (v := .tuple #[.string ⟨#[]⟩, .int .i64 4]) (by simp [results, Tryz.results22, go_sem]) rfl ?_
        exact HR7.out
      have hS : prtE e = 0 := by rw [HP.out, if_neg (by rw [hoff]; decide), if_neg (by rw [HN.out]; decide), if_neg hl3]
      have HS := Lib.hid hS
      have hl4 : ¬ (3 : Int) < (e.order.load.length : Int) := by omega
      clear hZ hS HP
      go_upto_region 21 with (first
        | (go_at_call 66; refine (name_any e.order.name hnm _).mono ?_; rintro e5 w5 ⟨rfl, rfl⟩; rw [HN.out])
        | (at_builtin; refine push_str rfl _ _ rfl W0.heap.size g n c1 _ rfl HR6.out e.order.name rfl (by omega) (by omega) ?_; intro g7 c7 w7 hown7 hg7 hor7 hb7))
      have HB7 := Lib.hid (HB6.out.trans hb7)
      have z7 := HB7.out.size
      have HE7 := Lib.hid (HE0.out.below HB7.out)
      have hI7 := (hI0.out w7 HB7.out).more (show w.heap.size ≤ w7.heap.size by omega)
      have hord7 := Lib.hid (ord_evt HE7.out)
      obtain ⟨y7, hg7b⟩ : 0 < n + 1 ∧ g7 < w7.heap.size := ⟨by omega, by
        obtain ⟨g8, c8, hv, _, hlt⟩ := World.ownsRow.form hown7 (by omega)
        injection hv with q1 q2 q3
        have q4 : g7 = g8 := congrArg Addr.block (Option.some.inj q1)
        omega⟩
      have HO7 : Hid (w7.ownsRow W0.heap.size 9 1 (.slice (some ⟨g7, 0, none⟩) (n + 1) c7) (n + 1) ((L0 ++ l.map Lib.itoa ++ [e.order.name.data.toList]).map strV)) := Lib.hid (by
        rw [List.map_append (l₁ := L0 ++ l.map Lib.itoa)]
        rw [List.map_cons, List.map_nil, ← strV_of]
        exact hown7)
      clear hown7 hg7 hor7 hb7 f0 f1 f15 f5 HE6 y6 hoff
      go_upto_region 22 with (first
        | ((with_reducible refine wpList_loadG stOrd' _ rfl ⟨w.heap.size, 5, none⟩ (OrdCells e.order C c) ?_ ?_ ?_ ?_ ?_); exact rfl; exact rfl; exact hord7.out; exact rfl)
        | (go_at_call 67; refine (order_any e.order C c _ hI7 hld).mono ?_; rintro e8 w8 ⟨AM, cM, m2, rfl, hm2, hb8, hN8⟩))
      have hNl2 : (ordN e.order).length ≤ 1100 ∧ 0 < (ordN e.order).length := by
        unfold ordN stpN
        simp
        omega
      have H642 := Lib.hid (ord64 (o := e.order) HEF.out.1.2.2.2.2.2 HEF.out.2 (by omega))
      obtain ⟨l2, hl2⟩ : ∃ l2, ordN e.order = l2 := ⟨_, rfl⟩
      rw [hl2] at hm2 hN8 hNl2 H642 ⊢
      subst hm2
      obtain ⟨gM, hAM, hgM1, hgM2⟩ : ∃ gM, AM = some ⟨gM, 0, none⟩ ∧ w7.heap.size ≤ gM ∧ gM < w8.heap.size := by
        have hN' := hN8
        unfold IOwn at hN'
        obtain ⟨g, cap, hv, _, hlt⟩ := World.ownsRow.form hN' (by omega)
        injection hv with q1 _ _
        subst q1
        exact ⟨g, rfl, own_base hN' g rfl, hlt⟩
      subst hAM
      obtain ⟨m3, hm30⟩ : ∃ m, l2.length = m := ⟨_, rfl⟩
      have HM3 : Hid (m3 = l2.length) := Lib.hid hm30.symm
      obtain ⟨L3, hL3⟩ : ∃ L3 : List By, L0 ++ l.map Lib.itoa ++ [e.order.name.data.toList] = L3 := ⟨_, rfl⟩
      have hL3n : n + 1 = L3.length := by rw [← hL3, List.length_append, ← HN4.out]; rfl
      have HL30 : Hid (L3.length ≤ 2300) := Lib.hid (by omega)
      have HL31 := Lib.hid hL3
      have HLL3 := Lib.hid hl2
      have HP3 : Hid (PRel W0 L3 l2 m3 gM cM (.slice (some ⟨g7, 0, none⟩) (n + 1) c7) (.int .i64 0) w8) := Lib.hid (by
        refine ⟨HB7.out.trans (hb8.mono z7), 0, g7, c7, n + 1, by omega, rfl, rfl, Lib.hid hL3n, by omega, hgM2, Lib.hid ?_, Lib.hid ?_⟩
        · rw [List.take_zero, List.map_nil, List.append_nil, ← hL3]
          exact own_below HO7.out hb8
        · have h := hN8
          unfold IOwn at h
          rw [← hm30]
          exact own_less h (by omega))
      rw [hm30] at hNl2 ⊢
      have HE9 := HEF
      clear hL3 hm30 hl2 hN8 hb8 HO7 hord7 hI7 HE7 HR6 HB6 HEF H64 HM HL0 hL3n hgM1 hgM2 hg7b HB7 HB4 y7 z7
      go_loopw [5, 64] (fun pv iv wr => PRel W0 L3 l2 m3 gM cM pv iv wr) (fun _ iv _ => m3 - (intOf iv).toNat)
      case atStart => exact HP3.out
      case round =>
        clear HP3
        obtain ⟨hb, k, g, c1, n, hk, rfl, rfl, hn, hg, hgM, HR, HN⟩ := hrel
        have hbz := hb.size
        by_cases hlt : k < m3
        case pos =>
          obtain ⟨x, hx⟩ : ∃ x, l2[k]? = some x := ⟨_, List.getElem?_eq_getElem (by rw [← HM3.out]; exact hlt)⟩
          have hx64 := H642.out x (List.mem_of_getElem? hx)
          have hcell : wr.cell? ⟨gM, k, none⟩ = some (.int .i64 x) := by
            have h := HN.out.cellAt k (by omega)
            rw [h, List.getElem?_map, hx]; rfl
          have HX := Lib.hid hx
          have HT := Lib.hid (HT0.out wr hb)
          clear hx
          have hnb : n ≤ 3000 + k := by rw [hn.out]; have := HL30.out; omega
          go_wp2_with (first
            | (go_at_call 65; refine (decW_any x hx64 _ HT.out).mono ?_; rintro e2 w2 ⟨rfl, hb2⟩; have y2 := hb2.size)
            | (at_builtin; refine push_str rfl _ _ rfl W0.heap.size g n c1 _ rfl (own_below HR.out hb2) (decW x) rfl (by omega) (by omega) ?_; intro g3 c3 w3 hown3 hg3 hor3 hb3))
          go_roundw
          case rel =>
            refine ⟨hb.trans ((hb2.mono hbz).trans hb3), k + 1, g3, c3, n + 1, by omega, by go_num, rfl, Lib.hid (by rw [hn.out]; omega), by rcases hor3 with h | h <;> omega, by have := hb3.size; omega, Lib.hid (by rw [take_itoa HX.out L3]; exact hown3), Lib.hid ?_⟩
            exact own_grown ((own_below HN.out hb2).alloc _) hg3 (.inr (by show some gM ≠ some g; intro e; exact hg (Option.some.inj e).symm))
          case measure => simp [intOf]; omega
        case neg =>
          have hkm : k = m3 := by omega
          subst hkm
          have HR9 : Hid (wr.ownsRow W0.heap.size 9 1 (.slice (some ⟨g, 0, none⟩) n c1) n ((L3 ++ l2.map Lib.itoa).map strV)) := Lib.hid (by
            have h := HR.out
            rw [HM3.out, List.take_length] at h
            exact h)
          have HN9 : Hid (n = (L3 ++ l2.map Lib.itoa).length) := Lib.hid (by rw [hn.out, HM3.out]; simp)
          have hnb : n ≤ 4000 := by rw [hn.out]; have := HL30.out; omega
          have hS2 : prtS e = joinS (L3 ++ l2.map Lib.itoa) := by
            unfold prtS partsF
            rw [if_pos HS.out, if_pos HKK.out, HLL.out, HWS.out, HLL3.out, ← HL31.out, ← HL1.out]
            simp
          have hJ : (joinS (L3 ++ l2.map Lib.itoa)).length ≤ 140737488355328 := by
            have hp := parts_len HE9.out HS.out
            rw [← hS2]; unfold prtS; rw [if_pos HS.out]; omega
          have hn0 : 0 < n := by rw [hn.out, ← HL31.out, List.length_append, List.length_singleton]; omega
          have HR5 : Hid (∀ w', Below wr.heap.size wr w' → PrOut w e (.returned (.tuple #[.string ⟨(joinS (L3 ++ l2.map Lib.itoa)).toArray⟩, .int .i64 0])) w') := Lib.hid (fun w' h => HQ.out w' _ 0 hS2 HS.out (hb.trans (h.mono hbz)))
          clear hS2 hb hk hn hg hgM HR HN hlt hNl2
          go_wp2_with (go_at_call 68; refine (tjoin_any _ g n c1 W0.heap.size _ HN9.out HR9.out hn0 (by omega) hJ).mono ?_; rintro e5 w5 ⟨rfl, hb5⟩)
          refine bodyPost_ret (v := .tuple #[.string ⟨(joinS (L3 ++ l2.map Lib.itoa)).toArray⟩, .int .i64 0]) (by simp [results, Tryz.results22, go_sem]) rfl ?_
          exact HR5.out _ hb5
end Go.Proofs.YtofabhenmplkoaaGreatDoor.evt
