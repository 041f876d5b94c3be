import Derived.Test.YthefooacfcagbaaGreatDoorRspX
import Derived.Test.YthefooacfcagbaaGreatDoorPrnA
/- The reference's lines of types and orders. -/
namespace Go.Proofs.YthefooacfcagbaaGreatDoor.spc
open Go.RowKit
open lib rd app els typ big gen
open txt (in64 By strV strV_of decW joinS)
set_option linter.unusedVariables false
set_option linter.unusedSimpArgs false
theorem joinS_two (x y : By) (r : List By) : joinS (x :: y :: r) = x ++ 32 :: joinS (y :: r) := txt.joinS_cons ..
theorem nums_join (l : List Int) (x : By) (r : List By) : joinS (x :: (l.map Lib.itoa ++ r)) = x ++ (numsB l ++ (match r with | [] => [] | y :: r => 32 :: joinS (y :: r))) := by
 induction l generalizing x with
 | nil =>
  cases r with
  | nil => simp [txt.joinS_one, numsB]
  | cons y r => simp [joinS_two, numsB]
 | cons z l ih =>
  rw [List.map_cons, List.cons_append, joinS_two, ih]
  simp [numsB]
theorem kind_bytes (t : Ty) : (⟨#[116, 121, 112, 101, 32]⟩ ++ t.name ++ ⟨(numsB [t.count, t.frm, t.to]).toArray⟩ ++ ⟨#[32]⟩ ++ ⟨(listF t.cap).toArray⟩ ++ ⟨(numsB [t.skills, t.profile, t.opn, t.close, t.drive, t.rest, t.fixed, t.mile, t.tick]).toArray⟩ ++ ⟨#[10]⟩ : ByteArray) = ⟨(lineB (.type t)).toArray⟩ := by
 apply bytes_inj
 have e : (Lin.type t).words = kwT :: t.name.data.toList :: ([t.count, t.frm, t.to].map Lib.itoa ++ (listF t.cap :: ([t.skills, t.profile, t.opn, t.close, t.drive, t.rest, t.fixed, t.mile, t.tick].map Lib.itoa ++ []))) := rfl
 unfold lineB
 rw [e, joinS_two, nums_join]
 dsimp only
 rw [nums_join]
 simp [kwT]
theorem order_bytes (o : Ord) : (⟨#[111, 114, 100, 101, 114, 32]⟩ ++ o.name ++ ⟨#[32]⟩ ++ ⟨(listF o.load).toArray⟩ ++ ⟨#[32]⟩ ++ ⟨(stopF o.pick).toArray⟩ ++ ⟨#[32]⟩ ++ ⟨(stopF o.drop).toArray⟩ ++ ⟨(numsB [o.skills, o.penalty, o.split, o.last, o.now]).toArray⟩ ++ (if o.off = true then ⟨#[32, 111, 102, 102, 10]⟩ else ⟨#[32, 111, 110, 10]⟩) : ByteArray) = ⟨(lineB (.order o)).toArray⟩ := by
 apply bytes_inj
 have e : (Lin.order o).words = kwO :: o.name.data.toList :: listF o.load :: stopF o.pick :: stopF o.drop :: ([o.skills, o.penalty, o.split, o.last, o.now].map Lib.itoa ++ [stateW o.off]) := rfl
 unfold lineB
 rw [e, joinS_two, joinS_two, joinS_two, joinS_two, nums_join]
 dsimp only
 rw [txt.joinS_one]
 cases o.off <;> simp [kwO, stateW, onW, offW]
theorem numsB_len : ∀ {l : List Int}, (∀ z ∈ l, in64 z) → (numsB l).length ≤ 21 * l.length
 | [], _ => by simp [numsB]
 | z :: l, h => by
  have h1 := numsB_len (l := l) fun y hy => h y (List.mem_cons_of_mem _ hy)
  have h2 := itoa_len (h z (List.mem_cons_self ..))
  have e : numsB (z :: l) = 32 :: Lib.itoa z ++ numsB l := by simp [numsB]
  rw [e]
  simp only [List.length_append, List.length_cons]
  omega
theorem arr_size (l : By) : (⟨l.toArray⟩ : ByteArray).size = l.length := by rw [← toList_len]
theorem listF_small {l : List Int} (h : ∀ z ∈ l, in64 z) (hl : l.length ≤ 100000) : (listF l).length ≤ 10000000 := by
 unfold listF
 split
 ·simp
 ·refine join_len20 [44] rfl (fun u hu => ?_) (by rw [List.length_map]; exact hl)
  obtain ⟨z, hz, rfl⟩ := List.mem_map.1 hu
  have := itoa_len (h z hz)
  omega
set_option maxRecDepth 20000 in
set_option maxHeartbeats 8000000 in
theorem rfkind_any (t : Ty) (C : Option Addr) (c : Nat) (w : World) (hI : Ints w w.heap.size C t.cap) (hok : tyOk t) (hcap : t.cap.length ≤ 100000) :
  Calls Tryz.prog 26 #[.agg (TyCells t C c).toArray] w fun e w' => e = .returned (.string ⟨(lineB (.type t)).toArray⟩) ∧ Below w.heap.size w w' := by
 show Calls Tryz.prog 26 #[.agg #[.string t.name, .int .i64 t.count, .int .i64 t.frm, .int .i64 t.to, .slice C t.cap.length c, .int .i64 t.skills, .int .i64 t.profile, .int .i64 t.opn, .int .i64 t.close, .int .i64 t.drive, .int .i64 t.rest, .int .i64 t.fixed, .int .i64 t.mile, .int .i64 t.tick]] w _
 obtain ⟨hw, ⟨hnm, i1, i2, i3, i4, i5, i6, i7, i8, i9, i10, i11, i12⟩, hc64⟩ := hok
 have k1 : ∀ z ∈ [t.count, t.frm, t.to], in64 z := fun z hz => by
  simp only [List.mem_cons, List.not_mem_nil, or_false] at hz
  rcases hz with rfl | rfl | rfl <;> assumption
 have k2 : ∀ z ∈ [t.skills, t.profile, t.opn, t.close, t.drive, t.rest, t.fixed, t.mile, t.tick], in64 z := fun z hz => by
  simp only [List.mem_cons, List.not_mem_nil, or_false] at hz
  rcases hz with rfl | rfl | rfl | rfl | rfl | rfl | rfl | rfl | rfl <;> assumption
 have HKB := Lib.hid (kind_bytes t)
 obtain ⟨R, hR⟩ : ∃ R, (⟨(lineB (.type t)).toArray⟩ : ByteArray) = R := ⟨_, rfl⟩
 rw [hR] at HKB ⊢
 have HC1 : Hid (∀ (v : World) A, Ints v v.heap.size A [t.count, t.frm, t.to] → Calls Tryz.prog 25 #[.slice A 3 3] v fun e w' => e = .returned (.string ⟨(numsB [t.count, t.frm, t.to]).toArray⟩) ∧ Below v.heap.size v w') := Lib.hid fun v A h => rfnumbers_any _ A 3 3 rfl v h k1 (by decide)
 have HC2 : Hid (∀ (v : World) A, Ints v v.heap.size A [t.skills, t.profile, t.opn, t.close, t.drive, t.rest, t.fixed, t.mile, t.tick] → Calls Tryz.prog 25 #[.slice A 9 9] v fun e w' => e = .returned (.string ⟨(numsB [t.skills, t.profile, t.opn, t.close, t.drive, t.rest, t.fixed, t.mile, t.tick]).toArray⟩) ∧ Below v.heap.size v w') := Lib.hid fun v A h => rfnumbers_any _ A 9 9 rfl v h k2 (by decide)
 have s1 := numsB_len k1
 have s2 := numsB_len k2
 have s3 := listF_small hc64 hcap
 rw [← arr_size] at s1 s2 s3
 obtain ⟨N1, hN1⟩ : ∃ N, (⟨(numsB [t.count, t.frm, t.to]).toArray⟩ : ByteArray) = N := ⟨_, rfl⟩
 obtain ⟨N2, hN2⟩ : ∃ N, (⟨(numsB [t.skills, t.profile, t.opn, t.close, t.drive, t.rest, t.fixed, t.mile, t.tick]).toArray⟩ : ByteArray) = N := ⟨_, rfl⟩
 obtain ⟨N3, hN3⟩ : ∃ N, (⟨(listF t.cap).toArray⟩ : ByteArray) = N := ⟨_, rfl⟩
 have HC3 : Hid (∀ (v : World), Below w.heap.size w v → Calls Tryz.prog 58 #[.slice C t.cap.length c] v fun e w' => e = .returned (.string ⟨(listF t.cap).toArray⟩) ∧ Below v.heap.size v w') := Lib.hid fun v h => rflist_any t.cap C _ c rfl v ((hI.below h).more h.size) hc64 hcap
 rw [hN1] at s1 HC1 HKB
 rw [hN2] at s2 HC2 HKB
 rw [hN3] at s3 HC3 HKB
 have e1 : 21 * [t.count, t.frm, t.to].length = 63 := rfl
 have e2 : 21 * [t.skills, t.profile, t.opn, t.close, t.drive, t.rest, t.fixed, t.mile, t.tick].length = 189 := rfl
 rw [e1] at s1
 rw [e2] at s2
 have h32 : (⟨#[32]⟩ : ByteArray).size = 1 := rfl
 have h10 : (⟨#[10]⟩ : ByteArray).size = 1 := rfl
 have h5 : (⟨#[116, 121, 112, 101, 32]⟩ : ByteArray).size = 5 := rfl
 obtain ⟨W1, hW1⟩ : ∃ W, w.alloc (.cells (TyCells t C c).toArray 63) = W := ⟨_, rfl⟩
 have HW1 := Lib.hid hW1
 have HQ : Hid (∀ v, Below W1.heap.size W1 v → Blk v w.heap.size 63 (TyCells t C c)) := Lib.hid (fun v hv => Blk.below (by rw [← hW1]; exact Blk.new w _ _) hv)
 have HL1 : Hid (Below w.heap.size w W1) := Lib.hid (by rw [← hW1]; exact (Below.refl _ _).alloc (Nat.le_refl _) _)
 clear hI hw i1 i2 i3 i4 i5 i6 i7 i8 i9 i10 i11 i12 k1 k2 hR hN1 hN2 hN3 hW1 hc64 e1 e2
 go_enter Tryz.func26, Tryz.ntmps26
 go_upto_region 1 with fail
 rw [show w.alloc (.cells #[.string t.name, .int .i64 t.count, .int .i64 t.frm, .int .i64 t.to, .slice C t.cap.length c, .int .i64 t.skills, .int .i64 t.profile, .int .i64 t.opn, .int .i64 t.close, .int .i64 t.drive, .int .i64 t.rest, .int .i64 t.fixed, .int .i64 t.mile, .int .i64 t.tick] 63) = W1 from HW1.out]
 clear HW1
 (refine wp_region_held_drew (S := (fun v => Blk v w.heap.size 63 (TyCells t C c))) (by kernel_rfl) ?_ (fun hHeld => ?_))
 ·exact HQ.out _ (Below.refl _ _).drew
 obtain ⟨v0, hv0⟩ : ∃ v, W1.drew = v := ⟨_, rfl⟩
 have HBv0 : Hid (Below W1.heap.size W1 v0) := Lib.hid (by rw [← hv0]; exact (Below.refl _ _).drew)
 rw [hv0] at hHeld ⊢
 (refine lib.tk 0 ?_ rfl (by kernel_rfl) (fun _ _ _ h => h) ?_ (by assumption) ?_; rotate_left; (focus (intro w hSw; (try dsimp only at hSw); go_simp; all_goals with_reducible rfl)); (try simp only [lib.hly]))
 (refine lib.tk 1 _ rfl (by kernel_rfl) (fun _ _ _ h => h) (fun _ hSw => exec_ld_str rfl rfl (hSw.cell (j := 0) rfl)) (by assumption) ?_; (try simp only [lib.hly]))
 (refine lib.tk 2 ?_ rfl (by kernel_rfl) (fun _ _ _ h => h) ?_ (by assumption) ?_; rotate_left; (focus (intro w hSw; (try dsimp only at hSw); go_simp; rw [if_neg]; (try with_reducible rfl); (all_goals (first | omega | (simp only [ByteArray.size_append]; omega))))); (try simp only [lib.hly]))
 (refine lib.tk 3 ?_ rfl (by kernel_rfl) (fun _ _ _ h => h) ?_ (by assumption) ?_; rotate_left; (focus (intro w hSw; (try dsimp only at hSw); go_simp; all_goals with_reducible rfl)); (try simp only [lib.hly]))
 (refine lib.tk 4 _ rfl (by kernel_rfl) (fun _ _ _ h => h) (fun _ hSw => exec_ld_int rfl rfl (hSw.cell (j := 1) rfl)) (by assumption) ?_; (try simp only [lib.hly]))
 (refine lib.tk 5 ?_ rfl (by kernel_rfl) (fun _ _ _ h => h) ?_ (by assumption) ?_; rotate_left; (focus (intro w hSw; (try dsimp only at hSw); go_simp; all_goals with_reducible rfl)); (try simp only [lib.hly]))
 (refine lib.tk 6 _ rfl (by kernel_rfl) (fun _ _ _ h => h) (fun _ hSw => exec_ld_int rfl rfl (hSw.cell (j := 2) rfl)) (by assumption) ?_; (try simp only [lib.hly]))
 (refine lib.tk 7 ?_ rfl (by kernel_rfl) (fun _ _ _ h => h) ?_ (by assumption) ?_; rotate_left; (focus (intro w hSw; (try dsimp only at hSw); go_simp; all_goals with_reducible rfl)); (try simp only [lib.hly]))
 (refine lib.tk 8 _ rfl (by kernel_rfl) (fun _ _ _ h => h) (fun _ hSw => exec_ld_int rfl rfl (hSw.cell (j := 3) rfl)) (by assumption) ?_; (try simp only [lib.hly]))
 (refine lib.tk 13 ?_ rfl (by kernel_rfl) (fun _ _ _ h => h) ?_ (by assumption) ?_; rotate_left; (focus (intro w hSw; (try dsimp only at hSw); go_simp; all_goals with_reducible rfl)); (try simp only [lib.hly]))
 (refine lib.tk 14 _ rfl (by kernel_rfl) (fun _ _ _ h => h) (fun _ hSw => exec_ld_ints rfl rfl (hSw.cell (j := 4) rfl)) (by assumption) ?_; (try simp only [lib.hly]))
 (refine lib.tk 17 ?_ rfl (by kernel_rfl) (fun _ _ _ h => h) ?_ (by assumption) ?_; rotate_left; (focus (intro w hSw; (try dsimp only at hSw); go_simp; all_goals with_reducible rfl)); (try simp only [lib.hly]))
 (refine lib.tk 18 _ rfl (by kernel_rfl) (fun _ _ _ h => h) (fun _ hSw => exec_ld_int rfl rfl (hSw.cell (j := 5) rfl)) (by assumption) ?_; (try simp only [lib.hly]))
 (refine lib.tk 19 ?_ rfl (by kernel_rfl) (fun _ _ _ h => h) ?_ (by assumption) ?_; rotate_left; (focus (intro w hSw; (try dsimp only at hSw); go_simp; all_goals with_reducible rfl)); (try simp only [lib.hly]))
 (refine lib.tk 20 _ rfl (by kernel_rfl) (fun _ _ _ h => h) (fun _ hSw => exec_ld_int rfl rfl (hSw.cell (j := 6) rfl)) (by assumption) ?_; (try simp only [lib.hly]))
 (refine lib.tk 21 ?_ rfl (by kernel_rfl) (fun _ _ _ h => h) ?_ (by assumption) ?_; rotate_left; (focus (intro w hSw; (try dsimp only at hSw); go_simp; all_goals with_reducible rfl)); (try simp only [lib.hly]))
 (refine lib.tk 22 _ rfl (by kernel_rfl) (fun _ _ _ h => h) (fun _ hSw => exec_ld_int rfl rfl (hSw.cell (j := 7) rfl)) (by assumption) ?_; (try simp only [lib.hly]))
 (refine lib.tk 23 ?_ rfl (by kernel_rfl) (fun _ _ _ h => h) ?_ (by assumption) ?_; rotate_left; (focus (intro w hSw; (try dsimp only at hSw); go_simp; all_goals with_reducible rfl)); (try simp only [lib.hly]))
 (refine lib.tk 24 _ rfl (by kernel_rfl) (fun _ _ _ h => h) (fun _ hSw => exec_ld_int rfl rfl (hSw.cell (j := 8) rfl)) (by assumption) ?_; (try simp only [lib.hly]))
 (refine lib.tk 25 ?_ rfl (by kernel_rfl) (fun _ _ _ h => h) ?_ (by assumption) ?_; rotate_left; (focus (intro w hSw; (try dsimp only at hSw); go_simp; all_goals with_reducible rfl)); (try simp only [lib.hly]))
 (refine lib.tk 26 _ rfl (by kernel_rfl) (fun _ _ _ h => h) (fun _ hSw => exec_ld_int rfl rfl (hSw.cell (j := 9) rfl)) (by assumption) ?_; (try simp only [lib.hly]))
 (refine lib.tk 27 ?_ rfl (by kernel_rfl) (fun _ _ _ h => h) ?_ (by assumption) ?_; rotate_left; (focus (intro w hSw; (try dsimp only at hSw); go_simp; all_goals with_reducible rfl)); (try simp only [lib.hly]))
 (refine lib.tk 28 _ rfl (by kernel_rfl) (fun _ _ _ h => h) (fun _ hSw => exec_ld_int rfl rfl (hSw.cell (j := 10) rfl)) (by assumption) ?_; (try simp only [lib.hly]))
 (refine lib.tk 29 ?_ rfl (by kernel_rfl) (fun _ _ _ h => h) ?_ (by assumption) ?_; rotate_left; (focus (intro w hSw; (try dsimp only at hSw); go_simp; all_goals with_reducible rfl)); (try simp only [lib.hly]))
 (refine lib.tk 30 _ rfl (by kernel_rfl) (fun _ _ _ h => h) (fun _ hSw => exec_ld_int rfl rfl (hSw.cell (j := 11) rfl)) (by assumption) ?_; (try simp only [lib.hly]))
 (refine lib.tk 31 ?_ rfl (by kernel_rfl) (fun _ _ _ h => h) ?_ (by assumption) ?_; rotate_left; (focus (intro w hSw; (try dsimp only at hSw); go_simp; all_goals with_reducible rfl)); (try simp only [lib.hly]))
 (refine lib.tk 32 _ rfl (by kernel_rfl) (fun _ _ _ h => h) (fun _ hSw => exec_ld_int rfl rfl (hSw.cell (j := 12) rfl)) (by assumption) ?_; (try simp only [lib.hly]))
 (refine lib.tk 33 ?_ rfl (by kernel_rfl) (fun _ _ _ h => h) ?_ (by assumption) ?_; rotate_left; (focus (intro w hSw; (try dsimp only at hSw); go_simp; all_goals with_reducible rfl)); (try simp only [lib.hly]))
 (refine lib.tk 34 _ rfl (by kernel_rfl) (fun _ _ _ h => h) (fun _ hSw => exec_ld_int rfl rfl (hSw.cell (j := 13) rfl)) (by assumption) ?_; (try simp only [lib.hly]))
 (refine wpAnyH_ready (rs := [9, 35]) (by kernel_rfl) (by simp) ?_; refine AllReadyH.cons rfl (fun K hK => ?_) (AllReadyH.cons rfl (fun K hK => ?_) AllReadyH.nil))
 ·skip
  go_simp
  obtain ⟨v1, hv1⟩ : ∃ u, v0.alloc (.cells #[.int .i64 t.count, .int .i64 t.frm, .int .i64 t.to] 3) = u := ⟨_, rfl⟩
  have Dv0v1 : Hid (Below v0.heap.size v0 v1) := Lib.hid (by rw [← hv1]; exact (Below.refl _ _).alloc (Nat.le_refl _) _)
  have HBv1 : Hid (Below W1.heap.size W1 v1) := Lib.hid (HBv0.out.trans (Dv0v1.out.mono HBv0.out.size))
  have HI3 : Hid (∀ x, Below v1.heap.size v1 x → Ints x x.heap.size (some ⟨v0.heap.size, 0, none⟩) [t.count, t.frm, t.to]) := Lib.hid (fun x hx => by
   have h := Ints.lit v0 [t.count, t.frm, t.to] (by simp)
   have e : v0.heap.size + 1 = v1.heap.size := by rw [← hv1, World.size_alloc]
   rw [show v0.alloc (.cells (([t.count, t.frm, t.to] : List Int).map (.int .i64)).toArray 3) = v1 from hv1, e] at h
   exact (h.below hx).more hx.size)
  rw [hv1]
  clear hv1
  refine hK.out _ _ ((HQ.out _ HBv1.out)) (fun hHeld => ?_)
  clear hK K
  (try simp only [lib.hly])
  (refine wpAnyH_ready (rs := [10, 35]) (by kernel_rfl) (by simp) ?_; refine AllReadyH.cons rfl (fun K hK => ?_) (AllReadyH.cons rfl (fun K hK => ?_) AllReadyH.nil))
  ·skip
   go_simp
   refine (HC1.out v1 _ (HI3.out _ (Below.refl _ _))).mono ?_
   rintro e v2 ⟨rfl, bv2⟩
   have Dv1v2 := Lib.hid bv2
   have HBv2 := Lib.hid (HBv1.out.trans (bv2.mono HBv1.out.size))
   clear bv2
   refine hK.out _ _ ((HQ.out _ HBv2.out)) (fun hHeld => ?_)
   clear hK K
   (try simp only [lib.hly])
   (refine lib.tk 11 ?_ rfl (by kernel_rfl) (fun _ _ _ h => h) ?_ (by assumption) ?_; rotate_left; (focus (intro w hSw; (try dsimp only at hSw); go_simp; rw [if_neg]; (try with_reducible rfl); (all_goals (first | omega | (simp only [ByteArray.size_append]; omega))))); (try simp only [lib.hly]))
   (refine lib.tk 12 ?_ rfl (by kernel_rfl) (fun _ _ _ h => h) ?_ (by assumption) ?_; rotate_left; (focus (intro w hSw; (try dsimp only at hSw); go_simp; rw [if_neg]; (try with_reducible rfl); (all_goals (first | omega | (simp only [ByteArray.size_append]; omega))))); (try simp only [lib.hly]))
   (refine wpAnyH_ready (rs := [15, 35]) (by kernel_rfl) (by simp) ?_; refine AllReadyH.cons rfl (fun K hK => ?_) (AllReadyH.cons rfl (fun K hK => ?_) AllReadyH.nil))
   ·skip
    go_simp
    refine (HC3.out v2 (HL1.out.trans (HBv2.out.mono HL1.out.size))).mono ?_
    rintro e v3 ⟨rfl, bv3⟩
    have Dv2v3 := Lib.hid bv3
    have HBv3 := Lib.hid (HBv2.out.trans (bv3.mono HBv2.out.size))
    clear bv3
    refine hK.out _ _ ((HQ.out _ HBv3.out)) (fun hHeld => ?_)
    clear hK K
    (try simp only [lib.hly])
    (refine lib.tk 16 ?_ rfl (by kernel_rfl) (fun _ _ _ h => h) ?_ (by assumption) ?_; rotate_left; (focus (intro w hSw; (try dsimp only at hSw); go_simp; rw [if_neg]; (try with_reducible rfl); (all_goals (first | omega | (simp only [ByteArray.size_append]; omega))))); (try simp only [lib.hly]))
    (refine wpAnyH_ready (rs := [35]) (by kernel_rfl) (by simp) ?_; refine AllReadyH.cons rfl (fun K hK => ?_) AllReadyH.nil)
    go_simp
    obtain ⟨v4, hv4⟩ : ∃ u, v3.alloc (.cells #[.int .i64 t.skills, .int .i64 t.profile, .int .i64 t.opn, .int .i64 t.close, .int .i64 t.drive, .int .i64 t.rest, .int .i64 t.fixed, .int .i64 t.mile, .int .i64 t.tick] 3) = u := ⟨_, rfl⟩
    have Dv3v4 : Hid (Below v3.heap.size v3 v4) := Lib.hid (by rw [← hv4]; exact (Below.refl _ _).alloc (Nat.le_refl _) _)
    have HBv4 : Hid (Below W1.heap.size W1 v4) := Lib.hid (HBv3.out.trans (Dv3v4.out.mono HBv3.out.size))
    have HI9 : Hid (∀ x, Below v4.heap.size v4 x → Ints x x.heap.size (some ⟨v3.heap.size, 0, none⟩) [t.skills, t.profile, t.opn, t.close, t.drive, t.rest, t.fixed, t.mile, t.tick]) := Lib.hid (fun x hx => by
     have h := Ints.lit v3 [t.skills, t.profile, t.opn, t.close, t.drive, t.rest, t.fixed, t.mile, t.tick] (by simp)
     have e : v3.heap.size + 1 = v4.heap.size := by rw [← hv4, World.size_alloc]
     rw [show v3.alloc (.cells (([t.skills, t.profile, t.opn, t.close, t.drive, t.rest, t.fixed, t.mile, t.tick] : List Int).map (.int .i64)).toArray 3) = v4 from hv4, e] at h
     exact (h.below hx).more hx.size)
    rw [hv4]
    clear hv4
    refine hK.out _ _ ((HQ.out _ HBv4.out)) (fun hHeld => ?_)
    clear hK K
    (try simp only [lib.hly])
    (refine wpAnyH_ready (rs := [36]) (by kernel_rfl) (by simp) ?_; refine AllReadyH.cons rfl (fun K hK => ?_) AllReadyH.nil)
    go_simp
    refine (HC2.out v4 _ (HI9.out _ (Below.refl _ _))).mono ?_
    rintro e v5 ⟨rfl, bv5⟩
    have Dv4v5 := Lib.hid bv5
    have HBv5 := Lib.hid (HBv4.out.trans (bv5.mono HBv4.out.size))
    clear bv5
    refine hK.out _ _ ((HQ.out _ HBv5.out)) (fun hHeld => ?_)
    clear hK K
    (try simp only [lib.hly])
    (refine lib.tk 37 ?_ rfl (by kernel_rfl) (fun _ _ _ h => h) ?_ (by assumption) ?_; rotate_left; (focus (intro w hSw; (try dsimp only at hSw); go_simp; rw [if_neg]; (try with_reducible rfl); (all_goals (first | omega | (simp only [ByteArray.size_append]; omega))))); (try simp only [lib.hly]))
    (refine lib.tk 38 ?_ rfl (by kernel_rfl) (fun _ _ _ h => h) ?_ (by assumption) ?_; rotate_left; (focus (intro w hSw; (try dsimp only at hSw); go_simp; rw [if_neg]; (try with_reducible rfl); (all_goals (first | omega | (simp only [ByteArray.size_append]; omega))))); (try simp only [lib.hly]))
    (refine lib.tk 39 ?_ rfl (by kernel_rfl) (fun _ _ _ h => h) ?_ (by assumption) ?_; rotate_left; (focus (intro w hSw; (try dsimp only at hSw); go_simp; all_goals with_reducible rfl)); (try simp only [lib.hly]))
    (refine wpAnyH_done (by kernel_rfl) ?_ _)
    go_wp2
    go_ret
    exact ⟨by rw [← HKB.out]; rfl, HL1.out.trans (HBv5.out.mono HL1.out.size)⟩
   ·skip
    go_simp
    obtain ⟨v3, hv3⟩ : ∃ u, v2.alloc (.cells #[.int .i64 t.skills, .int .i64 t.profile, .int .i64 t.opn, .int .i64 t.close, .int .i64 t.drive, .int .i64 t.rest, .int .i64 t.fixed, .int .i64 t.mile, .int .i64 t.tick] 3) = u := ⟨_, rfl⟩
    have Dv2v3 : Hid (Below v2.heap.size v2 v3) := Lib.hid (by rw [← hv3]; exact (Below.refl _ _).alloc (Nat.le_refl _) _)
    have HBv3 : Hid (Below W1.heap.size W1 v3) := Lib.hid (HBv2.out.trans (Dv2v3.out.mono HBv2.out.size))
    have HI9 : Hid (∀ x, Below v3.heap.size v3 x → Ints x x.heap.size (some ⟨v2.heap.size, 0, none⟩) [t.skills, t.profile, t.opn, t.close, t.drive, t.rest, t.fixed, t.mile, t.tick]) := Lib.hid (fun x hx => by
     have h := Ints.lit v2 [t.skills, t.profile, t.opn, t.close, t.drive, t.rest, t.fixed, t.mile, t.tick] (by simp)
     have e : v2.heap.size + 1 = v3.heap.size := by rw [← hv3, World.size_alloc]
     rw [show v2.alloc (.cells (([t.skills, t.profile, t.opn, t.close, t.drive, t.rest, t.fixed, t.mile, t.tick] : List Int).map (.int .i64)).toArray 3) = v3 from hv3, e] at h
     exact (h.below hx).more hx.size)
    rw [hv3]
    clear hv3
    refine hK.out _ _ ((HQ.out _ HBv3.out)) (fun hHeld => ?_)
    clear hK K
    (try simp only [lib.hly])
    (refine wpAnyH_ready (rs := [15]) (by kernel_rfl) (by simp) ?_; refine AllReadyH.cons rfl (fun K hK => ?_) AllReadyH.nil)
    go_simp
    refine (HC3.out v3 (HL1.out.trans (HBv3.out.mono HL1.out.size))).mono ?_
    rintro e v4 ⟨rfl, bv4⟩
    have Dv3v4 := Lib.hid bv4
    have HBv4 := Lib.hid (HBv3.out.trans (bv4.mono HBv3.out.size))
    clear bv4
    refine hK.out _ _ ((HQ.out _ HBv4.out)) (fun hHeld => ?_)
    clear hK K
    (try simp only [lib.hly])
    (refine lib.tk 16 ?_ rfl (by kernel_rfl) (fun _ _ _ h => h) ?_ (by assumption) ?_; rotate_left; (focus (intro w hSw; (try dsimp only at hSw); go_simp; rw [if_neg]; (try with_reducible rfl); (all_goals (first | omega | (simp only [ByteArray.size_append]; omega))))); (try simp only [lib.hly]))
    (refine wpAnyH_ready (rs := [36]) (by kernel_rfl) (by simp) ?_; refine AllReadyH.cons rfl (fun K hK => ?_) AllReadyH.nil)
    go_simp
    refine (HC2.out v4 _ (HI9.out _ (Dv3v4.out))).mono ?_
    rintro e v5 ⟨rfl, bv5⟩
    have Dv4v5 := Lib.hid bv5
    have HBv5 := Lib.hid (HBv4.out.trans (bv5.mono HBv4.out.size))
    clear bv5
    refine hK.out _ _ ((HQ.out _ HBv5.out)) (fun hHeld => ?_)
    clear hK K
    (try simp only [lib.hly])
    (refine lib.tk 37 ?_ rfl (by kernel_rfl) (fun _ _ _ h => h) ?_ (by assumption) ?_; rotate_left; (focus (intro w hSw; (try dsimp only at hSw); go_simp; rw [if_neg]; (try with_reducible rfl); (all_goals (first | omega | (simp only [ByteArray.size_append]; omega))))); (try simp only [lib.hly]))
    (refine lib.tk 38 ?_ rfl (by kernel_rfl) (fun _ _ _ h => h) ?_ (by assumption) ?_; rotate_left; (focus (intro w hSw; (try dsimp only at hSw); go_simp; rw [if_neg]; (try with_reducible rfl); (all_goals (first | omega | (simp only [ByteArray.size_append]; omega))))); (try simp only [lib.hly]))
    (refine lib.tk 39 ?_ rfl (by kernel_rfl) (fun _ _ _ h => h) ?_ (by assumption) ?_; rotate_left; (focus (intro w hSw; (try dsimp only at hSw); go_simp; all_goals with_reducible rfl)); (try simp only [lib.hly]))
    (refine wpAnyH_done (by kernel_rfl) ?_ _)
    go_wp2
    go_ret
    exact ⟨by rw [← HKB.out]; rfl, HL1.out.trans (HBv5.out.mono HL1.out.size)⟩
  ·skip
   go_simp
   obtain ⟨v2, hv2⟩ : ∃ u, v1.alloc (.cells #[.int .i64 t.skills, .int .i64 t.profile, .int .i64 t.opn, .int .i64 t.close, .int .i64 t.drive, .int .i64 t.rest, .int .i64 t.fixed, .int .i64 t.mile, .int .i64 t.tick] 3) = u := ⟨_, rfl⟩
   have Dv1v2 : Hid (Below v1.heap.size v1 v2) := Lib.hid (by rw [← hv2]; exact (Below.refl _ _).alloc (Nat.le_refl _) _)
   have HBv2 : Hid (Below W1.heap.size W1 v2) := Lib.hid (HBv1.out.trans (Dv1v2.out.mono HBv1.out.size))
   have HI9 : Hid (∀ x, Below v2.heap.size v2 x → Ints x x.heap.size (some ⟨v1.heap.size, 0, none⟩) [t.skills, t.profile, t.opn, t.close, t.drive, t.rest, t.fixed, t.mile, t.tick]) := Lib.hid (fun x hx => by
    have h := Ints.lit v1 [t.skills, t.profile, t.opn, t.close, t.drive, t.rest, t.fixed, t.mile, t.tick] (by simp)
    have e : v1.heap.size + 1 = v2.heap.size := by rw [← hv2, World.size_alloc]
    rw [show v1.alloc (.cells (([t.skills, t.profile, t.opn, t.close, t.drive, t.rest, t.fixed, t.mile, t.tick] : List Int).map (.int .i64)).toArray 3) = v2 from hv2, e] at h
    exact (h.below hx).more hx.size)
   rw [hv2]
   clear hv2
   refine hK.out _ _ ((HQ.out _ HBv2.out)) (fun hHeld => ?_)
   clear hK K
   (try simp only [lib.hly])
   (refine wpAnyH_ready (rs := [10]) (by kernel_rfl) (by simp) ?_; refine AllReadyH.cons rfl (fun K hK => ?_) AllReadyH.nil)
   go_simp
   refine (HC1.out v2 _ (HI3.out _ Dv1v2.out)).mono ?_
   rintro e v3 ⟨rfl, bv3⟩
   have Dv2v3 := Lib.hid bv3
   have HBv3 := Lib.hid (HBv2.out.trans (bv3.mono HBv2.out.size))
   clear bv3
   refine hK.out _ _ ((HQ.out _ HBv3.out)) (fun hHeld => ?_)
   clear hK K
   (try simp only [lib.hly])
   (refine lib.tk 11 ?_ rfl (by kernel_rfl) (fun _ _ _ h => h) ?_ (by assumption) ?_; rotate_left; (focus (intro w hSw; (try dsimp only at hSw); go_simp; rw [if_neg]; (try with_reducible rfl); (all_goals (first | omega | (simp only [ByteArray.size_append]; omega))))); (try simp only [lib.hly]))
   (refine lib.tk 12 ?_ rfl (by kernel_rfl) (fun _ _ _ h => h) ?_ (by assumption) ?_; rotate_left; (focus (intro w hSw; (try dsimp only at hSw); go_simp; rw [if_neg]; (try with_reducible rfl); (all_goals (first | omega | (simp only [ByteArray.size_append]; omega))))); (try simp only [lib.hly]))
   (refine wpAnyH_ready (rs := [15]) (by kernel_rfl) (by simp) ?_; refine AllReadyH.cons rfl (fun K hK => ?_) AllReadyH.nil)
   go_simp
   refine (HC3.out v3 (HL1.out.trans (HBv3.out.mono HL1.out.size))).mono ?_
   rintro e v4 ⟨rfl, bv4⟩
   have Dv3v4 := Lib.hid bv4
   have HBv4 := Lib.hid (HBv3.out.trans (bv4.mono HBv3.out.size))
   clear bv4
   refine hK.out _ _ ((HQ.out _ HBv4.out)) (fun hHeld => ?_)
   clear hK K
   (try simp only [lib.hly])
   (refine lib.tk 16 ?_ rfl (by kernel_rfl) (fun _ _ _ h => h) ?_ (by assumption) ?_; rotate_left; (focus (intro w hSw; (try dsimp only at hSw); go_simp; rw [if_neg]; (try with_reducible rfl); (all_goals (first | omega | (simp only [ByteArray.size_append]; omega))))); (try simp only [lib.hly]))
   (refine wpAnyH_ready (rs := [36]) (by kernel_rfl) (by simp) ?_; refine AllReadyH.cons rfl (fun K hK => ?_) AllReadyH.nil)
   go_simp
   refine (HC2.out v4 _ (HI9.out _ ((Dv2v3.out.trans (Dv3v4.out.mono Dv2v3.out.size))))).mono ?_
   rintro e v5 ⟨rfl, bv5⟩
   have Dv4v5 := Lib.hid bv5
   have HBv5 := Lib.hid (HBv4.out.trans (bv5.mono HBv4.out.size))
   clear bv5
   refine hK.out _ _ ((HQ.out _ HBv5.out)) (fun hHeld => ?_)
   clear hK K
   (try simp only [lib.hly])
   (refine lib.tk 37 ?_ rfl (by kernel_rfl) (fun _ _ _ h => h) ?_ (by assumption) ?_; rotate_left; (focus (intro w hSw; (try dsimp only at hSw); go_simp; rw [if_neg]; (try with_reducible rfl); (all_goals (first | omega | (simp only [ByteArray.size_append]; omega))))); (try simp only [lib.hly]))
   (refine lib.tk 38 ?_ rfl (by kernel_rfl) (fun _ _ _ h => h) ?_ (by assumption) ?_; rotate_left; (focus (intro w hSw; (try dsimp only at hSw); go_simp; rw [if_neg]; (try with_reducible rfl); (all_goals (first | omega | (simp only [ByteArray.size_append]; omega))))); (try simp only [lib.hly]))
   (refine lib.tk 39 ?_ rfl (by kernel_rfl) (fun _ _ _ h => h) ?_ (by assumption) ?_; rotate_left; (focus (intro w hSw; (try dsimp only at hSw); go_simp; all_goals with_reducible rfl)); (try simp only [lib.hly]))
   (refine wpAnyH_done (by kernel_rfl) ?_ _)
   go_wp2
   go_ret
   exact ⟨by rw [← HKB.out]; rfl, HL1.out.trans (HBv5.out.mono HL1.out.size)⟩
 ·skip
  go_simp
  obtain ⟨v1, hv1⟩ : ∃ u, v0.alloc (.cells #[.int .i64 t.skills, .int .i64 t.profile, .int .i64 t.opn, .int .i64 t.close, .int .i64 t.drive, .int .i64 t.rest, .int .i64 t.fixed, .int .i64 t.mile, .int .i64 t.tick] 3) = u := ⟨_, rfl⟩
  have Dv0v1 : Hid (Below v0.heap.size v0 v1) := Lib.hid (by rw [← hv1]; exact (Below.refl _ _).alloc (Nat.le_refl _) _)
  have HBv1 : Hid (Below W1.heap.size W1 v1) := Lib.hid (HBv0.out.trans (Dv0v1.out.mono HBv0.out.size))
  have HI9 : Hid (∀ x, Below v1.heap.size v1 x → Ints x x.heap.size (some ⟨v0.heap.size, 0, none⟩) [t.skills, t.profile, t.opn, t.close, t.drive, t.rest, t.fixed, t.mile, t.tick]) := Lib.hid (fun x hx => by
   have h := Ints.lit v0 [t.skills, t.profile, t.opn, t.close, t.drive, t.rest, t.fixed, t.mile, t.tick] (by simp)
   have e : v0.heap.size + 1 = v1.heap.size := by rw [← hv1, World.size_alloc]
   rw [show v0.alloc (.cells (([t.skills, t.profile, t.opn, t.close, t.drive, t.rest, t.fixed, t.mile, t.tick] : List Int).map (.int .i64)).toArray 3) = v1 from hv1, e] at h
   exact (h.below hx).more hx.size)
  rw [hv1]
  clear hv1
  refine hK.out _ _ ((HQ.out _ HBv1.out)) (fun hHeld => ?_)
  clear hK K
  (try simp only [lib.hly])
  (refine wpAnyH_ready (rs := [9]) (by kernel_rfl) (by simp) ?_; refine AllReadyH.cons rfl (fun K hK => ?_) AllReadyH.nil)
  go_simp
  obtain ⟨v2, hv2⟩ : ∃ u, v1.alloc (.cells #[.int .i64 t.count, .int .i64 t.frm, .int .i64 t.to] 3) = u := ⟨_, rfl⟩
  have Dv1v2 : Hid (Below v1.heap.size v1 v2) := Lib.hid (by rw [← hv2]; exact (Below.refl _ _).alloc (Nat.le_refl _) _)
  have HBv2 : Hid (Below W1.heap.size W1 v2) := Lib.hid (HBv1.out.trans (Dv1v2.out.mono HBv1.out.size))
  have HI3 : Hid (∀ x, Below v2.heap.size v2 x → Ints x x.heap.size (some ⟨v1.heap.size, 0, none⟩) [t.count, t.frm, t.to]) := Lib.hid (fun x hx => by
   have h := Ints.lit v1 [t.count, t.frm, t.to] (by simp)
   have e : v1.heap.size + 1 = v2.heap.size := by rw [← hv2, World.size_alloc]
   rw [show v1.alloc (.cells (([t.count, t.frm, t.to] : List Int).map (.int .i64)).toArray 3) = v2 from hv2, e] at h
   exact (h.below hx).more hx.size)
  rw [hv2]
  clear hv2
  refine hK.out _ _ ((HQ.out _ HBv2.out)) (fun hHeld => ?_)
  clear hK K
  (try simp only [lib.hly])
  (refine wpAnyH_ready (rs := [10]) (by kernel_rfl) (by simp) ?_; refine AllReadyH.cons rfl (fun K hK => ?_) AllReadyH.nil)
  go_simp
  refine (HC1.out v2 _ (HI3.out _ (Below.refl _ _))).mono ?_
  rintro e v3 ⟨rfl, bv3⟩
  have Dv2v3 := Lib.hid bv3
  have HBv3 := Lib.hid (HBv2.out.trans (bv3.mono HBv2.out.size))
  clear bv3
  refine hK.out _ _ ((HQ.out _ HBv3.out)) (fun hHeld => ?_)
  clear hK K
  (try simp only [lib.hly])
  (refine lib.tk 11 ?_ rfl (by kernel_rfl) (fun _ _ _ h => h) ?_ (by assumption) ?_; rotate_left; (focus (intro w hSw; (try dsimp only at hSw); go_simp; rw [if_neg]; (try with_reducible rfl); (all_goals (first | omega | (simp only [ByteArray.size_append]; omega))))); (try simp only [lib.hly]))
  (refine lib.tk 12 ?_ rfl (by kernel_rfl) (fun _ _ _ h => h) ?_ (by assumption) ?_; rotate_left; (focus (intro w hSw; (try dsimp only at hSw); go_simp; rw [if_neg]; (try with_reducible rfl); (all_goals (first | omega | (simp only [ByteArray.size_append]; omega))))); (try simp only [lib.hly]))
  (refine wpAnyH_ready (rs := [15]) (by kernel_rfl) (by simp) ?_; refine AllReadyH.cons rfl (fun K hK => ?_) AllReadyH.nil)
  go_simp
  refine (HC3.out v3 (HL1.out.trans (HBv3.out.mono HL1.out.size))).mono ?_
  rintro e v4 ⟨rfl, bv4⟩
  have Dv3v4 := Lib.hid bv4
  have HBv4 := Lib.hid (HBv3.out.trans (bv4.mono HBv3.out.size))
  clear bv4
  refine hK.out _ _ ((HQ.out _ HBv4.out)) (fun hHeld => ?_)
  clear hK K
  (try simp only [lib.hly])
  (refine lib.tk 16 ?_ rfl (by kernel_rfl) (fun _ _ _ h => h) ?_ (by assumption) ?_; rotate_left; (focus (intro w hSw; (try dsimp only at hSw); go_simp; rw [if_neg]; (try with_reducible rfl); (all_goals (first | omega | (simp only [ByteArray.size_append]; omega))))); (try simp only [lib.hly]))
  (refine wpAnyH_ready (rs := [36]) (by kernel_rfl) (by simp) ?_; refine AllReadyH.cons rfl (fun K hK => ?_) AllReadyH.nil)
  go_simp
  refine (HC2.out v4 _ (HI9.out _ ((Dv1v2.out.trans ((Dv2v3.out.trans (Dv3v4.out.mono Dv2v3.out.size)).mono Dv1v2.out.size))))).mono ?_
  rintro e v5 ⟨rfl, bv5⟩
  have Dv4v5 := Lib.hid bv5
  have HBv5 := Lib.hid (HBv4.out.trans (bv5.mono HBv4.out.size))
  clear bv5
  refine hK.out _ _ ((HQ.out _ HBv5.out)) (fun hHeld => ?_)
  clear hK K
  (try simp only [lib.hly])
  (refine lib.tk 37 ?_ rfl (by kernel_rfl) (fun _ _ _ h => h) ?_ (by assumption) ?_; rotate_left; (focus (intro w hSw; (try dsimp only at hSw); go_simp; rw [if_neg]; (try with_reducible rfl); (all_goals (first | omega | (simp only [ByteArray.size_append]; omega))))); (try simp only [lib.hly]))
  (refine lib.tk 38 ?_ rfl (by kernel_rfl) (fun _ _ _ h => h) ?_ (by assumption) ?_; rotate_left; (focus (intro w hSw; (try dsimp only at hSw); go_simp; rw [if_neg]; (try with_reducible rfl); (all_goals (first | omega | (simp only [ByteArray.size_append]; omega))))); (try simp only [lib.hly]))
  (refine lib.tk 39 ?_ rfl (by kernel_rfl) (fun _ _ _ h => h) ?_ (by assumption) ?_; rotate_left; (focus (intro w hSw; (try dsimp only at hSw); go_simp; all_goals with_reducible rfl)); (try simp only [lib.hly]))
  (refine wpAnyH_done (by kernel_rfl) ?_ _)
  go_wp2
  go_ret
  exact ⟨by rw [← HKB.out]; rfl, HL1.out.trans (HBv5.out.mono HL1.out.size)⟩
end Go.Proofs.YthefooacfcagbaaGreatDoor.spc
