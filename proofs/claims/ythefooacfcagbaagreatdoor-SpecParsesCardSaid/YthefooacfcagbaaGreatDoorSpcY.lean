import Derived.Test.YthefooacfcagbaaGreatDoorStrX
import Derived.Test.YthefooacfcagbaaGreatDoorSpcX
import Derived.Test.YthefooacfcagbaaGreatDoorOffX
import Derived.Test.YthefooacfcagbaaGreatDoorShelf
import Derived.Test.YthefooacfcagbaaGreatDoorShelfS
/- spec: the texts of lists, stops and points. The program. -/
namespace Go.Proofs.YthefooacfcagbaaGreatDoor.spc
open Go.RowKit
open lib rd app els typ big gen
open txt (in64 By strV strV_of decW decW_any Tabs elem_str toList_data push_one)
set_option linter.unusedVariables false
set_option linter.unusedSimpArgs false
theorem sjoin_any (S : ByteArray) (L : List By) (g n c base : Nat) (w : World) (hn : n = L.length) (hown : w.ownsRow base 9 1 (.slice (some ⟨g, 0, none⟩) n c) n (L.map strV)) (h0 : 0 < n) (hn1 : n ≤ 100000) (hlen : (Lib.join L S.data.toList).length ≤ 140737488355328) :
  Calls Tryz.prog 42 #[.slice (some ⟨g, 0, none⟩) n c, .string S] w fun e w' => e = .returned (.string ⟨(Lib.join L S.data.toList).toArray⟩) ∧ Below w.heap.size w w' := by
 obtain ⟨xs, hxs⟩ : ∃ xs : List ByteArray, xs = L.map fun l => ⟨l.toArray⟩ := ⟨_, rfl⟩
 have hxl : xs.length = n := by rw [hxs, hn]; simp
 have hxm : xs.map (·.data.toList) = L := by rw [hxs, List.map_map]; exact List.map_id L
 have hcap : xs.length ≤ c := by
  rw [hxl]
  rcases hown.2 with ⟨h, hz⟩ | ⟨g0, cap0, cur, h, _, hg, hnc, _⟩
  ·cases h
  ·injection h with e1 e2 e3
   omega
 have hbk : g < w.heap.size := by
  obtain ⟨g1, c1, hv, _, hlt⟩ := hown.form h0
  injection hv with e1 e2 e3
  have e4 : g = g1 := congrArg Addr.block (Option.some.inj e1)
  omega
 have hcells : ∀ (j : Nat) x, xs[j]? = some x → w.cell? ⟨g, 0 + j, none⟩ = some (.string x) := by
  intro j x hx
  have hj : j < n := by rw [← hxl]; exact (List.getElem?_eq_some_iff.1 hx).1
  have h := hown.cellAt j (by omega)
  rw [Nat.zero_add, h, List.getElem?_map]
  rw [hxs, List.getElem?_map] at hx
  cases hL : L[j]? with
  | none => rw [hL] at hx; cases hx
  | some l =>
   rw [hL] at hx
   have hx2 := Option.some.inj hx
   show some (strV l) = some (Value.string x)
   rw [← hx2]; rfl
 have hc := Tryz.strings_Join g 0 c xs S w hcells hbk (by omega) hcap (by rw [hxm]; exact hlen)
 rw [hxl, hxm] at hc
 exact hc
def SRel (W0 : World) (L : List By) (m : Nat) (pv iv : Value) (wr : World) : Prop := Below W0.heap.size W0 wr ∧ ∃ (k c : Nat) (A : Option Addr), k ≤ m ∧ iv = .int .i64 k ∧ pv = .slice A k c ∧ Hid (wr.ownsRow W0.heap.size 9 1 (.slice A k c) k ((L.take k).map strV))
theorem SRel.step {W w' : World} {L : List By} {k c g : Nat} {x : By} {B : ByteArray} (hx : L[k]? = some x) (hB : B.data.toList = x) (h : w'.ownsRow W.heap.size 9 1 (.slice (some ⟨g, 0, none⟩) (k + 1) c) (k + 1) ((L.take k).map strV ++ [.string B])) : w'.ownsRow W.heap.size 9 1 (.slice (some ⟨g, 0, none⟩) (k + 1) c) (k + 1) ((L.take (k + 1)).map strV) := by
 rw [List.take_add_one, hx, Option.toList_some, List.map_append, List.map_cons, List.map_nil, ← hB, ← strV_of]
 exact h
theorem join_len20 {L : List By} (S : By) (hS : S.length = 1) (h : ∀ x ∈ L, x.length ≤ 60) (hn : L.length ≤ 100000) : (Lib.join L S).length ≤ 10000000 := by
 cases L with
 | nil => simp [Lib.join_nil]
 | cons x r =>
  have key : ∀ M : List By, (∀ x ∈ M, x.length ≤ 60) → Lib.lens M ≤ 60 * M.length := by
   intro M
   induction M with
   | nil => intro _; simp [Lib.lens]
   | cons y M ih =>
    intro hM
    have h1 := ih fun z hz => hM z (List.mem_cons_of_mem _ hz)
    have h2 := hM y (List.mem_cons_self ..)
    simp only [Lib.lens, List.map_cons, List.sum_cons, List.length_cons] at h1 ⊢
    omega
  rw [Lib.join_length]
  have := key (x :: r) h
  rw [List.length_cons] at hn this
  rw [hS]
  omega
set_option maxRecDepth 20000 in
set_option maxHeartbeats 1000000 in
theorem list_any (l : List Int) (A : Option Addr) (n c : Nat) (hn : n = l.length) (w : World) (ht : Tabs w) (hI : Ints w w.heap.size A l) (h64 : ∀ x ∈ l, in64 x) (hlen : n ≤ 100000) :
  Calls Tryz.prog 21 #[.slice A n c] w fun e w' => e = .returned (.string ⟨(listF l).toArray⟩) ∧ Below w.heap.size w w' := by
 have HI := Lib.hid (fun w' (h' : Below w.heap.size w w') => hI.below h')
 have HTb : Hid (∀ w', Below w.heap.size w w' → Tabs w') := Lib.hid (fun w' h => ht.below h)
 have H64 := Lib.hid h64
 have HN := Lib.hid hn
 obtain ⟨r, hr⟩ : ∃ r, listF l = r := ⟨_, rfl⟩
 have HR := Lib.hid hr
 rw [hr]
 clear hI ht h64 hr
 go_enter Tryz.func21, Tryz.ntmps21
 by_cases h0 : n = 0
 ·have hr : r = [46] := by
   rw [← HR.out]
   unfold listF
   rw [if_pos (List.eq_nil_of_length_eq_zero (by omega))]
  subst hr
  subst h0
  clear hn
  go_wp2
  go_ret
  exact ⟨rfl, Below.refl _ _⟩
 ·have hn0 : ¬ (n : Int) = 0 := by omega
  clear hn
  go_upto_region 5 with fail
  try simp only [show ((n : Int) == 0) = false by simpa using h0, show decide ((n : Int) = 0) = false by simpa using h0, show (n == 0) = false by simpa using h0, show decide (n = 0) = false by simpa using h0]
  go_loopw [3, 11] (SRel w (l.map Lib.itoa) n) (fun _ i _ => n - (intOf i).toNat)
  case atStart => exact ⟨Below.refl _ _, 0, 0, none, by omega, rfl, rfl, Lib.hid (World.ownsRow_nil _ _ _ _)⟩
  case round =>
   obtain ⟨hb, k, c1, A1, hk, rfl, rfl, hrow⟩ := hrel
   have HBV := Lib.hid hb
   have hbz := hb.size
   clear hb
   by_cases hlt : k < n
   ·obtain ⟨ad, x, hA, hadb, hx, hcell⟩ := (HI.out _ HBV.out).at_ (k := k) (by rw [← HN.out]; exact hlt)
    have hx64 := H64.out _ (List.mem_of_getElem? hx)
    have HX := Lib.hid (show (l.map Lib.itoa)[k]? = some (Lib.itoa x) by rw [List.getElem?_map, hx]; rfl)
    have hk0 : (0 : Int) ≤ (k : Int) := by omega
    have hkn : (k : Int) < (n : Int) := by omega
    have hT := HTb.out _ HBV.out
    subst hA
    clear hx
    go_wp2_with (first
     | (go_at_call 41; refine (decW_any x hx64 _ hT).mono ?_; rintro e2 w2 ⟨rfl, hb2⟩; have hbz2 := hb2.size; have hrow2 := own_below hrow.out hb2)
     | (at_builtin; refine push_one elem_str rfl _ _ rfl w.heap.size _ k ((List.take k (l.map Lib.itoa)).map strV) rfl hrow2 _ rfl rfl (by omega) (by omega) ?_; intro g' c' w3 hown3 hb4))
    go_roundw
    case rel => exact ⟨(HBV.out.trans (hb2.mono hbz)).trans hb4, k + 1, c', _, by omega, by go_num, rfl, Lib.hid (SRel.step HX.out (by unfold decW; simp) hown3)⟩
    case measure => simp [intOf]; omega
   ·have hkn : ¬ (k : Int) < (n : Int) := by omega
    have hke : k = n := by omega
    subst hke
    obtain ⟨g, c2, hv, _, _⟩ := hrow.out.form (by omega)
    injection hv with e1 e2 e3
    subst e1
    have hall : (l.map Lib.itoa).take k = l.map Lib.itoa := List.take_of_length_le (by rw [List.length_map, ← HN.out]; exact Nat.le_refl _)
    have hjl : (Lib.join (l.map Lib.itoa) [44]).length ≤ 140737488355328 := Nat.le_trans (join_len20 [44] rfl (fun y hy => by
     obtain ⟨z, hz, rfl⟩ := List.mem_map.1 hy
     have := itoa_len (H64.out z hz)
     omega) (by rw [List.length_map, ← HN.out]; exact hlen)) (by decide)
    have HJ := Lib.hid (sjoin_any ⟨#[44]⟩ (l.map Lib.itoa) g k c1 w.heap.size wr (by rw [List.length_map]; exact HN.out) (by rw [← hall]; exact hrow.out) (by omega) hlen hjl)
    have hr : r = Lib.join (l.map Lib.itoa) [44] := by
     rw [← HR.out]
     unfold listF
     rw [if_neg (fun e => by rw [HN.out, e] at h0; exact h0 rfl)]
    subst hr
    clear hall hjl e2 e3 hrow
    go_wp2_with (go_at_call 42; refine HJ.out.mono ?_; rintro e w1 ⟨rfl, hb1⟩)
    go_ret
    exact ⟨rfl, HBV.out.trans (hb1.mono hbz)⟩
end Go.Proofs.YthefooacfcagbaaGreatDoor.spc

/- spec.Travel, walked. The program. -/
namespace Go.Proofs.YthefooacfcagbaaGreatDoor.spc
open Go.RowKit
open lib rd app els typ big gen
open txt (in64 By strV strV_of decW decW_any Tabs elem_str toList_data push_one)
set_option linter.unusedVariables false
set_option linter.unusedSimpArgs false
theorem ptF_len {p : Pt} (h : in64 p.t) (h' : in64 p.a) : (ptF p).length ≤ 60 := by
 unfold ptF
 rw [List.length_append, List.length_cons]
 have := itoa_len h
 have := itoa_len h'
 omega
theorem decW_size {n : Int} (h : in64 n) : (decW n).size ≤ 20 := by
 have e : (decW n).size = (Lib.itoa n).length := by unfold decW; simp [ByteArray.size]
 rw [e]
 exact itoa_len h
set_option maxRecDepth 20000 in
set_option maxHeartbeats 1000000 in
theorem travel_any (l : List Pt) (A : Option Addr) (n c : Nat) (hn : n = l.length) (w : World) (ht : Tabs w) (hI : RowAt rPt w w.heap.size A l) (h64 : ∀ p ∈ l, in64 p.t ∧ in64 p.a) (hlen : n ≤ 100000) :
  Calls Tryz.prog 16 #[.slice A n c] w fun e w' => e = .returned (.string ⟨(trvF l).toArray⟩) ∧ Below w.heap.size w w' := by
 have HI := Lib.hid (fun w' (h' : Below w.heap.size w w') => hI.below h')
 have HTb : Hid (∀ w', Below w.heap.size w w' → Tabs w') := Lib.hid (fun w' h => ht.below h)
 have H64 := Lib.hid h64
 have HN := Lib.hid hn
 obtain ⟨r, hr⟩ : ∃ r, trvF l = r := ⟨_, rfl⟩
 have HR := Lib.hid hr
 rw [hr]
 clear hI ht h64 hr
 go_enter Tryz.func16, Tryz.ntmps16
 by_cases h0 : n = 0
 ·have hr : r = [46] := by
   rw [← HR.out]
   unfold trvF
   rw [if_pos (List.eq_nil_of_length_eq_zero (by omega))]
  subst hr
  subst h0
  clear hn
  go_wp2
  go_ret
  exact ⟨rfl, Below.refl _ _⟩
 ·have hn0 : ¬ (n : Int) = 0 := by omega
  clear hn
  go_upto_region 5 with fail
  try simp only [show ((n : Int) == 0) = false by simpa using h0, show decide ((n : Int) = 0) = false by simpa using h0, show (n == 0) = false by simpa using h0, show decide (n = 0) = false by simpa using h0]
  go_loopw [3, 11] (SRel w (l.map ptF) n) (fun _ i _ => n - (intOf i).toNat)
  case atStart => exact ⟨Below.refl _ _, 0, 0, none, by omega, rfl, rfl, Lib.hid (World.ownsRow_nil _ _ _ _)⟩
  case round =>
   obtain ⟨hb, k, c1, A1, hk, rfl, rfl, hrow⟩ := hrel
   have HBV := Lib.hid hb
   have hbz := hb.size
   clear hb
   by_cases hlt : k < n
   ·obtain ⟨p, hp⟩ : ∃ p, l[k]? = some p := ⟨_, List.getElem?_eq_getElem (by rw [← HN.out]; exact hlt)⟩
    obtain ⟨ad, hA, hadb, ⟨m0, m1⟩, hpf⟩ := row_Pt (HI.out _ HBV.out) hp
    obtain ⟨hx64, hy64⟩ := H64.out _ (List.mem_of_getElem? hp)
    have HX := Lib.hid (show (l.map ptF)[k]? = some (ptF p) by rw [List.getElem?_map, hp]; rfl)
    have hk0 : (0 : Int) ≤ (k : Int) := by omega
    have hkn : (k : Int) < (n : Int) := by omega
    subst hA
    clear hp hpf
    go_upto_region 7 with fail
    obtain ⟨v, hv⟩ : ∃ v, wr.alloc (.cells #[.int .i64 p.t, .int .i64 p.a] 89) = v := ⟨_, rfl⟩
    have b1 : Blk v wr.heap.size 89 [.int .i64 p.t, .int .i64 p.a] := by rw [← hv]; exact World.alloc_heap_new wr _
    have bv : Below wr.heap.size wr v := by rw [← hv]; exact (Below.refl _ _).alloc (Nat.le_refl _) _
    have HQ := Lib.hid (fun w' (h' : Below v.heap.size v w') => And.intro ((b1.below h').cell (j := 0) rfl) ((b1.below h').cell (j := 1) rfl))
    have HQB := Lib.hid (fun w' (h' : Below v.heap.size v w') => b1.below h')
    have HNE : Hid (some wr.heap.size ≠ (Value.slice A1 k c1).ownBlock) := Lib.hid (fun e => by have := World.ownsRow.lt hrow.out _ e.symm; omega)
    have HOW := Lib.hid (own_below hrow.out bv)
    have HVV := Lib.hid (HBV.out.trans (bv.mono hbz))
    obtain ⟨s1, hs1⟩ : ∃ s, decW p.t = s := ⟨_, rfl⟩
    obtain ⟨s2, hs2⟩ : ∃ s, decW p.a = s := ⟨_, rfl⟩
    have hz1 : s1.size ≤ 20 := by rw [← hs1]; exact decW_size hx64
    have hz2 : s2.size ≤ 20 := by rw [← hs2]; exact decW_size hy64
    have HD1 : Hid (∀ w', Below w.heap.size w w' → Calls Tryz.prog 41 #[.int .i64 p.t] w' fun e w'' => e = .returned (.string s1) ∧ Below w'.heap.size w' w'') := Lib.hid (fun w' h' => by rw [← hs1]; exact decW_any p.t hx64 w' (HTb.out _ h'))
    have HD2 : Hid (∀ w', Below w.heap.size w w' → Calls Tryz.prog 41 #[.int .i64 p.a] w' fun e w'' => e = .returned (.string s2) ∧ Below w'.heap.size w' w'') := Lib.hid (fun w' h' => by rw [← hs2]; exact decW_any p.a hy64 w' (HTb.out _ h'))
    have HS : Hid ((s1 ++ ⟨#[58]⟩ ++ s2 : ByteArray).data.toList = ptF p) := Lib.hid (by rw [← hs1, ← hs2]; unfold ptF; simp [decW])
    rw [hv]
    clear hs1 hs2 m0 m1 b1 hrow hv
    have hvz := bv.size
    clear bv
    (refine wp_region_held_drew (S := (fun w' => w'.cell? ⟨wr.heap.size, 0, none⟩ = some (.int .i64 p.t) ∧ w'.cell? ⟨wr.heap.size, 1, none⟩ = some (.int .i64 p.a))) (by kernel_rfl) ?_ (fun hHeld => ?_))
    ·exact HQ.out _ (Below.refl _ _).drew
    (refine lib.tk 0 rfl ?_; (try simp only [lib.hly]))
    (refine lib.tk 1 rfl ?_; (try simp only [lib.hly]))
    (refine lib.tk 2 rfl ?_; (try simp only [lib.hly]))
    (refine lib.tk 5 rfl ?_; (try simp only [lib.hly]))
    (refine lib.tk 6 rfl ?_; (try simp only [lib.hly]))
    (refine lib.rk 3 rfl fun K hK => ?_)
    go_simp
    refine (HD1.out _ HVV.out.drew).mono ?_
    rintro e3 v3 ⟨rfl, b3⟩
    have HB3 := Lib.hid (((Below.refl v.heap.size v).drew).trans b3)
    have HW3 := Lib.hid (HVV.out.trans (HB3.out.mono HVV.out.size))
    clear b3
    refine hK.out _ _ (HQ.out _ HB3.out) (fun hHeld => ?_)
    clear hK K
    (try simp only [lib.hly])
    (refine lib.tk (v := ?_) 4 rfl ?_ ?_; rotate_left 2; (focus (intro w hSw; (try dsimp only at hSw); go_simp; rw [if_neg (show ¬ 9223372036854775807 < s1.size + 1 by omega)]; try with_reducible rfl)); (try simp only [lib.hly]))
    (refine lib.rk 7 rfl fun K hK => ?_)
    go_simp
    refine (HD2.out _ HW3.out).mono ?_
    rintro e4 v4 ⟨rfl, b4⟩
    have HB4 := Lib.hid (HB3.out.trans (b4.mono HB3.out.size))
    have HW4 := Lib.hid (HW3.out.trans (b4.mono HW3.out.size))
    clear b4
    refine hK.out _ _ (HQ.out _ HB4.out) (fun hHeld => ?_)
    clear hK K
    (try simp only [lib.hly])
    obtain ⟨t1, ht1⟩ : ∃ t, s1 ++ (⟨#[58]⟩ : ByteArray) = t := ⟨_, rfl⟩
    have htz : t1.size ≤ 21 := by
     have e : (s1 ++ (⟨#[58]⟩ : ByteArray)).size = s1.size + 1 := by rw [ByteArray.size_append]; rfl
     rw [← ht1]; omega
    have HS2 : Hid ((t1 ++ s2 : ByteArray).data.toList = ptF p) := Lib.hid (by rw [← ht1]; exact HS.out)
    rw [ht1]
    clear ht1 HS
    (refine lib.tk (v := ?_) 8 rfl ?_ ?_; rotate_left 2; (focus (intro w hSw; (try dsimp only at hSw); go_simp; rw [if_neg (show ¬ 9223372036854775807 < t1.size + s2.size by omega)]; try with_reducible rfl)); (try simp only [lib.hly]))
    obtain ⟨t2, ht2⟩ : ∃ t, t1 ++ s2 = t := ⟨_, rfl⟩
    have HS3 : Hid (t2.data.toList = ptF p) := Lib.hid (by rw [← ht2]; exact HS2.out)
    rw [ht2]
    clear ht2 HS2
    (refine lib.rk 9 rfl fun K hK => ?_)
    go_simp
    have ba : Below v4.heap.size v4 (v4.alloc (.cells #[.string t2] 9)) := (Below.refl _ _).alloc (Nat.le_refl _) _
    have HBa := Lib.hid (HB4.out.trans (ba.mono HB4.out.size))
    have HWa := Lib.hid (HW4.out.trans (ba.mono HW4.out.size))
    have HOa := Lib.hid (own_below HOW.out HBa.out)
    have HKa := Lib.hid (HQB.out _ HBa.out)
    refine hK.out _ _ (HQ.out _ HBa.out) (fun hHeld => ?_)
    clear hK K
    (try simp only [lib.hly])
    (refine lib.rk 10 rfl fun K hK => ?_)
    refine step_app elem_str _ _ rfl w.heap.size A1 k c1 (((l.map ptF).take k).map strV) rfl HOa.out ⟨v4.heap.size, 0, none⟩ 1 [.string t2] rfl rfl (cell_one_new _ _ _) (fun u hu => by rw [List.mem_singleton] at hu; rw [hu]; rfl) (by omega) HWa.out.size rfl ?_
    intro g7 c7 w7 hown7 hg7 hx7
    have HW7 := Lib.hid (HWa.out.grown hg7 HWa.out.size (own_base HOa.out))
    have HK7 := Lib.hid (HKa.out.kept hg7 HNE.out)
    have HO7 := Lib.hid hown7
    clear hown7 hg7 hx7
    refine hK.out _ _ (And.intro (HK7.out.cell (j := 0) rfl) (HK7.out.cell (j := 1) rfl)) (fun hHeld => ?_)
    clear hK K
    (try simp only [lib.hly])
    (refine lib.tk 11 rfl ?_; (try simp only [lib.hly]))
    (refine wpAnyH_done (by kernel_rfl) ?_ _)
    go_wp2_with fail
    go_roundw
    case rel => exact ⟨HW7.out, k + 1, c7, _, by omega, by go_num, rfl, Lib.hid (SRel.step HX.out HS3.out HO7.out)⟩
    case measure => simp [intOf]; omega
   ·have hkn : ¬ (k : Int) < (n : Int) := by omega
    have hke : k = n := by omega
    subst hke
    obtain ⟨g, c2, hv, _, _⟩ := hrow.out.form (by omega)
    injection hv with e1 e2 e3
    subst e1
    have hall : (l.map ptF).take k = l.map ptF := List.take_of_length_le (by rw [List.length_map, ← HN.out]; exact Nat.le_refl _)
    have hjl : (Lib.join (l.map ptF) [44]).length ≤ 140737488355328 := Nat.le_trans (join_len20 [44] rfl (fun y hy => by
     obtain ⟨z, hz, rfl⟩ := List.mem_map.1 hy
     have := H64.out z hz
     exact ptF_len this.1 this.2) (by rw [List.length_map, ← HN.out]; exact hlen)) (by decide)
    have HJ := Lib.hid (sjoin_any ⟨#[44]⟩ (l.map ptF) g k c1 w.heap.size wr (by rw [List.length_map]; exact HN.out) (by rw [← hall]; exact hrow.out) (by omega) hlen hjl)
    have hr : r = Lib.join (l.map ptF) [44] := by
     rw [← HR.out]
     unfold trvF
     rw [if_neg (fun e => by rw [HN.out, e] at h0; exact h0 rfl)]
    subst hr
    clear hall hjl e2 e3 hrow
    go_wp2_with (go_at_call 42; refine HJ.out.mono ?_; rintro e w1 ⟨rfl, hb1⟩)
    go_ret
    exact ⟨rfl, HBV.out.trans (hb1.mono hbz)⟩
end Go.Proofs.YthefooacfcagbaaGreatDoor.spc

/- spec.Stop, walked. The program. -/
namespace Go.Proofs.YthefooacfcagbaaGreatDoor.spc
open Go.RowKit
open lib rd app els typ big gen
open txt (in64 By strV strV_of decW decW_any Tabs elem_str toList_data push_one isD dec_all)
set_option linter.unusedVariables false
set_option linter.unusedSimpArgs false
structure TabS (w : World) : Prop where
 tabs : Tabs w
 max : ∃ m : Int, w.cell? ⟨0, 0, none⟩ = some (.int .i64 m)
theorem TabS.below {w w' : World} (h : TabS w) (hb : Below w.heap.size w w') : TabS w' := by
 obtain ⟨m, hm⟩ := h.max
 exact ⟨h.tabs.below hb, m, (hb.cell (p := ⟨0, 0, none⟩) (Lib.lt_of_cell hm)).trans hm⟩
theorem stopF_is {s : Stp} (h : ¬ (s.place = -1 ∧ s.opn = 0 ∧ s.close = 0 ∧ s.service = 0)) : Lib.replaceAll (listF (stpN s)) [44] [58] = stopF s := by
 unfold stopF listF
 rw [if_neg h, if_neg (by simp [stpN]), repl_join (by decide)]
 intro x hx
 obtain ⟨z, _, rfl⟩ := List.mem_map.1 hx
 exact dig_no (by decide) (by decide) z
theorem countB_le (s : ByteArray) (l : By) (h : s.data.toList = l) : Lib.countB s ⟨#[44]⟩ ≤ l.length := by
 have e : Lib.countB s ⟨#[44]⟩ = Lib.count s.data.toList [44] := rfl
 rw [e, h, Lib.count_one]
 exact List.count_le_length
set_option maxRecDepth 20000 in
set_option maxHeartbeats 1000000 in
theorem sstop_any (s : Stp) (w : World) (ht : TabS w) (h64 : ∀ x ∈ stpN s, in64 x) :
  Calls Tryz.prog 14 #[.agg (StpCells s).toArray] w fun e w' => e = .returned (.string ⟨(stopF s).toArray⟩) ∧ Below w.heap.size w w' := by
 show Calls Tryz.prog 14 #[.agg #[.int .i64 s.place, .int .i64 s.opn, .int .i64 s.close, .int .i64 s.service]] w _
 have HTb : Hid (∀ w', Below w.heap.size w w' → TabS w') := Lib.hid (fun w' h => ht.below h)
 have H64 := Lib.hid h64
 obtain ⟨r, hr⟩ : ∃ r, stopF s = r := ⟨_, rfl⟩
 have HR := Lib.hid hr
 rw [hr]
 clear ht h64 hr
 go_enter Tryz.func14, Tryz.ntmps14
 by_cases h0 : s.place = -1 ∧ s.opn = 0 ∧ s.close = 0 ∧ s.service = 0
 ·have hr : r = [46] := by
   rw [← HR.out]
   unfold stopF
   rw [if_pos h0]
  subst hr
  obtain ⟨h1, h2, h3, h4⟩ := h0
  go_wp2
  go_ret
  exact ⟨rfl, ((Below.refl _ w).alloc (Nat.le_refl _) _).alloc (by simp) _⟩
 ·have HS := Lib.hid (stopF_is h0)
  obtain ⟨W1, hW1⟩ : ∃ W1, (w.alloc (.cells #[.int .i64 s.place, .int .i64 s.opn, .int .i64 s.close, .int .i64 s.service] 41)).alloc (.cells #[.int .i64 (-1), .int .i64 0, .int .i64 0, .int .i64 0] 41) = W1 := ⟨_, rfl⟩
  have b0 : Blk W1 w.heap.size 41 [.int .i64 s.place, .int .i64 s.opn, .int .i64 s.close, .int .i64 s.service] := by
   rw [← hW1]
   exact (Blk.new w _ _).kept (World.grownBy_alloc _ _ none) (by simp)
  have hB1 : Below w.heap.size w W1 := by rw [← hW1]; exact ((Below.refl _ _).alloc (Nat.le_refl _) _).alloc (by simp) _
  have HW1 := Lib.hid hW1
  have HB1 := Lib.hid hB1
  have c0 := b0.cell (j := 0) rfl
  have c1 := b0.cell (j := 1) rfl
  have c2 := b0.cell (j := 2) rfl
  have c3 := b0.cell (j := 3) rfl
  have hz1 := hB1.size
  have HL := Lib.hid (Ints.lit W1 (stpN s) (by simp [stpN]))
  obtain ⟨W2, hW2⟩ : ∃ W2, W1.alloc (.cells #[.int .i64 s.place, .int .i64 s.opn, .int .i64 s.close, .int .i64 s.service] 3) = W2 := ⟨_, rfl⟩
  have hz2 : W2.heap.size = W1.heap.size + 1 := by rw [← hW2]; simp
  have HB2 : Hid (Below w.heap.size w W2) := Lib.hid (hB1.trans (by rw [← hW2]; exact (Below.refl _ _).alloc hz1 _))
  have HC : Hid (Calls Tryz.prog 21 #[.slice (some ⟨W1.heap.size, 0, none⟩) 4 4] W2 fun e w' => e = .returned (.string ⟨(listF (stpN s)).toArray⟩) ∧ Below W2.heap.size W2 w') := Lib.hid (by
   refine list_any (stpN s) _ 4 4 (by simp [stpN]) W2 (HTb.out _ HB2.out).tabs ?_ H64.out (by decide)
   have h := HL.out
   rw [hz2, ← hW2]
   exact h)
  have HLN : Hid ((listF (stpN s)).length ≤ 10000000) := Lib.hid (by
   unfold listF
   rw [if_neg (by simp [stpN])]
   refine join_len20 [44] rfl (fun y hy => ?_) (by simp [stpN])
   obtain ⟨z, hz, rfl⟩ := List.mem_map.1 hy
   have := itoa_len (H64.out z hz)
   omega)
  obtain ⟨L, hL⟩ : ∃ L, listF (stpN s) = L := ⟨_, rfl⟩
  rw [hL] at HS HC HLN
  have HRP : Hid (∀ w', Below w.heap.size w w' → Calls Tryz.prog 40 #[.string ⟨L.toArray⟩, .string ⟨#[44]⟩, .string ⟨#[58]⟩] w' fun e w'' => e = .returned (.string ⟨r.toArray⟩) ∧ Below w'.heap.size w' w'') := Lib.hid (fun w' h' => by
   obtain ⟨m, hm⟩ := (HTb.out _ h').max
   have hd : (⟨L.toArray⟩ : ByteArray).data.toList = L := by simp
   have hz : (⟨L.toArray⟩ : ByteArray).size = L.length := by simp [ByteArray.size]
   have hc := countB_le _ L hd
   have hln := HLN.out
   have h1 : (⟨#[58]⟩ : ByteArray).size = 1 := rfl
   have h := Tryz.strings_ReplaceAll ⟨L.toArray⟩ ⟨#[44]⟩ ⟨#[58]⟩ m w' (by rw [hz]; omega) hm (by decide) (by rw [hz, h1]; omega)
   rw [← HR.out, ← HS.out]
   exact h)
  have HW2 := Lib.hid hW2
  have n0 := (Blk.new (w.alloc (.cells #[.int .i64 s.place, .int .i64 s.opn, .int .i64 s.close, .int .i64 s.service] 41)) 41 [.int .i64 (-1), .int .i64 0, .int .i64 0, .int .i64 0])
  have n1 : Blk W1 (w.heap.size + 1) 41 [.int .i64 (-1), .int .i64 0, .int .i64 0, .int .i64 0] := by
   rw [← hW1]
   have e := n0
   rw [World.size_alloc] at e
   exact e
  have d0 := n1.cell (j := 0) rfl
  have d1 := n1.cell (j := 1) rfl
  have d2 := n1.cell (j := 2) rfl
  have d3 := n1.cell (j := 3) rfl
  clear hL b0 hB1 HL hW1 hW2 hz1 hz2 n0 n1
  obtain ⟨p, o, c, v⟩ := s
  dsimp only at c0 c1 c2 c3 h0 HW1 HW2 ⊢
  obtain ⟨m1, hm1⟩ : ∃ m : Int, m = -1 := ⟨_, rfl⟩
  obtain ⟨m2, hm2⟩ : ∃ m : Int, m = 0 := ⟨_, rfl⟩
  rw [← hm1] at d0
  rw [← hm2] at d1 d2 d3
  have hcs : p ≠ m1 ∨ (p = m1 ∧ o ≠ m2) ∨ (p = m1 ∧ o = m2 ∧ c ≠ m2) ∨ (p = m1 ∧ o = m2 ∧ c = m2 ∧ v ≠ m2) := by
   rw [← hm1, ← hm2] at h0
   by_cases e1 : p = m1
   ·by_cases e2 : o = m2
    ·by_cases e3 : c = m2
     ·exact .inr (.inr (.inr ⟨e1, e2, e3, fun e => h0 ⟨e1, e2, e3, e⟩⟩))
     ·exact .inr (.inr (.inl ⟨e1, e2, e3⟩))
    ·exact .inr (.inl ⟨e1, e2⟩)
   ·exact .inl e1
  clear hm1 hm2 h0
  rcases hcs with hq | ⟨rfl, hq⟩ | ⟨rfl, rfl, hq⟩ | ⟨rfl, rfl, rfl, hq⟩
  all_goals (
  have hqb := beq_eq_false_iff_ne.2 hq
  go_upto_region 2 with fail
  rw [HW1.out]
  clear HW1
  go_cut [7] (fun u wx => u = .bool false ∧ W1 = wx)
  case first =>
   go_wp2
   go_meet
   exact ⟨rfl, rfl⟩
  obtain ⟨hu, rfl⟩ := hcut
  subst hu
  clear hq hqb
  go_wp2_with (first
   | (rw [HW2.out]; go_at_call 21; refine HC.out.mono ?_; rintro e1 w1 ⟨rfl, b1⟩)
   | (go_at_call 40; refine (HRP.out _ (HB2.out.trans (b1.mono HB2.out.size))).mono ?_; rintro e2 w2 ⟨rfl, b2⟩))
  go_ret
  exact ⟨rfl, (HB2.out.trans (b1.mono HB2.out.size)).trans (b2.mono (HB2.out.trans (b1.mono HB2.out.size)).size)⟩)
end Go.Proofs.YthefooacfcagbaaGreatDoor.spc
