/- The law of Add, Sub, Most and Sum. -/
import Derived.Test.YtdmedphpddhjcaaLoadF
import Derived.Test.YtdmedphpddhjcaaLoadH
namespace Go.Proofs.Ytdmedphpddhjcaa.loads
open Go.RowKit
open Go.Proofs.Ytdmedphpddhjcaa.lib
set_option linter.unusedVariables false

/-- One of the two lists, or nil and an error: what the four calls hand back. -/
def zipR (op : Int → Int → Int) (a b : List Int) : Option (List Int) := if a.length = b.length then some (List.zipWith op a b) else none
theorem outE_F {w : World} {l : List Int} {n : Nat} {e : Ending} {w' : World} (hn : l.length = n) (h : OutE w l n 0 e w') : OutF w (some l) e w' := .inl ⟨l, rfl, by rw [hn]; exact h⟩
/-- A result as a list and an error. -/
def lst (r : Option (List Int)) : List Int := r.getD []
def err (r : Option (List Int)) : Int := if r.isSome = true then 0 else 2
def OutG (w : World) (r : Option (List Int)) (e : Ending) (w' : World) : Prop :=
  ∃ A c, e = .returned (.tuple #[.slice A (lst r).length c, .int .i64 (err r)]) ∧ Ints w' w'.heap.size A (lst r) ∧ Below w.heap.size w w'
theorem outF_G {w : World} {r : Option (List Int)} {e : Ending} {w' : World} (hl : (lst r).length ≤ 17592186043904) (h : OutF w r e w') : OutG w r e w' := by
  rcases h with ⟨l, rfl, A, c, rfl, hown, hb⟩ | ⟨rfl, rfl, hb⟩
  · exact ⟨A, c, rfl, Ints.of_own (c := c) hown hl, hb⟩
  · exact ⟨none, 0, rfl, Ints.nil, hb⟩
theorem foldR_len (op : Int → Int → Int) (ls : List (List Int)) (d : Int) : (lst (foldR op ls d)).length ≤ 17592186043904 := by
  unfold foldR
  split
  · rw [foldGo_eq]
    split
    · simp only [lst, Option.getD_some, colL_length, zeros, List.length_replicate]
      omega
    · simp [lst]
  · simp [lst]

theorem add_G (A : Option Addr) (c : Nat) (a : List Int) (A' : Option Addr) (c' : Nat) (b : List Int) (w : World) (B B' : Nat) (hB : B ≤ w.heap.size) (hB' : B' ≤ w.heap.size) (ha : Ints w B A a) (hb : Ints w B' A' b) (ia : InM 1073741824 a) (ib : InM 1073741824 b) :
    Calls Try.prog 13 #[.slice A a.length c, .slice A' b.length c'] w (OutG w (zipR (fun x y => x + y) a b)) := by
  by_cases h : a.length = b.length
  · have hl : (List.zipWith (fun x y => x + y) a b).length = a.length := by rw [List.length_zipWith]; omega
    have hz : zipR (fun x y => x + y) a b = some (List.zipWith (fun x y => x + y) a b) := by unfold zipR; rw [if_pos h]
    have h1 := add_eq A c a a.length rfl A' c' b h.symm w B B' hB hB' ha hb ia ib
    rw [← h, hz]
    exact h1.mono fun e w' h2 => outF_G (by simp only [lst, Option.getD_some]; rw [hl]; exact ha.len) (outE_F hl h2)
  · have hz : zipR (fun x y => x + y) a b = none := by unfold zipR; rw [if_neg h]
    rw [hz]
    exact (add_ne A c a.length A' c' b.length h w).mono fun e w' ⟨h2, h3⟩ => by subst h3; exact outF_G (by simp [lst]) (.inr ⟨rfl, h2, Below.refl _ _⟩)
theorem radd_G (A : Option Addr) (c : Nat) (a : List Int) (A' : Option Addr) (c' : Nat) (b : List Int) (w : World) (B B' : Nat) (hB : B ≤ w.heap.size) (hB' : B' ≤ w.heap.size) (ha : Ints w B A a) (hb : Ints w B' A' b) (ia : InM 1073741824 a) (ib : InM 1073741824 b) :
    Calls Try.prog 17 #[.slice A a.length c, .slice A' b.length c'] w (OutG w (zipR (fun x y => x + y) a b)) := by
  by_cases h : a.length = b.length
  · have hl : (List.zipWith (fun x y => x + y) a b).length = a.length := by rw [List.length_zipWith]; omega
    have hz : zipR (fun x y => x + y) a b = some (List.zipWith (fun x y => x + y) a b) := by unfold zipR; rw [if_pos h]
    have h1 := radd_eq A c a a.length rfl A' c' b h.symm w B B' hB hB' ha hb ia ib
    rw [← h, hz]
    exact h1.mono fun e w' h2 => outF_G (by simp only [lst, Option.getD_some]; rw [hl]; exact ha.len) (outE_F hl h2)
  · have hz : zipR (fun x y => x + y) a b = none := by unfold zipR; rw [if_neg h]
    rw [hz]
    exact (radd_ne A c a.length A' c' b.length h w).mono fun e w' ⟨h2, h3⟩ => by subst h3; exact outF_G (by simp [lst]) (.inr ⟨rfl, h2, Below.refl _ _⟩)

theorem sub_G (A : Option Addr) (c : Nat) (a : List Int) (A' : Option Addr) (c' : Nat) (b : List Int) (w : World) (B B' : Nat) (hB : B ≤ w.heap.size) (hB' : B' ≤ w.heap.size) (ha : Ints w B A a) (hb : Ints w B' A' b) (ia : InM 1073741824 a) (ib : InM 1073741824 b) :
    Calls Try.prog 14 #[.slice A a.length c, .slice A' b.length c'] w (OutG w (zipR (fun x y => x - y) a b)) := by
  by_cases h : a.length = b.length
  · have hl : (List.zipWith (fun x y => x - y) a b).length = a.length := by rw [List.length_zipWith]; omega
    have hz : zipR (fun x y => x - y) a b = some (List.zipWith (fun x y => x - y) a b) := by unfold zipR; rw [if_pos h]
    have h1 := sub_eq A c a a.length rfl A' c' b h.symm w B B' hB hB' ha hb ia ib
    rw [← h, hz]
    exact h1.mono fun e w' h2 => outF_G (by simp only [lst, Option.getD_some]; rw [hl]; exact ha.len) (outE_F hl h2)
  · have hz : zipR (fun x y => x - y) a b = none := by unfold zipR; rw [if_neg h]
    rw [hz]
    exact (sub_ne A c a.length A' c' b.length h w).mono fun e w' ⟨h2, h3⟩ => by subst h3; exact outF_G (by simp [lst]) (.inr ⟨rfl, h2, Below.refl _ _⟩)
theorem rsub_G (A : Option Addr) (c : Nat) (a : List Int) (A' : Option Addr) (c' : Nat) (b : List Int) (w : World) (B B' : Nat) (hB : B ≤ w.heap.size) (hB' : B' ≤ w.heap.size) (ha : Ints w B A a) (hb : Ints w B' A' b) (ia : InM 1073741824 a) (ib : InM 1073741824 b) :
    Calls Try.prog 18 #[.slice A a.length c, .slice A' b.length c'] w (OutG w (zipR (fun x y => x - y) a b)) := by
  by_cases h : a.length = b.length
  · have hl : (List.zipWith (fun x y => x - y) a b).length = a.length := by rw [List.length_zipWith]; omega
    have hz : zipR (fun x y => x - y) a b = some (List.zipWith (fun x y => x - y) a b) := by unfold zipR; rw [if_pos h]
    have h1 := rsub_eq A c a a.length rfl A' c' b h.symm w B B' hB hB' ha hb ia ib
    rw [← h, hz]
    exact h1.mono fun e w' h2 => outF_G (by simp only [lst, Option.getD_some]; rw [hl]; exact ha.len) (outE_F hl h2)
  · have hz : zipR (fun x y => x - y) a b = none := by unfold zipR; rw [if_neg h]
    rw [hz]
    exact (rsub_ne A c a.length A' c' b.length h w).mono fun e w' ⟨h2, h3⟩ => by subst h3; exact outF_G (by simp [lst]) (.inr ⟨rfl, h2, Below.refl _ _⟩)

theorem allB_t {ls : List (List Int)} {m : Int} (h : allB ls m = true) : ls.length ≤ 20 ∧ ∀ l, l ∈ ls → InM m l := by
  unfold allB at h
  rw [Bool.and_eq_true, decide_eq_true_eq, List.all_eq_true] at h
  exact ⟨h.1, fun l hl => within_t (h.2 l hl)⟩

theorem sameB_r (l : List Int) : sameB l l = true := by unfold sameB; rw [decide_eq_true rfl]
set_option maxHeartbeats 2000000 in
theorem law_add_ok (A : Option Addr) (c1 : Nat) (a : List Int) (A' : Option Addr) (c2 : Nat) (b : List Int) (A'' : Option Addr) (c3 : Nat) (ls : List (List Int)) (d : Int) (w : World)
    (ha : Ints w w.heap.size A a) (hb : Ints w w.heap.size A' b) (hr : Rows2 w w.heap.size A'' ls) (ia : withinB a 1073741824 = true) (ib : withinB b 1073741824 = true) (ic : allB ls 1073741824 = true) :
    Calls Try.prog 5 #[.slice A a.length c1, .slice A' b.length c2, .slice A'' ls.length c3, .int .i64 d] w fun e w' => e = .returned (.bool true) ∧ Below w.heap.size w w' := by
  have WA := Lib.hid (within_any A c1 a 1073741824 (by omega) (by omega) w _ ha)
  have WB := Lib.hid (within_any A' c2 b 1073741824 (by omega) (by omega) w _ hb)
  have WC := Lib.hid (allL_any A'' c3 ls 1073741824 (by omega) (by omega) w _ hr)
  rw [ia] at WA
  rw [ib] at WB
  rw [ic] at WC
  have i1 := Lib.hid (within_t ia)
  have i2 := Lib.hid (within_t ib)
  have i3 := Lib.hid (allB_t ic)
  have H1 := Lib.hid (rfl : zipR (fun x y => x + y) a b = zipR (fun x y => x + y) a b)
  clear ia ib ic H1
  go_enter Try.func5, Try.ntmps5
  go_wp2_with fail
  refine WA.out.mono ?_
  rintro e w' ⟨rfl, rfl⟩
  go_wp2_with fail
  refine WB.out.mono ?_
  rintro e w' ⟨rfl, rfl⟩
  go_wp2_with fail
  refine WC.out.mono ?_
  rintro e w' ⟨rfl, rfl⟩
  go_wp2_with fail
  refine (add_G A c1 a A' c2 b _ _ _ (by omega) (by omega) ha hb i1.out i2.out).mono ?_
  rintro e w1 ⟨Ac, cc, rfl, hc, belc⟩
  have sc := belc.size
  replace ha := ha.below (belc.mono (show w.heap.size ≤ w.heap.size by omega))
  replace hb := hb.below (belc.mono (show w.heap.size ≤ w.heap.size by omega))
  replace hr := hr.below (belc.mono (show w.heap.size ≤ w.heap.size by omega))
  go_wp2_with fail
  refine (radd_G A c1 a A' c2 b _ _ _ (by omega) (by omega) ha hb i1.out i2.out).mono ?_
  rintro e w2 ⟨Ad, cd, rfl, hd, beld⟩
  have sd := beld.size
  replace ha := ha.below (beld.mono (show w.heap.size ≤ w1.heap.size by omega))
  replace hb := hb.below (beld.mono (show w.heap.size ≤ w1.heap.size by omega))
  replace hr := hr.below (beld.mono (show w.heap.size ≤ w1.heap.size by omega))
  replace hc := hc.below (beld.mono (show w1.heap.size ≤ w1.heap.size by omega))
  go_wp2_with fail
  refine (sub_G A c1 a A' c2 b _ _ _ (by omega) (by omega) ha hb i1.out i2.out).mono ?_
  rintro e w3 ⟨Ag, cg, rfl, hg, belg⟩
  have sg := belg.size
  replace ha := ha.below (belg.mono (show w.heap.size ≤ w2.heap.size by omega))
  replace hb := hb.below (belg.mono (show w.heap.size ≤ w2.heap.size by omega))
  replace hr := hr.below (belg.mono (show w.heap.size ≤ w2.heap.size by omega))
  replace hc := hc.below (belg.mono (show w1.heap.size ≤ w2.heap.size by omega))
  replace hd := hd.below (belg.mono (show w2.heap.size ≤ w2.heap.size by omega))
  go_wp2_with fail
  refine (rsub_G A c1 a A' c2 b _ _ _ (by omega) (by omega) ha hb i1.out i2.out).mono ?_
  rintro e w4 ⟨Ai, ci, rfl, hi, beli⟩
  have si := beli.size
  replace ha := ha.below (beli.mono (show w.heap.size ≤ w3.heap.size by omega))
  replace hb := hb.below (beli.mono (show w.heap.size ≤ w3.heap.size by omega))
  replace hr := hr.below (beli.mono (show w.heap.size ≤ w3.heap.size by omega))
  replace hc := hc.below (beli.mono (show w1.heap.size ≤ w3.heap.size by omega))
  replace hd := hd.below (beli.mono (show w2.heap.size ≤ w3.heap.size by omega))
  replace hg := hg.below (beli.mono (show w3.heap.size ≤ w3.heap.size by omega))
  go_wp2_with fail
  refine ((wmost_any A'' c3 ls d i3.out.1 _ _ (by omega) hr i3.out.2).mono fun _ _ h => outF_G (foldR_len _ _ _) h).mono ?_
  rintro e w5 ⟨Ak, ck, rfl, hk, belk⟩
  have sk := belk.size
  replace ha := ha.below (belk.mono (show w.heap.size ≤ w4.heap.size by omega))
  replace hb := hb.below (belk.mono (show w.heap.size ≤ w4.heap.size by omega))
  replace hr := hr.below (belk.mono (show w.heap.size ≤ w4.heap.size by omega))
  replace hc := hc.below (belk.mono (show w1.heap.size ≤ w4.heap.size by omega))
  replace hd := hd.below (belk.mono (show w2.heap.size ≤ w4.heap.size by omega))
  replace hg := hg.below (belk.mono (show w3.heap.size ≤ w4.heap.size by omega))
  replace hi := hi.below (belk.mono (show w4.heap.size ≤ w4.heap.size by omega))
  go_wp2_with fail
  refine ((rmost_any A'' c3 ls d i3.out.1 _ _ (by omega) hr i3.out.2).mono fun _ _ h => outF_G (foldR_len _ _ _) h).mono ?_
  rintro e w6 ⟨An, cn, rfl, hn, beln⟩
  have sn := beln.size
  replace ha := ha.below (beln.mono (show w.heap.size ≤ w5.heap.size by omega))
  replace hb := hb.below (beln.mono (show w.heap.size ≤ w5.heap.size by omega))
  replace hr := hr.below (beln.mono (show w.heap.size ≤ w5.heap.size by omega))
  replace hc := hc.below (beln.mono (show w1.heap.size ≤ w5.heap.size by omega))
  replace hd := hd.below (beln.mono (show w2.heap.size ≤ w5.heap.size by omega))
  replace hg := hg.below (beln.mono (show w3.heap.size ≤ w5.heap.size by omega))
  replace hi := hi.below (beln.mono (show w4.heap.size ≤ w5.heap.size by omega))
  replace hk := hk.below (beln.mono (show w5.heap.size ≤ w5.heap.size by omega))
  go_wp2_with fail
  refine ((wplus_any A'' c3 ls d i3.out.1 _ _ (by omega) hr i3.out.2).mono fun _ _ h => outF_G (foldR_len _ _ _) h).mono ?_
  rintro e w7 ⟨Ap, cp, rfl, hp, belp⟩
  have sp := belp.size
  replace ha := ha.below (belp.mono (show w.heap.size ≤ w6.heap.size by omega))
  replace hb := hb.below (belp.mono (show w.heap.size ≤ w6.heap.size by omega))
  replace hr := hr.below (belp.mono (show w.heap.size ≤ w6.heap.size by omega))
  replace hc := hc.below (belp.mono (show w1.heap.size ≤ w6.heap.size by omega))
  replace hd := hd.below (belp.mono (show w2.heap.size ≤ w6.heap.size by omega))
  replace hg := hg.below (belp.mono (show w3.heap.size ≤ w6.heap.size by omega))
  replace hi := hi.below (belp.mono (show w4.heap.size ≤ w6.heap.size by omega))
  replace hk := hk.below (belp.mono (show w5.heap.size ≤ w6.heap.size by omega))
  replace hn := hn.below (belp.mono (show w6.heap.size ≤ w6.heap.size by omega))
  go_wp2_with fail
  refine ((rplus_any A'' c3 ls d i3.out.1 _ _ (by omega) hr i3.out.2).mono fun _ _ h => outF_G (foldR_len _ _ _) h).mono ?_
  rintro e w8 ⟨Au, cu, rfl, hu, belu⟩
  have su := belu.size
  replace ha := ha.below (belu.mono (show w.heap.size ≤ w7.heap.size by omega))
  replace hb := hb.below (belu.mono (show w.heap.size ≤ w7.heap.size by omega))
  replace hr := hr.below (belu.mono (show w.heap.size ≤ w7.heap.size by omega))
  replace hc := hc.below (belu.mono (show w1.heap.size ≤ w7.heap.size by omega))
  replace hd := hd.below (belu.mono (show w2.heap.size ≤ w7.heap.size by omega))
  replace hg := hg.below (belu.mono (show w3.heap.size ≤ w7.heap.size by omega))
  replace hi := hi.below (belu.mono (show w4.heap.size ≤ w7.heap.size by omega))
  replace hk := hk.below (belu.mono (show w5.heap.size ≤ w7.heap.size by omega))
  replace hn := hn.below (belu.mono (show w6.heap.size ≤ w7.heap.size by omega))
  replace hp := hp.below (belu.mono (show w7.heap.size ≤ w7.heap.size by omega))
  generalize zipR (fun x y => x + y) a b = Z1 at *
  generalize zipR (fun x y => x - y) a b = Z2 at *
  generalize foldR (fun x y => max x y) ls d = Z3 at *
  generalize foldR (fun x y => x + y) ls d = Z4 at *
  go_wp2_with fail
  refine (lsame_any Ac cc (lst Z1) _ rfl Ad cd (lst Z1) _ rfl _ _ _ (by omega) (by omega) hc hd).mono ?_
  rintro e w9 ⟨rfl, bels9⟩
  rw [sameB_r]
  have ss9 := bels9.size
  replace ha := ha.below (bels9.mono (show w.heap.size ≤ w8.heap.size by omega))
  replace hb := hb.below (bels9.mono (show w.heap.size ≤ w8.heap.size by omega))
  replace hr := hr.below (bels9.mono (show w.heap.size ≤ w8.heap.size by omega))
  replace hc := hc.below (bels9.mono (show w1.heap.size ≤ w8.heap.size by omega))
  replace hd := hd.below (bels9.mono (show w2.heap.size ≤ w8.heap.size by omega))
  replace hg := hg.below (bels9.mono (show w3.heap.size ≤ w8.heap.size by omega))
  replace hi := hi.below (bels9.mono (show w4.heap.size ≤ w8.heap.size by omega))
  replace hk := hk.below (bels9.mono (show w5.heap.size ≤ w8.heap.size by omega))
  replace hn := hn.below (bels9.mono (show w6.heap.size ≤ w8.heap.size by omega))
  replace hp := hp.below (bels9.mono (show w7.heap.size ≤ w8.heap.size by omega))
  replace hu := hu.below (bels9.mono (show w8.heap.size ≤ w8.heap.size by omega))
  go_wp2_with fail
  refine (lsame_any Ag cg (lst Z2) _ rfl Ai ci (lst Z2) _ rfl _ _ _ (by omega) (by omega) hg hi).mono ?_
  rintro e w10 ⟨rfl, bels10⟩
  rw [sameB_r]
  have ss10 := bels10.size
  replace ha := ha.below (bels10.mono (show w.heap.size ≤ w9.heap.size by omega))
  replace hb := hb.below (bels10.mono (show w.heap.size ≤ w9.heap.size by omega))
  replace hr := hr.below (bels10.mono (show w.heap.size ≤ w9.heap.size by omega))
  replace hc := hc.below (bels10.mono (show w1.heap.size ≤ w9.heap.size by omega))
  replace hd := hd.below (bels10.mono (show w2.heap.size ≤ w9.heap.size by omega))
  replace hg := hg.below (bels10.mono (show w3.heap.size ≤ w9.heap.size by omega))
  replace hi := hi.below (bels10.mono (show w4.heap.size ≤ w9.heap.size by omega))
  replace hk := hk.below (bels10.mono (show w5.heap.size ≤ w9.heap.size by omega))
  replace hn := hn.below (bels10.mono (show w6.heap.size ≤ w9.heap.size by omega))
  replace hp := hp.below (bels10.mono (show w7.heap.size ≤ w9.heap.size by omega))
  replace hu := hu.below (bels10.mono (show w8.heap.size ≤ w9.heap.size by omega))
  go_wp2_with fail
  refine (lsame_any Ak ck (lst Z3) _ rfl An cn (lst Z3) _ rfl _ _ _ (by omega) (by omega) hk hn).mono ?_
  rintro e w11 ⟨rfl, bels11⟩
  rw [sameB_r]
  have ss11 := bels11.size
  replace ha := ha.below (bels11.mono (show w.heap.size ≤ w10.heap.size by omega))
  replace hb := hb.below (bels11.mono (show w.heap.size ≤ w10.heap.size by omega))
  replace hr := hr.below (bels11.mono (show w.heap.size ≤ w10.heap.size by omega))
  replace hc := hc.below (bels11.mono (show w1.heap.size ≤ w10.heap.size by omega))
  replace hd := hd.below (bels11.mono (show w2.heap.size ≤ w10.heap.size by omega))
  replace hg := hg.below (bels11.mono (show w3.heap.size ≤ w10.heap.size by omega))
  replace hi := hi.below (bels11.mono (show w4.heap.size ≤ w10.heap.size by omega))
  replace hk := hk.below (bels11.mono (show w5.heap.size ≤ w10.heap.size by omega))
  replace hn := hn.below (bels11.mono (show w6.heap.size ≤ w10.heap.size by omega))
  replace hp := hp.below (bels11.mono (show w7.heap.size ≤ w10.heap.size by omega))
  replace hu := hu.below (bels11.mono (show w8.heap.size ≤ w10.heap.size by omega))
  go_wp2_with fail
  refine (lsame_any Ap cp (lst Z4) _ rfl Au cu (lst Z4) _ rfl _ _ _ (by omega) (by omega) hp hu).mono ?_
  rintro e w12 ⟨rfl, bels12⟩
  rw [sameB_r]
  have ss12 := bels12.size
  replace ha := ha.below (bels12.mono (show w.heap.size ≤ w11.heap.size by omega))
  replace hb := hb.below (bels12.mono (show w.heap.size ≤ w11.heap.size by omega))
  replace hr := hr.below (bels12.mono (show w.heap.size ≤ w11.heap.size by omega))
  replace hc := hc.below (bels12.mono (show w1.heap.size ≤ w11.heap.size by omega))
  replace hd := hd.below (bels12.mono (show w2.heap.size ≤ w11.heap.size by omega))
  replace hg := hg.below (bels12.mono (show w3.heap.size ≤ w11.heap.size by omega))
  replace hi := hi.below (bels12.mono (show w4.heap.size ≤ w11.heap.size by omega))
  replace hk := hk.below (bels12.mono (show w5.heap.size ≤ w11.heap.size by omega))
  replace hn := hn.below (bels12.mono (show w6.heap.size ≤ w11.heap.size by omega))
  replace hp := hp.below (bels12.mono (show w7.heap.size ≤ w11.heap.size by omega))
  replace hu := hu.below (bels12.mono (show w8.heap.size ≤ w11.heap.size by omega))
  go_wp2_with fail
  refine (examples_any _).mono ?_
  rintro e w20 ⟨rfl, belE⟩
  go_wp2
  go_ret
  refine ⟨rfl, ?_⟩
  exact (((((((((((belc.trans (beld.mono (by omega))).trans (belg.mono (by omega))).trans (beli.mono (by omega))).trans (belk.mono (by omega))).trans (beln.mono (by omega))).trans (belp.mono (by omega))).trans (belu.mono (by omega))).trans (bels9.mono (by omega))).trans (bels10.mono (by omega))).trans (bels11.mono (by omega))).trans (bels12.mono (by omega))).trans (belE.mono (by omega))

theorem law_add (A : Option Addr) (c1 : Nat) (a : List Int) (A' : Option Addr) (c2 : Nat) (b : List Int) (A'' : Option Addr) (c3 : Nat) (ls : List (List Int)) (d : Int) (w : World)
    (ha : Ints w w.heap.size A a) (hb : Ints w w.heap.size A' b) (hr : Rows2 w w.heap.size A'' ls) :
    Calls Try.prog 5 #[.slice A a.length c1, .slice A' b.length c2, .slice A'' ls.length c3, .int .i64 d] w fun e w' => e = .returned (.bool true) ∧ Below w.heap.size w w' := by
  have WA := Lib.hid (within_any A c1 a 1073741824 (by omega) (by omega) w _ ha)
  have WB := Lib.hid (within_any A' c2 b 1073741824 (by omega) (by omega) w _ hb)
  have WC := Lib.hid (allL_any A'' c3 ls 1073741824 (by omega) (by omega) w _ hr)
  cases ia : withinB a 1073741824
  · rw [ia] at WA
    go_enter Try.func5, Try.ntmps5
    go_wp2_with fail
    refine WA.out.mono ?_
    rintro e w' ⟨rfl, rfl⟩
    go_wp2_with (go_at_call 10; refine (examples_any _).mono ?_; rintro e w2 ⟨rfl, hb2⟩)
    go_ret
    exact ⟨rfl, hb2⟩
  cases ib : withinB b 1073741824
  · rw [ia] at WA
    rw [ib] at WB
    go_enter Try.func5, Try.ntmps5
    go_wp2_with fail
    refine WA.out.mono ?_
    rintro e w' ⟨rfl, rfl⟩
    go_wp2_with fail
    refine WB.out.mono ?_
    rintro e w' ⟨rfl, rfl⟩
    go_wp2_with (go_at_call 10; refine (examples_any _).mono ?_; rintro e w2 ⟨rfl, hb2⟩)
    go_ret
    exact ⟨rfl, hb2⟩
  cases ic : allB ls 1073741824
  · rw [ia] at WA
    rw [ib] at WB
    rw [ic] at WC
    go_enter Try.func5, Try.ntmps5
    go_wp2_with fail
    refine WA.out.mono ?_
    rintro e w' ⟨rfl, rfl⟩
    go_wp2_with fail
    refine WB.out.mono ?_
    rintro e w' ⟨rfl, rfl⟩
    go_wp2_with fail
    refine WC.out.mono ?_
    rintro e w' ⟨rfl, rfl⟩
    go_wp2_with (go_at_call 10; refine (examples_any _).mono ?_; rintro e w2 ⟨rfl, hb2⟩)
    go_ret
    exact ⟨rfl, hb2⟩
  · exact law_add_ok A c1 a A' c2 b A'' c3 ls d w ha hb hr ia ib ic
end Go.Proofs.Ytdmedphpddhjcaa.loads
