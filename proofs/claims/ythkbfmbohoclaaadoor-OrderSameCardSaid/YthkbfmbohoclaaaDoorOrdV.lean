/- The visits of an order, and the stop of a visit. -/
import Derived.Test.YthkbfmbohoclaaaDoorOrdB
import Derived.Test.YthkbfmbohoclaaaDoorApp
import Derived.Test.YthkbfmbohoclaaaDoorOwnR
namespace Go.Proofs.YthkbfmbohoclaaaDoor.ord
open Go.RowKit
open Go.Proofs.YthkbfmbohoclaaaDoor.lib Go.Proofs.YthkbfmbohoclaaaDoor.rd Go.Proofs.YthkbfmbohoclaaaDoor.typ Go.Proofs.YthkbfmbohoclaaaDoor.app
set_option linter.unusedVariables false
set_option linter.unusedSimpArgs false

theorem vis_elem : ElemOf 51 50 (.agg #[.int .i64 0, .bool false]) 2 16 := ⟨Tryd.underlying51, by kernel_rfl, rfl, by decide, by decide⟩
def vcs (vs : List Vis) : List Value := vs.flatMap fun v => [.int .i64 v.order, .bool v.drop]
def visO (o : Ord) (i : Int) : List Vis := (if o.pick.place < 0 then [] else [⟨i, false⟩]) ++ (if o.drop.place < 0 then [] else [⟨i, true⟩])
def visL (l : List Ord) (i : Int) : List Vis := if 0 ≤ i then (match l[i.toNat]? with | some o => visO o i | none => []) else []
theorem visL_no {l : List Ord} {i : Int} (h : i < 0 ∨ l.length ≤ i) : visL l i = [] := by
  unfold visL
  split
  · rw [List.getElem?_eq_none (by omega)]
  · rfl
theorem visL_yes {l : List Ord} {i : Nat} {o : Ord} (h : l[i]? = some o) : visL l i = visO o i := by
  unfold visL
  rw [if_pos (by omega), Int.toNat_natCast, h]
def VisOut (w : World) (vs : List Vis) (e : Ending) (w' : World) : Prop := ∃ A c, e = .returned (.slice A vs.length c) ∧ w'.ownsRow w.heap.size 50 2 (.slice A vs.length c) vs.length (vcs vs) ∧ Below w.heap.size w w'
theorem VisOut.nil {w : World} : VisOut w [] (.returned (.slice none 0 0)) w := ⟨none, 0, rfl, World.ownsRow_nil _ _ _ _, Below.refl _ _⟩

set_option maxHeartbeats 1000000 in
theorem visits_any (A : Option Addr) (c : Nat) (l : List Ord) (i : Int) (w : World) (hL : RowAt rOrd w w.heap.size A l) :
    Calls Tryd.prog 29 #[.slice A l.length c, .int .i64 i] w (VisOut w (visL l i)) := by
  have hlen := hL.len
  obtain ⟨n, hn⟩ : ∃ n, l.length = n := ⟨_, rfl⟩
  by_cases hin : i < 0 ∨ l.length ≤ i
  · have HV := Lib.hid (visL_no hin)
    rw [hn] at hlen hin ⊢
    clear hn
    have hq : (decide ((0 : Int) ≤ i) && decide (i < (n : Int))) = false := by rcases hin with h | h <;> simp <;> omega
    have hq' : (decide ((0 : Int) ≤ i) && decide (i ≤ (n : Int) - 1)) = false := by rcases hin with h | h <;> simp <;> omega
    clear hin
    go_enter Tryd.func29, Tryd.ntmps29
    go_wp2_with (go_at_call 46; refine (there_any _ _ _ _ hlen _).mono ?_; rw [hq]; rintro e we ⟨rfl, rfl⟩)
    go_ret
    rw [HV.out]
    exact VisOut.nil
  · obtain ⟨k, rfl⟩ := Int.eq_ofNat_of_zero_le (show 0 ≤ i by omega)
    have hkl : k < l.length := by omega
    obtain ⟨o, ho⟩ : ∃ o, l[k]? = some o := ⟨_, List.getElem?_eq_getElem hkl⟩
    have HV := Lib.hid (visL_yes ho)
    obtain ⟨ad, C0, c0, rfl, hadb, ⟨m0, m1, m2, m3, m4, m5, m6, m7, m8, m9, m10, m11, m12, m13, m14, m15⟩, hI, hf⟩ := row_Ord hL ho
    rw [hn] at hlen hkl ⊢
    have hb0 : (ad.add (k * 16)).block < w.heap.size := by rw [block_of_add]; exact hadb
    have hk0 : (0 : Int) ≤ (k : Int) := by omega
    have hkn : (k : Int) < (n : Int) := by omega
    clear hin hn ho m3 m4 m5 m7 m8 m9 m10 m11 m12 m13 m14 m15 hf hI hL
    have hq : (decide ((0 : Int) ≤ (k : Int)) && decide ((k : Int) < (n : Int))) = true := by simp; omega
    have hq' : (decide ((0 : Int) ≤ (k : Int)) && decide ((k : Int) ≤ (n : Int) - 1)) = true := by simp; omega
    by_cases hp : o.pick.place < 0
    · by_cases hd : o.drop.place < 0
      · have HE : Hid (visO o k = []) := Lib.hid (by unfold visO; rw [if_pos hp, if_pos hd]; rfl)
        go_enter Tryd.func29, Tryd.ntmps29
        go_wp2_with (go_at_call 46; refine (there_any _ _ _ _ hlen _).mono ?_; rw [hq]; rintro e we ⟨rfl, rfl⟩)
        go_ret
        rw [HV.out, HE.out]
        exact VisOut.nil
      · have HE : Hid (visO o k = [⟨k, true⟩]) := Lib.hid (by unfold visO; rw [if_pos hp, if_neg hd]; rfl)
        go_enter Tryd.func29, Tryd.ntmps29
        go_wp2_with (first | (go_at_call 46; refine (there_any _ _ _ _ hlen _).mono ?_; rw [hq]; rintro e we ⟨rfl, rfl⟩) | (at_builtin; refine wpList_app vis_elem _ _ rfl w.heap.size none 0 0 [] rfl (World.ownsRow.alloc (World.ownsRow_nil _ _ _ _) _) ⟨w.heap.size, 0, none⟩ 1 [.int .i64 (k : Int), .bool true] rfl rfl (two_new _ _ _ _) (by simp [Value.oneCell']) (by omega) (by simp <;> omega) rfl ?_; intro g1 c1 w1 hownw1 hgw1 hdw1))
        go_ret
        rw [HV.out, HE.out]
        exact ⟨_, _, rfl, hownw1, ((Below.refl _ _).alloc (Nat.le_refl _) _).grown hgw1 (by simp) (fun q e => by cases e)⟩
    · by_cases hd : o.drop.place < 0
      · have HE : Hid (visO o k = [⟨k, false⟩]) := Lib.hid (by unfold visO; rw [if_neg hp, if_pos hd]; rfl)
        go_enter Tryd.func29, Tryd.ntmps29
        go_wp2_with (first | (go_at_call 46; refine (there_any _ _ _ _ hlen _).mono ?_; rw [hq]; rintro e we ⟨rfl, rfl⟩) | ((at_builtin; refine wpList_app vis_elem _ _ rfl w.heap.size none 0 0 [] rfl (World.ownsRow.alloc (World.ownsRow_nil _ _ _ _) _) ⟨w.heap.size, 0, none⟩ 1 [.int .i64 (k : Int), .bool false] rfl rfl (two_new _ _ _ _) (by simp [Value.oneCell']) (by omega) (by simp <;> omega) rfl ?_; intro g1 c1 w1 hownw1 hgw1 hdw1); have b1 : Below w.heap.size w w1 := ((Below.refl _ _).alloc (Nat.le_refl _) _).grown hgw1 (by simp) (fun q e => by cases e); have m6' := (b1.cell (p := ⟨(ad.add (k * 16)).block, (ad.add (k * 16)).off + 6, none⟩) hb0).trans m6))
        go_ret
        rw [HV.out, HE.out]
        exact ⟨_, _, rfl, hownw1, b1⟩
      · have HE : Hid (visO o k = [⟨k, false⟩, ⟨k, true⟩]) := Lib.hid (by unfold visO; rw [if_neg hp, if_neg hd]; rfl)
        go_enter Tryd.func29, Tryd.ntmps29
        go_wp2_with (first | (go_at_call 46; refine (there_any _ _ _ _ hlen _).mono ?_; rw [hq]; rintro e we ⟨rfl, rfl⟩) | ((at_builtin; refine wpList_app vis_elem _ _ rfl w.heap.size none 0 0 [] rfl (World.ownsRow.alloc (World.ownsRow_nil _ _ _ _) _) ⟨w.heap.size, 0, none⟩ 1 [.int .i64 (k : Int), .bool false] rfl rfl (two_new _ _ _ _) (by simp [Value.oneCell']) (by omega) (by simp <;> omega) rfl ?_; intro g1 c1 w1 hownw1 hgw1 hdw1); have b1 : Below w.heap.size w w1 := ((Below.refl _ _).alloc (Nat.le_refl _) _).grown hgw1 (by simp) (fun q e => by cases e); have m6' := (b1.cell (p := ⟨(ad.add (k * 16)).block, (ad.add (k * 16)).off + 6, none⟩) hb0).trans m6; have z1 := b1.size) | (at_builtin; refine wpList_app vis_elem _ _ rfl w.heap.size (some ⟨g1, 0, none⟩) 1 c1 [.int .i64 (k : Int), .bool false] rfl (World.ownsRow.alloc (hownw1) _) ⟨w1.heap.size, 0, none⟩ 1 [.int .i64 (k : Int), .bool true] rfl rfl (two_new _ _ _ _) (by simp [Value.oneCell']) (by omega) (by simp <;> omega) rfl ?_; intro g2 c2 w2 hownw2 hgw2 hdw2))
        go_ret
        rw [HV.out, HE.out]
        exact ⟨_, _, rfl, hownw2, (b1.alloc z1 _).grown hgw2 (by simp; omega) (own_base hownw1)⟩
set_option maxHeartbeats 1000000 in
theorem rvisits_any (A : Option Addr) (c : Nat) (l : List Ord) (i : Int) (w : World) (hL : RowAt rOrd w w.heap.size A l) :
    Calls Tryd.prog 30 #[.slice A l.length c, .int .i64 i] w (VisOut w (visL l i)) := by
  have hlen := hL.len
  obtain ⟨n, hn⟩ : ∃ n, l.length = n := ⟨_, rfl⟩
  by_cases hin : i < 0 ∨ l.length ≤ i
  · have HV := Lib.hid (visL_no hin)
    rw [hn] at hlen hin ⊢
    clear hn
    have hq : (decide ((0 : Int) ≤ i) && decide (i < (n : Int))) = false := by rcases hin with h | h <;> simp <;> omega
    have hq' : (decide ((0 : Int) ≤ i) && decide (i ≤ (n : Int) - 1)) = false := by rcases hin with h | h <;> simp <;> omega
    clear hin
    go_enter Tryd.func30, Tryd.ntmps30
    go_wp2_with (go_at_call 47; refine (in_any _ _ _ _).mono ?_; rw [hq']; rintro e we ⟨rfl, rfl⟩)
    go_ret
    rw [HV.out]
    exact VisOut.nil
  · obtain ⟨k, rfl⟩ := Int.eq_ofNat_of_zero_le (show 0 ≤ i by omega)
    have hkl : k < l.length := by omega
    obtain ⟨o, ho⟩ : ∃ o, l[k]? = some o := ⟨_, List.getElem?_eq_getElem hkl⟩
    have HV := Lib.hid (visL_yes ho)
    obtain ⟨ad, C0, c0, rfl, hadb, ⟨m0, m1, m2, m3, m4, m5, m6, m7, m8, m9, m10, m11, m12, m13, m14, m15⟩, hI, hf⟩ := row_Ord hL ho
    rw [hn] at hlen hkl ⊢
    have hb0 : (ad.add (k * 16)).block < w.heap.size := by rw [block_of_add]; exact hadb
    have hk0 : (0 : Int) ≤ (k : Int) := by omega
    have hkn : (k : Int) < (n : Int) := by omega
    clear hin hn ho m3 m4 m5 m7 m8 m9 m10 m11 m12 m13 m14 m15 hf hI hL
    have hq : (decide ((0 : Int) ≤ (k : Int)) && decide ((k : Int) < (n : Int))) = true := by simp; omega
    have hq' : (decide ((0 : Int) ≤ (k : Int)) && decide ((k : Int) ≤ (n : Int) - 1)) = true := by simp; omega
    by_cases hp : o.pick.place < 0
    · by_cases hd : o.drop.place < 0
      · have HE : Hid (visO o k = []) := Lib.hid (by unfold visO; rw [if_pos hp, if_pos hd]; rfl)
        go_enter Tryd.func30, Tryd.ntmps30
        go_wp2_with (go_at_call 47; refine (in_any _ _ _ _).mono ?_; rw [hq']; rintro e we ⟨rfl, rfl⟩)
        go_ret
        rw [HV.out, HE.out]
        exact VisOut.nil
      · have HE : Hid (visO o k = [⟨k, true⟩]) := Lib.hid (by unfold visO; rw [if_pos hp, if_neg hd]; rfl)
        go_enter Tryd.func30, Tryd.ntmps30
        go_wp2_with (first | (go_at_call 47; refine (in_any _ _ _ _).mono ?_; rw [hq']; rintro e we ⟨rfl, rfl⟩) | (at_builtin; refine wpList_app vis_elem _ _ rfl w.heap.size none 0 0 [] rfl (World.ownsRow.alloc (World.ownsRow_nil _ _ _ _) _) ⟨w.heap.size, 0, none⟩ 1 [.int .i64 (k : Int), .bool true] rfl rfl (two_new _ _ _ _) (by simp [Value.oneCell']) (by omega) (by simp <;> omega) rfl ?_; intro g1 c1 w1 hownw1 hgw1 hdw1))
        go_ret
        rw [HV.out, HE.out]
        exact ⟨_, _, rfl, hownw1, ((Below.refl _ _).alloc (Nat.le_refl _) _).grown hgw1 (by simp) (fun q e => by cases e)⟩
    · by_cases hd : o.drop.place < 0
      · have HE : Hid (visO o k = [⟨k, false⟩]) := Lib.hid (by unfold visO; rw [if_neg hp, if_pos hd]; rfl)
        go_enter Tryd.func30, Tryd.ntmps30
        go_wp2_with (first | (go_at_call 47; refine (in_any _ _ _ _).mono ?_; rw [hq']; rintro e we ⟨rfl, rfl⟩) | ((at_builtin; refine wpList_app vis_elem _ _ rfl w.heap.size none 0 0 [] rfl (World.ownsRow.alloc (World.ownsRow_nil _ _ _ _) _) ⟨w.heap.size, 0, none⟩ 1 [.int .i64 (k : Int), .bool false] rfl rfl (two_new _ _ _ _) (by simp [Value.oneCell']) (by omega) (by simp <;> omega) rfl ?_; intro g1 c1 w1 hownw1 hgw1 hdw1); have b1 : Below w.heap.size w w1 := ((Below.refl _ _).alloc (Nat.le_refl _) _).grown hgw1 (by simp) (fun q e => by cases e); have m6' := (b1.cell (p := ⟨(ad.add (k * 16)).block, (ad.add (k * 16)).off + 6, none⟩) hb0).trans m6))
        go_ret
        rw [HV.out, HE.out]
        exact ⟨_, _, rfl, hownw1, b1⟩
      · have HE : Hid (visO o k = [⟨k, false⟩, ⟨k, true⟩]) := Lib.hid (by unfold visO; rw [if_neg hp, if_neg hd]; rfl)
        go_enter Tryd.func30, Tryd.ntmps30
        go_wp2_with (first | (go_at_call 47; refine (in_any _ _ _ _).mono ?_; rw [hq']; rintro e we ⟨rfl, rfl⟩) | ((at_builtin; refine wpList_app vis_elem _ _ rfl w.heap.size none 0 0 [] rfl (World.ownsRow.alloc (World.ownsRow_nil _ _ _ _) _) ⟨w.heap.size, 0, none⟩ 1 [.int .i64 (k : Int), .bool false] rfl rfl (two_new _ _ _ _) (by simp [Value.oneCell']) (by omega) (by simp <;> omega) rfl ?_; intro g1 c1 w1 hownw1 hgw1 hdw1); have b1 : Below w.heap.size w w1 := ((Below.refl _ _).alloc (Nat.le_refl _) _).grown hgw1 (by simp) (fun q e => by cases e); have m6' := (b1.cell (p := ⟨(ad.add (k * 16)).block, (ad.add (k * 16)).off + 6, none⟩) hb0).trans m6; have z1 := b1.size) | (at_builtin; refine wpList_app vis_elem _ _ rfl w.heap.size (some ⟨g1, 0, none⟩) 1 c1 [.int .i64 (k : Int), .bool false] rfl (World.ownsRow.alloc (hownw1) _) ⟨w1.heap.size, 0, none⟩ 1 [.int .i64 (k : Int), .bool true] rfl rfl (two_new _ _ _ _) (by simp [Value.oneCell']) (by omega) (by simp <;> omega) rfl ?_; intro g2 c2 w2 hownw2 hgw2 hdw2))
        go_ret
        rw [HV.out, HE.out]
        exact ⟨_, _, rfl, hownw2, (b1.alloc z1 _).grown hgw2 (by simp; omega) (own_base hownw1)⟩

/-! The stop of a visit. -/
def zeroS : Stp := ⟨0, 0, 0, 0⟩
def stpV (s : Stp) : Value := .agg #[.int .i64 s.place, .int .i64 s.opn, .int .i64 s.close, .int .i64 s.service]
def stpO (s : Stp) : Stp × Int := if s.place < 0 then (zeroS, 19) else (s, 0)
def stpL (l : List Ord) (v : Vis) : Stp × Int := if 0 ≤ v.order then (match l[v.order.toNat]? with | some o => stpO (if v.drop then o.drop else o.pick) | none => (zeroS, 2)) else (zeroS, 2)
theorem stpL_no {l : List Ord} {v : Vis} (h : v.order < 0 ∨ l.length ≤ v.order) : stpL l v = (zeroS, 2) := by
  unfold stpL
  split
  · rw [List.getElem?_eq_none (by omega)]
  · rfl
theorem stpL_yes {l : List Ord} {i : Nat} {b : Bool} {o : Ord} (h : l[i]? = some o) : stpL l ⟨i, b⟩ = stpO (if b then o.drop else o.pick) := by
  unfold stpL
  rw [if_pos (by show (0 : Int) ≤ i; omega)]
  show (match l[(i : Int).toNat]? with | some o => _ | none => _) = _
  rw [Int.toNat_natCast, h]
def StpOut (w : World) (r : Stp × Int) (e : Ending) (w' : World) : Prop := e = .returned (.tuple #[stpV r.1, .int .i64 r.2]) ∧ Below w.heap.size w w'

set_option maxHeartbeats 1000000 in
theorem stop_any (A : Option Addr) (c : Nat) (l : List Ord) (i : Int) (b : Bool) (w : World) (hL : RowAt rOrd w w.heap.size A l) :
    Calls Tryd.prog 31 #[.slice A l.length c, .agg #[.int .i64 i, .bool b]] w (StpOut w (stpL l ⟨i, b⟩)) := by
  have hlen := hL.len
  obtain ⟨n, hn⟩ : ∃ n, l.length = n := ⟨_, rfl⟩
  by_cases hin : i < 0 ∨ l.length ≤ i
  · have HV := Lib.hid (stpL_no (v := ⟨i, b⟩) hin)
    rw [hn] at hlen hin ⊢
    clear hn
    have hq : (decide ((0 : Int) ≤ i) && decide (i < (n : Int))) = false := by rcases hin with h | h <;> simp <;> omega
    have hq' : (decide ((0 : Int) ≤ i) && decide (i ≤ (n : Int) - 1)) = false := by rcases hin with h | h <;> simp <;> omega
    clear hin
    go_enter Tryd.func31, Tryd.ntmps31
    go_wp2_with (go_at_call 46; refine (there_any _ _ _ _ hlen _).mono ?_; rw [hq]; rintro e we ⟨rfl, rfl⟩)
    refine bodyPost_ret (v := .tuple #[stpV zeroS, .int .i64 2]) (by simp [results, Tryd.results31, go_sem, stpV, zeroS]) rfl ?_
    rw [HV.out]
    exact ⟨rfl, by repeat (first | assumption | exact Below.refl _ _ | refine Below.drew ?_ | refine Below.alloc ?_ (by first | omega | (simp <;> omega)) _ | refine Below.setCell ?_ (by first | omega | (simp <;> omega)) _)⟩
  · obtain ⟨k, rfl⟩ := Int.eq_ofNat_of_zero_le (show 0 ≤ i by omega)
    have hkl : k < l.length := by omega
    obtain ⟨o, ho⟩ : ∃ o, l[k]? = some o := ⟨_, List.getElem?_eq_getElem hkl⟩
    have HV0 := Lib.hid (stpL_yes (b := false) ho)
    have HV1 := Lib.hid (stpL_yes (b := true) ho)
    have HV0' : Hid (stpL l ⟨(k : Int), false⟩ = stpO o.pick) := Lib.hid (by rw [HV0.out]; rfl)
    have HV1' : Hid (stpL l ⟨(k : Int), true⟩ = stpO o.drop) := Lib.hid (by rw [HV1.out]; rfl)
    clear HV0 HV1
    obtain ⟨ad, C0, c0, rfl, hadb, ⟨m0, m1, m2, m3, m4, m5, m6, m7, m8, m9, m10, m11, m12, m13, m14, m15⟩, hI, hf⟩ := row_Ord hL ho
    rw [hn] at hlen hkl ⊢
    have hb0 : (ad.add (k * 16)).block < w.heap.size := by rw [block_of_add]; exact hadb
    have hb1 : (ad.add (k * 16)).block < w.heap.size + 1 := by omega
    have hb2 : (ad.add (k * 16)).block < w.heap.size + 1 + 1 := by omega
    have hk0 : (0 : Int) ≤ (k : Int) := by omega
    have hkn : (k : Int) < (n : Int) := by omega
    clear hin hn ho m0 m1 m10 m11 m12 m13 m14 m15 hf hI hL
    have hq : (decide ((0 : Int) ≤ (k : Int)) && decide ((k : Int) < (n : Int))) = true := by simp; omega
    have hq' : (decide ((0 : Int) ≤ (k : Int)) && decide ((k : Int) ≤ (n : Int) - 1)) = true := by simp; omega
    cases b
    · by_cases hp : o.pick.place < 0
      · have HE : Hid (stpO o.pick = (zeroS, 19)) := Lib.hid (by unfold stpO; rw [if_pos hp])
        go_enter Tryd.func31, Tryd.ntmps31
        go_wp2_with (go_at_call 46; refine (there_any _ _ _ _ hlen _).mono ?_; rw [hq]; rintro e we ⟨rfl, rfl⟩)
        refine bodyPost_ret (v := .tuple #[stpV zeroS, .int .i64 19]) (by simp [results, Tryd.results31, go_sem, stpV, zeroS]) rfl ?_
        rw [HV0'.out, HE.out]
        exact ⟨rfl, by repeat (first | assumption | exact Below.refl _ _ | refine Below.drew ?_ | refine Below.alloc ?_ (by first | omega | (simp <;> omega)) _ | refine Below.setCell ?_ (by first | omega | (simp <;> omega)) _)⟩
      · have HE : Hid (stpO o.pick = (o.pick, 0)) := Lib.hid (by unfold stpO; rw [if_neg hp])
        go_enter Tryd.func31, Tryd.ntmps31
        go_wp2_with (go_at_call 46; refine (there_any _ _ _ _ hlen _).mono ?_; rw [hq]; rintro e we ⟨rfl, rfl⟩)
        refine bodyPost_ret (v := .tuple #[stpV o.pick, .int .i64 0]) (by simp [results, Tryd.results31, go_sem, stpV, zeroS]) rfl ?_
        rw [HV0'.out, HE.out]
        exact ⟨rfl, by repeat (first | assumption | exact Below.refl _ _ | refine Below.drew ?_ | refine Below.alloc ?_ (by first | omega | (simp <;> omega)) _ | refine Below.setCell ?_ (by first | omega | (simp <;> omega)) _)⟩
    · by_cases hp : o.drop.place < 0
      · have HE : Hid (stpO o.drop = (zeroS, 19)) := Lib.hid (by unfold stpO; rw [if_pos hp])
        go_enter Tryd.func31, Tryd.ntmps31
        go_wp2_with (go_at_call 46; refine (there_any _ _ _ _ hlen _).mono ?_; rw [hq]; rintro e we ⟨rfl, rfl⟩)
        refine bodyPost_ret (v := .tuple #[stpV zeroS, .int .i64 19]) (by simp [results, Tryd.results31, go_sem, stpV, zeroS]) rfl ?_
        rw [HV1'.out, HE.out]
        exact ⟨rfl, by repeat (first | assumption | exact Below.refl _ _ | refine Below.drew ?_ | refine Below.alloc ?_ (by first | omega | (simp <;> omega)) _ | refine Below.setCell ?_ (by first | omega | (simp <;> omega)) _)⟩
      · have HE : Hid (stpO o.drop = (o.drop, 0)) := Lib.hid (by unfold stpO; rw [if_neg hp])
        go_enter Tryd.func31, Tryd.ntmps31
        go_wp2_with (go_at_call 46; refine (there_any _ _ _ _ hlen _).mono ?_; rw [hq]; rintro e we ⟨rfl, rfl⟩)
        refine bodyPost_ret (v := .tuple #[stpV o.drop, .int .i64 0]) (by simp [results, Tryd.results31, go_sem, stpV, zeroS]) rfl ?_
        rw [HV1'.out, HE.out]
        exact ⟨rfl, by repeat (first | assumption | exact Below.refl _ _ | refine Below.drew ?_ | refine Below.alloc ?_ (by first | omega | (simp <;> omega)) _ | refine Below.setCell ?_ (by first | omega | (simp <;> omega)) _)⟩
set_option maxHeartbeats 1000000 in
theorem rstop_any (A : Option Addr) (c : Nat) (l : List Ord) (i : Int) (b : Bool) (w : World) (hL : RowAt rOrd w w.heap.size A l) :
    Calls Tryd.prog 32 #[.slice A l.length c, .agg #[.int .i64 i, .bool b]] w (StpOut w (stpL l ⟨i, b⟩)) := by
  have hlen := hL.len
  obtain ⟨n, hn⟩ : ∃ n, l.length = n := ⟨_, rfl⟩
  by_cases hin : i < 0 ∨ l.length ≤ i
  · have HV := Lib.hid (stpL_no (v := ⟨i, b⟩) hin)
    rw [hn] at hlen hin ⊢
    clear hn
    have hq : (decide ((0 : Int) ≤ i) && decide (i < (n : Int))) = false := by rcases hin with h | h <;> simp <;> omega
    have hq' : (decide ((0 : Int) ≤ i) && decide (i ≤ (n : Int) - 1)) = false := by rcases hin with h | h <;> simp <;> omega
    clear hin
    go_enter Tryd.func32, Tryd.ntmps32
    go_wp2_with (go_at_call 47; refine (in_any _ _ _ _).mono ?_; rw [hq']; rintro e we ⟨rfl, rfl⟩)
    refine bodyPost_ret (v := .tuple #[stpV zeroS, .int .i64 2]) (by simp [results, Tryd.results32, go_sem, stpV, zeroS]) rfl ?_
    rw [HV.out]
    exact ⟨rfl, by repeat (first | assumption | exact Below.refl _ _ | refine Below.drew ?_ | refine Below.alloc ?_ (by first | omega | (simp <;> omega)) _ | refine Below.setCell ?_ (by first | omega | (simp <;> omega)) _)⟩
  · obtain ⟨k, rfl⟩ := Int.eq_ofNat_of_zero_le (show 0 ≤ i by omega)
    have hkl : k < l.length := by omega
    obtain ⟨o, ho⟩ : ∃ o, l[k]? = some o := ⟨_, List.getElem?_eq_getElem hkl⟩
    have HV0 := Lib.hid (stpL_yes (b := false) ho)
    have HV1 := Lib.hid (stpL_yes (b := true) ho)
    have HV0' : Hid (stpL l ⟨(k : Int), false⟩ = stpO o.pick) := Lib.hid (by rw [HV0.out]; rfl)
    have HV1' : Hid (stpL l ⟨(k : Int), true⟩ = stpO o.drop) := Lib.hid (by rw [HV1.out]; rfl)
    clear HV0 HV1
    obtain ⟨ad, C0, c0, rfl, hadb, ⟨m0, m1, m2, m3, m4, m5, m6, m7, m8, m9, m10, m11, m12, m13, m14, m15⟩, hI, hf⟩ := row_Ord hL ho
    rw [hn] at hlen hkl ⊢
    have hb0 : (ad.add (k * 16)).block < w.heap.size := by rw [block_of_add]; exact hadb
    have hb1 : (ad.add (k * 16)).block < w.heap.size + 1 := by omega
    have hb2 : (ad.add (k * 16)).block < w.heap.size + 1 + 1 := by omega
    have hk0 : (0 : Int) ≤ (k : Int) := by omega
    have hkn : (k : Int) < (n : Int) := by omega
    clear hin hn ho m0 m1 m10 m11 m12 m13 m14 m15 hf hI hL
    have hq : (decide ((0 : Int) ≤ (k : Int)) && decide ((k : Int) < (n : Int))) = true := by simp; omega
    have hq' : (decide ((0 : Int) ≤ (k : Int)) && decide ((k : Int) ≤ (n : Int) - 1)) = true := by simp; omega
    cases b
    · by_cases hp : o.pick.place < 0
      · have HE : Hid (stpO o.pick = (zeroS, 19)) := Lib.hid (by unfold stpO; rw [if_pos hp])
        go_enter Tryd.func32, Tryd.ntmps32
        go_wp2_with (go_at_call 47; refine (in_any _ _ _ _).mono ?_; rw [hq']; rintro e we ⟨rfl, rfl⟩)
        refine bodyPost_ret (v := .tuple #[stpV zeroS, .int .i64 19]) (by simp [results, Tryd.results32, go_sem, stpV, zeroS]) rfl ?_
        rw [HV0'.out, HE.out]
        exact ⟨rfl, by repeat (first | assumption | exact Below.refl _ _ | refine Below.drew ?_ | refine Below.alloc ?_ (by first | omega | (simp <;> omega)) _ | refine Below.setCell ?_ (by first | omega | (simp <;> omega)) _)⟩
      · have HE : Hid (stpO o.pick = (o.pick, 0)) := Lib.hid (by unfold stpO; rw [if_neg hp])
        go_enter Tryd.func32, Tryd.ntmps32
        go_wp2_with (go_at_call 47; refine (in_any _ _ _ _).mono ?_; rw [hq']; rintro e we ⟨rfl, rfl⟩)
        refine bodyPost_ret (v := .tuple #[stpV o.pick, .int .i64 0]) (by simp [results, Tryd.results32, go_sem, stpV, zeroS]) rfl ?_
        rw [HV0'.out, HE.out]
        exact ⟨rfl, by repeat (first | assumption | exact Below.refl _ _ | refine Below.drew ?_ | refine Below.alloc ?_ (by first | omega | (simp <;> omega)) _ | refine Below.setCell ?_ (by first | omega | (simp <;> omega)) _)⟩
    · by_cases hp : o.drop.place < 0
      · have HE : Hid (stpO o.drop = (zeroS, 19)) := Lib.hid (by unfold stpO; rw [if_pos hp])
        go_enter Tryd.func32, Tryd.ntmps32
        go_wp2_with (go_at_call 47; refine (in_any _ _ _ _).mono ?_; rw [hq']; rintro e we ⟨rfl, rfl⟩)
        refine bodyPost_ret (v := .tuple #[stpV zeroS, .int .i64 19]) (by simp [results, Tryd.results32, go_sem, stpV, zeroS]) rfl ?_
        rw [HV1'.out, HE.out]
        exact ⟨rfl, by repeat (first | assumption | exact Below.refl _ _ | refine Below.drew ?_ | refine Below.alloc ?_ (by first | omega | (simp <;> omega)) _ | refine Below.setCell ?_ (by first | omega | (simp <;> omega)) _)⟩
      · have HE : Hid (stpO o.drop = (o.drop, 0)) := Lib.hid (by unfold stpO; rw [if_neg hp])
        go_enter Tryd.func32, Tryd.ntmps32
        go_wp2_with (go_at_call 47; refine (in_any _ _ _ _).mono ?_; rw [hq']; rintro e we ⟨rfl, rfl⟩)
        refine bodyPost_ret (v := .tuple #[stpV o.drop, .int .i64 0]) (by simp [results, Tryd.results32, go_sem, stpV, zeroS]) rfl ?_
        rw [HV1'.out, HE.out]
        exact ⟨rfl, by repeat (first | assumption | exact Below.refl _ _ | refine Below.drew ?_ | refine Below.alloc ?_ (by first | omega | (simp <;> omega)) _ | refine Below.setCell ?_ (by first | omega | (simp <;> omega)) _)⟩
end Go.Proofs.YthkbfmbohoclaaaDoor.ord
