/- The reference's sum of rows (at most 63 of them): even, Sum. Portable: needs only Lib and LoadP. -/
import Derived.Test.YthkbfmbohoclaaaDoorLib
import Derived.Test.YthkbfmbohoclaaaDoorLoadP
import Derived.Deep.QuietTactic
namespace Go.Proofs.YthkbfmbohoclaaaDoor.sumr
open Go.RowKit
open Go.Proofs.YthkbfmbohoclaaaDoor.lib Go.Proofs.YthkbfmbohoclaaaDoor.loads
set_option linter.unusedVariables false

/-- Numbers between -m and m. -/
def InM (m : Int) (l : List Int) : Prop := ∀ x, x ∈ l → -m ≤ x ∧ x ≤ m
def OutE (w : World) (l : List Int) (n : Nat) (er : Int) (e : Ending) (w' : World) : Prop :=
  ∃ A c, e = .returned (.tuple #[.slice A n c, .int .i64 er]) ∧ w'.ownsRow w.heap.size 3 1 (.slice A n c) n (l.map (.int .i64)) ∧ Below w.heap.size w w'
def OutF (w : World) (r : Option (List Int)) (e : Ending) (w' : World) : Prop :=
  (∃ l, r = some l ∧ OutE w l l.length 0 e w') ∨ (r = none ∧ e = .returned (.tuple #[.slice none 0 0, .int .i64 2]) ∧ Below w.heap.size w w')
/-- Whether so many dimensions are possible. -/
def foldR (op : Int → Int → Int) (ls : List (List Int)) (dims : Int) : Option (List Int) := if 0 ≤ dims ∧ dims ≤ 3 then foldGo op ls (zeros dims.toNat) else none
theorem foldR_no {op : Int → Int → Int} {ls : List (List Int)} {dims : Int} (h : dims < 0 ∨ 3 < dims) : foldR op ls dims = none := by unfold foldR; rw [if_neg (by omega)]
theorem foldR_yes {op : Int → Int → Int} {ls : List (List Int)} {d : Nat} (h : d ≤ 3) : foldR op ls d = foldGo op ls (zeros d) := by unfold foldR; rw [if_pos (by omega), Int.toNat_natCast]

/-! The reference. -/
def evenI (ls : List (List Int)) (dims : Int) : Bool := decide (0 ≤ dims ∧ dims ≤ 3) && ls.all fun l => decide ((l.length : Int) = dims)
theorem all_at {α : Type} {p : α → Bool} {l : List α} {k : Nat} {x : α} (h : l[k]? = some x) : (l.drop k).all p = (p x && (l.drop (k + 1)).all p) := by
  rw [drop_at' h, List.all_cons]
theorem even_any (A : Option Addr) (c : Nat) (ls : List (List Int)) (dims : Int) (w : World) (B : Nat) (hr : Rows2 w B A ls) :
    Calls Tryd.prog 63 #[.slice A ls.length c, .int .i64 dims] w fun e w' => e = .returned (.bool (evenI ls dims)) ∧ w = w' := by
  have hlen := hr.1
  by_cases h : dims < 0 ∨ 3 < dims
  · have HE : Hid (evenI ls dims = false) := Lib.hid (by unfold evenI; rw [decide_eq_false (by omega)]; rfl)
    rcases h with h | h
    all_goals
      go_enter Tryd.func63, Tryd.ntmps63
      go_wp2
      go_ret
      exact ⟨ret_bool HE.out.symm, rfl⟩
  · obtain ⟨d, rfl⟩ := Int.eq_ofNat_of_zero_le (show 0 ≤ dims by omega)
    have hd : d ≤ 3 := by omega
    clear h
    have HE : Hid (evenI ls d = ls.all fun l => decide (l.length = d)) := Lib.hid (by
      unfold evenI
      rw [decide_eq_true (by omega), Bool.true_and]
      congr 1
      funext l
      congr 1
      apply propext
      omega)
    go_enter Tryd.func63, Tryd.ntmps63
    go_wp2
    go_loop [5] (fun i => ∃ k : Nat, k ≤ ls.length ∧ i = .int .i64 k ∧ Hid (evenI ls d = (ls.drop k).all fun l => decide (l.length = d))) (fun i => ls.length - (intOf i).toNat)
    case atStart => exact ⟨0, by omega, rfl, Lib.hid HE.out⟩
    case round =>
      obtain ⟨k, hk, rfl, hq⟩ := hrel
      by_cases hlt : k < ls.length
      · obtain ⟨ad, l, Ai, ci, rfl, hadb, hl, hcl, hil⟩ := hr.at_ hlt
        have HX := Lib.hid (all_at (p := fun l : List Int => decide (l.length = d)) hl)
        clear hl
        by_cases hld : l.length = d
        · have HLD := Lib.hid hld
          rw [hld] at hcl
          clear hld
          go_wp2
          go_round
          case rel => exact ⟨k + 1, by omega, by go_num, Lib.hid (by rw [hq.out, HX.out, decide_eq_true HLD.out]; rfl)⟩
          case measure => simp [intOf]; omega
        · have h2 : ((l.length : Int) == (d : Int)) = false := by simp; omega
          have h3 : ((l.length : Int) != (d : Int)) = true := by simp; omega
          have HLD := Lib.hid (decide_eq_false hld)
          clear hld
          go_wp2
          go_ret
          exact ⟨ret_bool (by rw [hq.out, HX.out, HLD.out]; rfl), rfl⟩
      · have hkn : k = ls.length := by omega
        subst hkn
        clear hlt
        go_wp2
        go_ret
        exact ⟨ret_bool (by rw [hq.out, List.drop_length]; rfl), rfl⟩

theorem evenI_no {op : Int → Int → Int} {ls : List (List Int)} {dims : Int} (h : evenI ls dims = false) : foldR op ls dims = none := by
  unfold foldR
  unfold evenI at h
  split
  · rename_i h1
    rw [decide_eq_true h1, Bool.true_and] at h
    rw [foldGo_eq, if_neg]
    unfold evenB
    rw [show (zeros dims.toNat).length = dims.toNat by simp [zeros]]
    intro h2
    rw [List.all_eq_true] at h2
    rw [List.all_eq_false] at h
    obtain ⟨l, hl, h3⟩ := h
    have h4 := h2 l hl
    simp at h3 h4
    omega
  · rfl
theorem evenI_yes {op : Int → Int → Int} {ls : List (List Int)} {dims : Int} (h : evenI ls dims = true) : ∃ d : Nat, dims = d ∧ d ≤ 3 ∧ (∀ l, l ∈ ls → l.length = d) ∧ foldR op ls dims = some (colL op ls (zeros d)) := by
  unfold evenI at h
  rw [Bool.and_eq_true, decide_eq_true_eq, List.all_eq_true] at h
  obtain ⟨⟨h0, h1⟩, h2⟩ := h
  obtain ⟨d, rfl⟩ := Int.eq_ofNat_of_zero_le h0
  have h3 : ∀ l, l ∈ ls → l.length = d := fun l hl => by
    have := h2 l hl
    simp at this
    omega
  refine ⟨d, rfl, by omega, h3, ?_⟩
  rw [foldR_yes (by omega), foldGo_eq, if_pos]
  unfold evenB
  rw [List.all_eq_true]
  intro l hl
  simp [zeros, h3 l hl]
theorem colL_at {op : Int → Int → Int} {ls : List (List Int)} {d k : Nat} (hk : k < d) : (colL op ls (zeros d))[k]? = some (colD op ls k 0) := by
  unfold colL zeros
  rw [List.getElem?_map, List.length_replicate, List.getElem?_range hk]
  simp only [Option.map_some]
  rw [List.getElem?_replicate, if_pos hk]
  rfl
theorem colD_at {op : Int → Int → Int} {ls : List (List Int)} {k i : Nat} {l : List Int} {x z : Int} (h : ls[i]? = some l) (hx : l[k]? = some x) : colD op (ls.drop i) k z = colD op (ls.drop (i + 1)) k (op z x) := by
  unfold colD
  rw [drop_at' h, List.foldl_cons, hx]
  rfl

set_option maxHeartbeats 2000000 in
theorem rplus_any (A : Option Addr) (c : Nat) (ls : List (List Int)) (dims : Int) (hls : ls.length ≤ 63) (w : World) (B : Nat) (hB : B ≤ w.heap.size) (hr : Rows2 w B A ls) (hi : ∀ l, l ∈ ls → InM 1073741824 l) :
    Calls Tryd.prog 49 #[.slice A ls.length c, .int .i64 dims] w (OutF w (foldR (fun x y => x + y) ls dims)) := by
  cases he : evenI ls dims
  · have HN := Lib.hid (evenI_no (op := fun x y => x + y) he)
    go_enter Tryd.func49, Tryd.ntmps49
    go_wp2_with (go_at_call 63; refine (even_any _ _ _ _ _ B hr).mono ?_; rintro e w' ⟨rfl, rfl⟩)
    go_ret2
    exact .inr ⟨HN.out, rfl, Below.refl _ _⟩
  · obtain ⟨d, rfl, hd, hrow, hfold⟩ := evenI_yes (op := fun x y => x + y) he
    have HF := Lib.hid hfold
    have HR := Lib.hid hrow
    have HI := Lib.hid hi
    clear hfold hrow hi
    generalize hL : colL (fun x y => x + y) ls (zeros d) = L at *
    have HL := Lib.hid hL
    have HLen : Hid (L.length = d) := Lib.hid (by rw [← hL, colL_length]; simp [zeros])
    clear hL
    go_enter Tryd.func49, Tryd.ntmps49
    go_wp2_with (go_at_call 63; refine (even_any _ _ _ _ _ B hr).mono ?_; rintro e w' ⟨rfl, rfl⟩)
    go_loopw [6, 7, 8, 9] (fun v i _ _ wr => ∃ k : Nat, k ≤ d ∧ i = .int .i64 k ∧ (∃ A c, v = .slice A k c) ∧ wr.ownsRow w.heap.size 3 1 v k ((L.take k).map (.int .i64)) ∧ Below w.heap.size w wr) (fun _ i _ _ _ => d - (intOf i).toNat)
    case atStart => exact ⟨0, by omega, rfl, ⟨none, 0, rfl⟩, World.ownsRow_nil _ _ _ _, Below.refl _ _⟩
    case round =>
      obtain ⟨k, hk, rfl, ⟨A1, c1, rfl⟩, hown, hbel⟩ := hrel
      have hz := hbel.size
      by_cases hlt : k < d
      · have hr2 := hr.below (hbel.mono hB)
        have HX : Hid (L.take (k + 1) = L.take k ++ [colD (fun x y => x + y) ls k 0]) := Lib.hid (by
          have h1 := colL_at (op := fun x y => x + y) (ls := ls) hlt
          rw [HL.out] at h1
          obtain ⟨h2, h3⟩ := List.getElem?_eq_some_iff.1 h1
          rw [List.take_succ_eq_append_getElem h2, h3])
        go_wp2
        obtain ⟨wo, rfl⟩ : ∃ wo : World, wo = wr := ⟨_, rfl⟩
        go_loop [8, 9] (fun n i => ∃ (j : Nat) (z : Int), j ≤ ls.length ∧ i = .int .i64 j ∧ n = .int .i64 z ∧ -(j * 1073741824 : Int) ≤ z ∧ z ≤ j * 1073741824 ∧ Hid (colD (fun x y => x + y) ls k 0 = colD (fun x y => x + y) (ls.drop j) k z)) (fun _ i => ls.length - (intOf i).toNat)
        case atStart => exact ⟨0, 0, by omega, rfl, rfl, by omega, by omega, Lib.hid rfl⟩
        case round =>
          obtain ⟨j, z, hj, rfl, rfl, hz1, hz2, hq⟩ := hrel
          by_cases hlj : j < ls.length
          · obtain ⟨ad, l, Ai, ci, rfl, hadb, hl, hcl, hil⟩ := hr2.at_ hlj
            have hll := HR.out l (List.mem_of_getElem? hl)
            have hI := HI.out l (List.mem_of_getElem? hl)
            obtain ⟨ad2, x, rfl, hadb2, hx, hcx⟩ := hil.at_ (k := k) (by omega)
            obtain ⟨x0, x1⟩ := hI x (List.mem_of_getElem? hx)
            have HQ := Lib.hid (colD_at (op := fun x y => x + y) (z := z) hl hx)
            rw [hll] at hcl
            clear hl hx hll hI
            have hb1 : -67645734912 ≤ z := by omega
            have hb2 : z ≤ 67645734912 := by omega
            go_wp2
            go_round
            case rel => exact ⟨j + 1, z + x, by omega, by go_num, by congr 1 <;> omega, by omega, by omega, Lib.hid (by rw [hq.out, HQ.out])⟩
            case measure => simp [intOf]; omega
          · have hkn : j = ls.length := by omega
            subst hkn
            clear hlj
            have hq2 : colD (fun x y => x + y) ls k 0 = z := by rw [hq.out, List.drop_length]; rfl
            rw [hq2] at HX
            clear hq2 hq
            go_wp2_with (at_builtin; refine push_int rfl _ _ rfl w.heap.size _ k (L.take k) rfl hown z rfl (by omega) hz ?_; intro A2 c2 w2 hown2 hb2 hz2)
            go_roundw
            case rel => exact ⟨k + 1, by omega, by go_num, ⟨A2, c2, rfl⟩, by rw [HX.out]; exact hown2, hbel.trans hb2⟩
            case measure => simp [intOf]; omega
      · have hkn : k = d := by omega
        subst hkn
        clear hlt
        rw [List.take_of_length_le (by rw [HLen.out]; exact Nat.le_refl _)] at hown
        go_wp2
        go_ret2
        have hal : L.length = k := HLen.out
        refine .inl ⟨L, HF.out, A1, c1, ?_, by rw [hal]; exact hown, hbel⟩
        rw [hal]
        rfl
end Go.Proofs.YthkbfmbohoclaaaDoor.sumr
