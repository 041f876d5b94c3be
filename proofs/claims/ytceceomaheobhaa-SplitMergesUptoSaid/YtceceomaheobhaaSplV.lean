/- The reference's Loads. -/
import Derived.Test.YtceceomaheobhaaSplU
import Derived.Deep.DeepCutAuto
namespace Go.Proofs.Ytceceomaheobhaa.spl
open Go.RowKit
open Go.Proofs.Ytceceomaheobhaa.lib Go.Proofs.Ytceceomaheobhaa.rd Go.Proofs.Ytceceomaheobhaa.app Go.Proofs.Ytceceomaheobhaa.els Go.Proofs.Ytceceomaheobhaa.loads
set_option linter.unusedVariables false
set_option linter.unusedSimpArgs false

theorem rloads_bad (A : Option Addr) (c : Nat) (l : List Int) (n : Int) (w : World) (h : Ints w w.heap.size A l) (hb : n < 1 ∨ 4 < n ∨ okLd l = false) :
    Calls Try.prog 9 #[.slice A l.length c, .int .i64 n] w (LoadsOut w none) := by
  have hlen := h.len
  have HI := Lib.hid h
  by_cases h1 : n < 1
  · go_enter Try.func9, Try.ntmps9
    go_wp2
    go_ret2
    exact .inr ⟨rfl, rfl, Below.refl _ _⟩
  by_cases h4 : 4 < n
  · go_enter Try.func9, Try.ntmps9
    go_wp2
    go_ret2
    exact .inr ⟨rfl, rfl, Below.refl _ _⟩
  by_cases h3 : 3 < l.length
  · have h3' : (3 : Int) < (l.length : Int) := by omega
    go_enter Try.func9, Try.ntmps9
    go_wp2
    go_ret2
    exact .inr ⟨rfl, rfl, Below.refl _ _⟩
  have hr : rightB l l.length = false := by
    rcases hb with hb | hb | hb
    · omega
    · omega
    · unfold okLd at hb
      rw [decide_eq_true (by omega), Bool.true_and] at hb
      exact hb
  have h3' : ¬ (3 : Int) < (l.length : Int) := by omega
  clear hb h
  go_enter Try.func9, Try.ntmps9
  go_wp2_with (go_at_call 24; refine (rright_any A c l l.length _ _ HI.out).mono ?_; rintro e w' ⟨rfl, rfl⟩)
  go_ret2
  exact .inr ⟨rfl, rfl, Below.refl _ _⟩
set_option maxRecDepth 20000 in
set_option maxHeartbeats 2000000 in
theorem rloads_good (A : Option Addr) (c : Nat) (l : List Int) (n : Nat) (w : World) (h : Ints w w.heap.size A l) (h1 : 1 ≤ n) (h4 : n ≤ 4) (hok : okLd l = true) :
    Calls Try.prog 9 #[.slice A l.length c, .int .i64 n] w (LoadsOut w (some (partsL l n))) := by
  have HI := Lib.hid h
  have HK := Lib.hid (fun x hx => okLd_at hok (x := x) hx)
  have h3 := okLd_len hok
  have hr : rightB l l.length = true := by
    unfold okLd at hok
    rw [decide_eq_true (by omega), Bool.true_and] at hok
    exact hok
  obtain ⟨m, hm⟩ : ∃ m, l.length = m := ⟨_, rfl⟩
  rw [hm] at h3 hr ⊢
  have HM := Lib.hid hm
  have hn1 : (1 : Int) ≤ (n : Int) := by omega
  have hn4 : (n : Int) ≤ 4 := by omega
  have h3' : (m : Int) ≤ 3 := by omega
  clear h hok hm
  go_enter Try.func9, Try.ntmps9
  go_wp2_with (go_at_call 24; rw [← HM.out]; refine (rright_any A c l l.length _ _ HI.out).mono ?_; rw [HM.out]; rintro e w' ⟨rfl, rfl⟩)
  go_loopw [6, 7, 8, 9] (fun v i _ _ wr => ∃ (j : Nat) (B : Option Addr) (cB : Nat) (cs : List Value), j ≤ n ∧ i = .int .i64 ((j : Int) + 1) ∧ v = .slice B j cB ∧ Hid (ElsIn elL wr (fun b => some b ≠ (Value.slice B j cB).ownBlock ∧ w.heap.size ≤ b) cs (partsTo l n j) ∧ wr.ownsRow w.heap.size 22 1 (.slice B j cB) j cs ∧ Below w.heap.size w wr)) (fun _ i _ _ _ => n + 1 - (intOf i).toNat)
  case atStart => exact ⟨0, none, 0, [], by omega, by first | rfl | go_num, rfl, Lib.hid ⟨.nil, World.ownsRow_nil _ _ _ _, Below.refl _ _⟩⟩
  case round =>
    obtain ⟨j, B, cB, cs, hj, rfl, rfl, HE⟩ := hrel
    have hj0 : (0 : Int) ≤ (j : Int) := by omega
    by_cases hlt : j < n
    · have hj4 : (j : Int) ≤ 4 := by omega
      have hjn : (j : Int) + 1 ≤ (n : Int) := by omega
      rename World => wo
      have HZ : Hid ((ptL l n j).length = m) := Lib.hid (by rw [ptL_len, HM.out])
      have hzo := HE.out.2.2.size
      obtain ⟨S, hS⟩ : ∃ S, wo.heap.size = S := ⟨_, rfl⟩
      rw [hS] at hzo
      go_upto_region 9 with fail
      go_loopw [8, 9] (fun v i wr => ∃ (k : Nat) (E : Option Addr) (e : Nat), k ≤ m ∧ i = .int .i64 k ∧ v = .slice E k e ∧ Hid (wr.ownsRow S 3 1 (.slice E k e) k (((ptL l n j).take k).map (.int .i64)) ∧ Below S wo wr)) (fun _ i _ => m - (intOf i).toNat)
      case atStart => exact ⟨0, none, 0, by omega, rfl, rfl, Lib.hid ⟨World.ownsRow_nil _ _ _ _, Below.refl _ _⟩⟩
      case round =>
        obtain ⟨k, E, e, hk, rfl, rfl, HO⟩ := hrel
        have hzr := HO.out.2.size
        by_cases hlk : k < m
        · obtain ⟨ad, x, rfl, hadb, hx, hcx⟩ := (HI.out.below (HE.out.2.2.trans (HO.out.2.mono hzo))).at_ (k := k) (by rw [HM.out]; exact hlk)
          obtain ⟨x0, x1⟩ := HK.out x (List.mem_of_getElem? hx)
          have HX : Hid ((ptL l n j).take (k + 1) = (ptL l n j).take k ++ [porI x n j]) := Lib.hid (by
            have h1 := ptL_at hx n j
            obtain ⟨h2, h3⟩ := List.getElem?_eq_some_iff.1 h1
            rw [List.take_succ_eq_append_getElem h2, h3])
          have HC : Hid (cntI x n ((j : Int) + 1) = porI x n j) := Lib.hid (cnt_por x0 h1 h4 hlt)
          have hk0 : (0 : Int) ≤ (k : Int) := by omega
          have hkn : (k : Int) < (m : Int) := by omega
          clear hx
          go_wp2_with (first
            | (go_at_call 25; refine (part_any x n ((j : Int) + 1) x0 (by omega) hn1 (by omega) (by omega) (by omega) _).mono ?_; rw [HC.out]; rintro e w' ⟨rfl, rfl⟩)
            | (at_builtin; refine push_int rfl _ _ rfl S (.slice E k e) k ((ptL l n j).take k) rfl HO.out.1 (porI x n j) rfl (by omega) (by omega) ?_; intro E2 e2 w2 hown2 hb2 hz2; have HK2 := Lib.hid (And.intro hown2 hb2); clear hown2 hb2))
          exact ⟨⟨k + 1, E2, e2, by omega, by go_num, rfl, Lib.hid ⟨by rw [HX.out]; exact HK2.out.1, HO.out.2.trans HK2.out.2⟩⟩, by simp [intOf]; omega⟩
        · have hkm : k = m := by omega
          subst hkm
          clear hlk hk
          have hown : (wr.ownsRow S 3 1 (.slice E k e) k ((ptL l n j).map (.int .i64))) := by
            have h := HO.out.1
            rw [List.take_of_length_le (by rw [HZ.out]; exact Nat.le_refl _)] at h
            exact h
          have hbel := HO.out.2
          have hvS : ∀ q, (Value.slice B j cB).ownBlock = some q → q < S := fun q hq => by rw [← hS]; exact (HE.out.2.1.lt q hq).2
          have hbelo : Below wo.heap.size wo wr := by rw [hS]; exact hbel
          have hE3 : ElsIn elL wr (fun b => some b ≠ (Value.slice B j cB).ownBlock ∧ w.heap.size ≤ b) cs (partsTo l n j) := HE.out.1.stay (row := none) (Stays.below hbelo) (fun b _ _ e => by cases e) (fun b _ h => h)
          have hI3 : IntsOff wr (fun b => some b ≠ (Value.slice B j cB).ownBlock ∧ w.heap.size ≤ b) E (ptL l n j) := by
            refine IntsOff.own (c := e) (base := S) (e := 3) ?_ (by rw [HZ.out]; omega) (fun b hb => ⟨fun e => ?_, by omega⟩)
            · rw [HZ.out]; exact hown
            · have := hvS b e.symm
              omega
          have bA : Below wr.heap.size wr (wr.alloc (.cells #[.slice E k e] 22)) := (Below.refl _ _).alloc (Nat.le_refl _) _
          have H4 := Lib.hid (And.intro (hE3.stay (row := none) (Stays.below bA) (fun b _ _ e => by cases e) (fun b _ h => h)) (hI3.stay (row := none) (Stays.below bA) (fun b _ _ e => by cases e) (fun b _ h => h)))
          have HO4 : Hid ((wr.alloc (.cells #[.slice E k e] 22)).ownsRow w.heap.size 22 1 (.slice B j cB) j cs) := Lib.hid (own_below (own_below HE.out.2.1 hbelo) bA)
          have HB4 : Hid (Below w.heap.size w (wr.alloc (.cells #[.slice E k e] 22))) := Lib.hid ((HE.out.2.2.trans (hbel.mono hzo)).trans (bA.mono (by omega)))
          have HS4 : Hid (w.heap.size ≤ (wr.alloc (.cells #[.slice E k e] 22)).heap.size) := Lib.hid HB4.out.size
          clear hown hbel hE3 hI3 hbelo bA hvS
          go_wp2_with (at_builtin; go_loud (refine wpList_app ints_elem _ _ rfl w.heap.size B j cB cs rfl HO4.out ⟨wr.heap.size, 0, none⟩ 1 [.slice E k e] rfl rfl (cell_one_new _ _ _) (fun u hu => by rw [List.mem_singleton] at hu; rw [hu]; rfl) (by omega) HS4.out rfl ?_); intro g5 c5 w5 hown5 hg5 hx5; have HK5 := Lib.hid (And.intro hown5 (And.intro hg5 hx5)); clear hown5 hg5 hx5)
          have hP := push_els (f := elL) (x := ptL l n j) e H4.out.1 H4.out.2 HK5.out.2.1 HK5.out.2.2
          rw [show (elL (ptL l n j)).cells E e = [Value.slice E k e] by unfold El.cells elL; rw [HZ.out]; rfl, ← partsTo_succ] at hP
          exact ⟨⟨j + 1, some ⟨g5, 0, none⟩, c5, _, by omega, by go_num, rfl, Lib.hid ⟨hP, HK5.out.1, HB4.out.grown HK5.out.2.1 HS4.out (fun q e => own_base HO4.out q e)⟩⟩, by simp [intOf]; omega⟩
    · have hjn : j = n := by omega
      subst hjn
      clear hlt
      go_wp2
      go_ret2
      refine .inl ⟨partsL l j, B, cB, cs, rfl, by rw [partsL_len]; rfl, by rw [partsL_len]; exact HE.out.2.1, ?_, HE.out.2.2⟩
      exact HE.out.1.stay (row := none) (Stays.below (Below.refl _ _)) (fun b _ _ e => by cases e) (fun b _ h => h.2)
theorem rloads_any (A : Option Addr) (c : Nat) (l : List Int) (n : Int) (w : World) (h : Ints w w.heap.size A l) :
    Calls Try.prog 9 #[.slice A l.length c, .int .i64 n] w (LoadsOut w (loadsF l n)) := by
  by_cases hb : n < 1 ∨ 4 < n
  · rw [loadsF_num hb]
    exact rloads_bad A c l n w h (by omega)
  cases ho : okLd l
  · rw [loadsF_bad ho]
    exact rloads_bad A c l n w h (.inr (.inr ho))
  · obtain ⟨k, rfl⟩ := Int.eq_ofNat_of_zero_le (show 0 ≤ n by omega)
    rw [loadsF_some (by omega) (by omega) ho]
    exact rloads_good A c l k w h (by omega) (by omega) ho
end Go.Proofs.Ytceceomaheobhaa.spl
