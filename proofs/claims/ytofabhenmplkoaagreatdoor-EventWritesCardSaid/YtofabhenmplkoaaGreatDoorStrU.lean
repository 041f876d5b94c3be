/- The reference's Words. -/
import Derived.Test.YtofabhenmplkoaaGreatDoorStrT
namespace Go.Proofs.YtofabhenmplkoaaGreatDoor.txt
open Go.RowKit
open Go.Proofs.YtofabhenmplkoaaGreatDoor.lib Go.Proofs.YtofabhenmplkoaaGreatDoor.app
set_option linter.unusedVariables false
set_option linter.unusedSimpArgs false

theorem take_last {l : By} {k : Nat} (h : (l.drop k).takeWhile isW ≠ []) : ∃ y, l[k + ((l.drop k).takeWhile isW).length - 1]? = some y ∧ y ≠ 32 := by
  obtain ⟨T, hT⟩ : ∃ T, (l.drop k).takeWhile isW = T := ⟨_, rfl⟩
  rw [hT] at h ⊢
  have hp : T <+: l.drop k := by rw [← hT]; exact List.takeWhile_prefix _
  have h0 : 0 < T.length := List.length_pos_iff.2 h
  obtain ⟨y, hy⟩ : ∃ y, T[T.length - 1]? = some y := ⟨_, List.getElem?_eq_getElem (by omega)⟩
  have hm : y ∈ T := List.mem_of_getElem? hy
  have hw : isW y = true := by
    rw [← hT] at hm
    exact List.all_eq_true.1 (List.all_takeWhile) y hm
  refine ⟨y, ?_, ?_⟩
  · obtain ⟨r, hr⟩ := hp
    have e : (l.drop k)[T.length - 1]? = some y := by rw [← hr, List.getElem?_append_left (by omega)]; exact hy
    rw [List.getElem?_drop] at e
    rw [show k + T.length - 1 = k + (T.length - 1) by omega]
    exact e
  · intro e
    rw [e] at hw
    exact absurd hw (by decide)
def WdSt (S : By) (l : By) (L : List By) (j : Nat) : Prop := (j < l.length ∧ WInv S L (l.drop j)) ∨ (j = l.length ∧ 0 < l.length ∧ l[j - 1]? = some 32 ∧ L ≠ [] ∧ WordsOk S none) ∨ (j = l.length ∧ WordsOk S (some L) ∧ (L = [] ∨ (0 < l.length ∧ ∃ y, l[j - 1]? = some y ∧ y ≠ 32)))
set_option maxRecDepth 100000 in
set_option maxHeartbeats 4000000 in
theorem rwords_any (s : ByteArray) (hm : s.size ≤ 100000) (w : World) : Calls Tryz.prog 75 #[.string s] w (WdOut s.data.toList w) := by
  obtain ⟨S, hS⟩ : ∃ S, s.data.toList = S := ⟨_, rfl⟩
  obtain ⟨l, hl⟩ : ∃ l, S = l := ⟨_, rfl⟩
  have HL : Hid (s.data.toList = l) := Lib.hid (by rw [hS, hl])
  have HLen : Hid (l.length = s.size) := Lib.hid (by rw [← hl, ← hS]; simp)
  have H0 : Hid (WdSt S l [] 0) := Lib.hid (by
    by_cases h : l.length = 0
    · have e : l = [] := List.eq_nil_of_length_eq_zero h
      exact .inr (.inr ⟨h.symm, by rw [hl, e]; exact WordsOk.nil, .inl rfl⟩)
    · exact .inl ⟨by omega, by rw [List.drop_zero, ← hl]; exact WInv.start S⟩)
  rw [hS]
  clear hS hl
  go_enter Tryz.func75, Tryz.ntmps75
  go_upto_region 3 with fail
  go_loopw [4, 5, 6, 7, 8, 9] (fun o i _ _ _ _ wr => Below w.heap.size w wr ∧ ∃ (j : Nat) (L : List By) (A : Option Addr) (n c : Nat), j ≤ s.size ∧ i = .int .i64 j ∧ o = .slice A n c ∧ Hid (n = L.length) ∧ n ≤ j ∧ Hid (WdSt S l L j) ∧ Hid (wr.ownsRow w.heap.size 9 1 (.slice A n c) n (L.map strV))) (fun _ i _ _ _ _ _ => s.size - (intOf i).toNat)
  case atStart => exact ⟨Below.refl _ _, 0, [], none, 0, 0, by omega, rfl, rfl, Lib.hid rfl, by omega, H0, Lib.hid (World.ownsRow_nil _ _ _ _)⟩
  case round =>
    obtain ⟨hb, j, L, A, n, c, hj, rfl, rfl, hn, hnj, HS, hrow⟩ := hrel
    clear H0
    have hbz := hb.size
    have hll := HLen.out
    rcases HS.out with ⟨hjl, hW⟩ | ⟨hjl, hl0, hy, hL, hO⟩ | ⟨hjl, hO, hq⟩
    · have HW := Lib.hid hW
      clear hW HS
      have hjs : j < s.size := by omega
      clear hll hjl
      by_cases htw : (l.drop j).takeWhile isW = []
      · have hw := rword_any s (by omega) j hj wr
        rw [HL.out, htw] at hw
        have hP : ∀ m, m ≤ (l.drop j).length → PartOk (l.drop j) m := fun m hm => part_no htw hm
        have HPq := Lib.hid hP
        clear htw hP
        have hw : Calls Tryz.prog 131 #[.string s, .int .i64 j] wr fun e w' => e = .returned (.int .i64 (j : Int)) ∧ wr = w' := hw
        have hqq := rquoted_any s hm j hj wr
        rw [HL.out] at hqq
        go_upto_region 7 with (first | (go_at_call 131; refine hw.mono ?_; rintro e1 w1 ⟨rfl, rfl⟩) | (go_at_call 132; refine hqq.mono ?_; rintro e1 w1 ⟨t, e, ok, rfl, hok, hb1⟩))
        have HOk := Lib.hid hok
        have hrow2 := own_below hrow.out hb1
        have hbz2 := hb1.size
        have hb3 : Below w.heap.size w w1 := hb.trans (hb1.mono hbz)
        clear hrow hb hb1 hok hw hqq
        cases ok
        · have HO : Hid (WordsOk S none) := Lib.hid (HW.out.none_ (HPq.out 0 (Nat.zero_le _)))
          go_wp2
          refine bodyPost_ret (v := .tuple #[.slice none 0 0, .int .i64 3]) (by simp [results, Tryz.results75, go_sem]) rfl ?_
          exact ⟨hb3, .inl ⟨rfl, HO.out⟩⟩
        obtain ⟨he1, he2, he3⟩ := HOk.out rfl
        have he2 : e ≤ s.size := by rw [← HLen.out]; exact he2
        have HP : Hid (PartOk (l.drop j) (e - j)) := Lib.hid (HPq.out _ (by rw [List.length_drop, HLen.out]; omega))
        have HE : Hid (∃ y, l[e - 1]? = some y ∧ y ≠ 32) := Lib.hid ⟨34, he3, by decide⟩
        clear he3 HOk HPq
        by_cases hes : e < s.size
        · obtain ⟨x, hx⟩ : ∃ x, s[e] = x := ⟨_, rfl⟩
          have HX : Hid ((l.drop j)[e - j]? = some x) := Lib.hid (by rw [List.getElem?_drop, show j + (e - j) = e by omega, ← HL.out, at_data s e hes, hx])
          by_cases hx32 : (x.toNat : Int) = 32
          case neg =>
            have hx32b : ((x.toNat : Int) != 32) = true := by simpa using hx32
            have HO : Hid (WordsOk S none) := Lib.hid (HW.out.bad HP.out HX.out (by intro h; apply hx32; rw [h]; rfl))
            go_wp2_with (at_builtin; refine push_one elem_str rfl _ _ rfl w.heap.size _ n (L.map strV) rfl hrow2 _ rfl rfl (by omega) (by omega) ?_; intro g' c' w3 hown3 hb4)
            refine bodyPost_ret (v := .tuple #[.slice none 0 0, .int .i64 3]) (by simp [results, Tryz.results75, go_sem]) rfl ?_
            exact ⟨hb3.trans hb4, .inl ⟨rfl, HO.out⟩⟩
          have hx32b : ((x.toNat : Int) != 32) = false := by simpa using hx32
          have HX2 : Hid ((l.drop j)[e - j]? = some 32) := Lib.hid (by rw [HX.out]; congr 1; apply UInt8.toNat_inj.1; have : (32 : UInt8).toNat = 32 := rfl; omega)
          have HX3 : Hid (l[e]? = some 32) := Lib.hid (by have := HX2.out; rw [List.getElem?_drop, show j + (e - j) = e by omega] at this; exact this)
          have HS2 : Hid (WdSt S l (L ++ [(l.drop j).take (e - j)]) (e + 1)) := Lib.hid (by
            have hll := HLen.out
            by_cases h2 : e + 1 = s.size
            · exact .inr (.inl ⟨by omega, by omega, by rw [show e + 1 - 1 = e by omega]; exact HX3.out, by simp, HW.out.ends HP.out (by rw [List.length_drop]; omega) (by omega) HX2.out⟩)
            · have h3 := HW.out.next HP.out (by omega) HX2.out (by rw [List.length_drop]; omega)
              rw [List.drop_drop, show j + (e - j + 1) = e + 1 by omega] at h3
              exact .inl ⟨by omega, h3⟩)
          go_wp2_with (at_builtin; refine push_one elem_str rfl _ _ rfl w.heap.size _ n (L.map strV) rfl hrow2 _ rfl rfl (by omega) (by omega) ?_; intro g' c' w3 hown3 hb4)
          go_roundw
          case rel =>
            refine ⟨hb3.trans hb4, e + 1, L ++ [(l.drop j).take (e - j)], some ⟨g', 0, none⟩, n + 1, c', by omega, by go_num, rfl, Lib.hid (by rw [hn.out]; simp), by omega, HS2, ?_⟩
            refine Lib.hid ?_
            rw [List.map_append]
            have ee := strV_of (s.extract j e)
            rw [ext_data, HL.out] at ee
            show w3.ownsRow _ _ 1 _ (n + 1) (L.map strV ++ [strV ((l.drop j).take (e - j))])
            rw [← ee]
            exact hown3
          case measure => simp [intOf]; omega
        · have hes2 : e = s.size := by omega
          have HS2 : Hid (WdSt S l (L ++ [(l.drop j).take (e - j)]) e) := Lib.hid (by
            have hll := HLen.out
            have hr : (l.drop j).length = e - j := by rw [List.length_drop]; omega
            rw [← hr, List.take_length]
            exact .inr (.inr ⟨by omega, HW.out.last (by rw [hr]; exact HP.out) (by intro h; rw [h] at hr; simp at hr; omega), .inr ⟨by omega, HE.out⟩⟩))
          go_wp2_with (at_builtin; refine push_one elem_str rfl _ _ rfl w.heap.size _ n (L.map strV) rfl hrow2 _ rfl rfl (by omega) (by omega) ?_; intro g' c' w3 hown3 hb4)
          go_roundw
          case rel =>
            refine ⟨hb3.trans hb4, e, L ++ [(l.drop j).take (e - j)], some ⟨g', 0, none⟩, n + 1, c', by omega, by go_num, rfl, Lib.hid (by rw [hn.out]; simp), by omega, HS2, ?_⟩
            refine Lib.hid ?_
            rw [List.map_append]
            have ee := strV_of (s.extract j e)
            rw [ext_data, HL.out] at ee
            show w3.ownsRow _ _ 1 _ (n + 1) (L.map strV ++ [strV ((l.drop j).take (e - j))])
            rw [← ee, hes2]
            exact hown3
          case measure => simp [intOf]; omega
      · have hw := rword_any s (by omega) j hj wr
        rw [HL.out] at hw
        have hla := take_last htw
        have hpo := part_isW htw
        have hpl : ((l.drop j).takeWhile isW).length ≤ (l.drop j).length := List.IsPrefix.length_le (List.takeWhile_prefix _)
        have hp0 := List.length_pos_iff.2 htw
        obtain ⟨m, hm2⟩ : ∃ m, ((l.drop j).takeWhile isW).length = m := ⟨_, rfl⟩
        rw [hm2] at hw hla hpo hpl hp0
        clear hm2 htw
        obtain ⟨e, he⟩ : ∃ e, j + m = e := ⟨_, rfl⟩
        rw [he] at hw hla
        have HE := Lib.hid hla
        have HP : Hid (PartOk (l.drop j) (e - j)) := Lib.hid (by rw [show e - j = m by omega]; exact hpo)
        have he1 : j < e := by omega
        have he2 : e ≤ s.size := by rw [List.length_drop, HLen.out] at hpl; omega
        have hej : ¬ (e : Int) = (j : Int) := by omega
        clear hla hpo hpl hp0 he
        go_upto_region 10 with (go_at_call 131; refine hw.mono ?_; rintro e1 w1 ⟨rfl, rfl⟩)
        have hrow2 := hrow.out
        have hb3 := hb
        have hbz2 := hbz
        clear hw hrow hb
        by_cases hes : e < s.size
        · obtain ⟨x, hx⟩ : ∃ x, s[e] = x := ⟨_, rfl⟩
          have HX : Hid ((l.drop j)[e - j]? = some x) := Lib.hid (by rw [List.getElem?_drop, show j + (e - j) = e by omega, ← HL.out, at_data s e hes, hx])
          by_cases hx32 : (x.toNat : Int) = 32
          case neg =>
            have hx32b : ((x.toNat : Int) != 32) = true := by simpa using hx32
            have HO : Hid (WordsOk S none) := Lib.hid (HW.out.bad HP.out HX.out (by intro h; apply hx32; rw [h]; rfl))
            go_wp2_with (at_builtin; refine push_one elem_str rfl _ _ rfl w.heap.size _ n (L.map strV) rfl hrow2 _ rfl rfl (by omega) (by omega) ?_; intro g' c' w3 hown3 hb4)
            refine bodyPost_ret (v := .tuple #[.slice none 0 0, .int .i64 3]) (by simp [results, Tryz.results75, go_sem]) rfl ?_
            exact ⟨hb3.trans hb4, .inl ⟨rfl, HO.out⟩⟩
          have hx32b : ((x.toNat : Int) != 32) = false := by simpa using hx32
          have HX2 : Hid ((l.drop j)[e - j]? = some 32) := Lib.hid (by rw [HX.out]; congr 1; apply UInt8.toNat_inj.1; have : (32 : UInt8).toNat = 32 := rfl; omega)
          have HX3 : Hid (l[e]? = some 32) := Lib.hid (by have := HX2.out; rw [List.getElem?_drop, show j + (e - j) = e by omega] at this; exact this)
          have HS2 : Hid (WdSt S l (L ++ [(l.drop j).take (e - j)]) (e + 1)) := Lib.hid (by
            have hll := HLen.out
            by_cases h2 : e + 1 = s.size
            · exact .inr (.inl ⟨by omega, by omega, by rw [show e + 1 - 1 = e by omega]; exact HX3.out, by simp, HW.out.ends HP.out (by rw [List.length_drop]; omega) (by omega) HX2.out⟩)
            · have h3 := HW.out.next HP.out (by omega) HX2.out (by rw [List.length_drop]; omega)
              rw [List.drop_drop, show j + (e - j + 1) = e + 1 by omega] at h3
              exact .inl ⟨by omega, h3⟩)
          go_wp2_with (at_builtin; refine push_one elem_str rfl _ _ rfl w.heap.size _ n (L.map strV) rfl hrow2 _ rfl rfl (by omega) (by omega) ?_; intro g' c' w3 hown3 hb4)
          go_roundw
          case rel =>
            refine ⟨hb3.trans hb4, e + 1, L ++ [(l.drop j).take (e - j)], some ⟨g', 0, none⟩, n + 1, c', by omega, by go_num, rfl, Lib.hid (by rw [hn.out]; simp), by omega, HS2, ?_⟩
            refine Lib.hid ?_
            rw [List.map_append]
            have ee := strV_of (s.extract j e)
            rw [ext_data, HL.out] at ee
            show w3.ownsRow _ _ 1 _ (n + 1) (L.map strV ++ [strV ((l.drop j).take (e - j))])
            rw [← ee]
            exact hown3
          case measure => simp [intOf]; omega
        · have hes2 : e = s.size := by omega
          have HS2 : Hid (WdSt S l (L ++ [(l.drop j).take (e - j)]) e) := Lib.hid (by
            have hll := HLen.out
            have hr : (l.drop j).length = e - j := by rw [List.length_drop]; omega
            rw [← hr, List.take_length]
            exact .inr (.inr ⟨by omega, HW.out.last (by rw [hr]; exact HP.out) (by intro h; rw [h] at hr; simp at hr; omega), .inr ⟨by omega, HE.out⟩⟩))
          go_wp2_with (at_builtin; refine push_one elem_str rfl _ _ rfl w.heap.size _ n (L.map strV) rfl hrow2 _ rfl rfl (by omega) (by omega) ?_; intro g' c' w3 hown3 hb4)
          go_roundw
          case rel =>
            refine ⟨hb3.trans hb4, e, L ++ [(l.drop j).take (e - j)], some ⟨g', 0, none⟩, n + 1, c', by omega, by go_num, rfl, Lib.hid (by rw [hn.out]; simp), by omega, HS2, ?_⟩
            refine Lib.hid ?_
            rw [List.map_append]
            have ee := strV_of (s.extract j e)
            rw [ext_data, HL.out] at ee
            show w3.ownsRow _ _ 1 _ (n + 1) (L.map strV ++ [strV ((l.drop j).take (e - j))])
            rw [← ee, hes2]
            exact hown3
          case measure => simp [intOf]; omega
    · have HO := Lib.hid hO
      have hjs : j = s.size := by omega
      have hn0 : 0 < n := by rw [hn.out]; exact List.length_pos_iff.2 hL
      have hj0 : 0 < s.size := by omega
      have hl1 : s.size - 1 < s.size := by omega
      have hj1 : IntKind.i64.wrap ((s.size : Int) - 1) = ((s.size - 1 : Nat) : Int) := by rw [IntWalk.i64_in _ (by omega)]; omega
      have hx : s[s.size - 1] = 32 := by
        have h1 := at_data s (s.size - 1) hl1
        rw [HL.out] at h1
        have h2 : l[s.size - 1]? = some 32 := by rw [← hjs]; exact hy
        exact Option.some.inj (h1.symm.trans h2)
      have hw := rword_any s (by omega) s.size (Nat.le_refl _) wr
      rw [List.drop_of_length_le (by rw [HL.out, HLen.out]; exact Nat.le_refl _)] at hw
      have hw : Calls Tryz.prog 131 #[.string s, .int .i64 s.size] wr fun e w' => e = .returned (.int .i64 (s.size : Int)) ∧ wr = w' := hw
      have hqq := rquoted_any s hm s.size (Nat.le_refl _) wr
      rw [HL.out] at hqq
      subst hjs
      clear hy hL hO hl0 hll hjl HS
      go_upto_region 7 with (first | (go_at_call 131; refine hw.mono ?_; rintro e1 w1 ⟨rfl, rfl⟩) | (go_at_call 132; refine hqq.mono ?_; rintro e1 w1 ⟨t, e, ok, rfl, hok, hb1⟩))
      have hb3 : Below w.heap.size w w1 := hb.trans (hb1.mono hbz)
      cases ok
      · go_wp2
        refine bodyPost_ret (v := .tuple #[.slice none 0 0, .int .i64 3]) (by simp [results, Tryz.results75, go_sem]) rfl ?_
        exact ⟨hb3, .inl ⟨rfl, HO.out⟩⟩
      · have h1 := hok rfl
        rw [HLen.out] at h1
        omega
    · have HO := Lib.hid hO
      have hjs : j = s.size := by omega
      have hfin : WdOut S w (.returned (.tuple #[.slice A n c, .int .i64 0])) wr := by
        have h1 := hrow.out
        have h2 := own_cap h1
        rw [hn.out] at h1 h2 ⊢
        exact ⟨hb, .inr ⟨L, A, c, rfl, hO, h2, Strs.of_own h1 (by rw [← hn.out]; omega)⟩⟩
      have HF := Lib.hid hfin
      rcases hq with rfl | ⟨hl0, y, hy, hy32⟩
      · have hn0 : n = 0 := hn.out
        subst hn0
        clear hn hfin hO HS hll hjl
        go_wp2
        refine bodyPost_ret (v := .tuple #[.slice A 0 c, .int .i64 0]) (by simp [results, Tryz.results75, go_sem]) rfl ?_
        exact HF.out
      · have hj0 : 0 < s.size := by omega
        have hl1 : s.size - 1 < s.size := by omega
        have hj1 : IntKind.i64.wrap ((s.size : Int) - 1) = ((s.size - 1 : Nat) : Int) := by rw [IntWalk.i64_in _ (by omega)]; omega
        have hx : s[s.size - 1] = y := by
          have h1 := at_data s (s.size - 1) hl1
          rw [HL.out] at h1
          have h2 : l[s.size - 1]? = some y := by rw [← hjs]; exact hy
          exact Option.some.inj (h1.symm.trans h2)
        have hx2 : ((y.toNat : Int) == 32) = false := beq_eq_false_iff_ne.2 (by intro h; apply hy32; apply UInt8.toNat_inj.1; have : (32 : UInt8).toNat = 32 := rfl; omega)
        subst hjs
        clear hfin hO HS hll hjl hy hy32 hl0
        go_wp2
        all_goals
          refine bodyPost_ret (v := .tuple #[.slice A n c, .int .i64 0]) (by simp [results, Tryz.results75, go_sem]) rfl ?_
          exact HF.out
end Go.Proofs.YtofabhenmplkoaaGreatDoor.txt
