/- The reference's Words and what it calls. -/
import Derived.Test.YtofabhenmplkoaaGreatDoorStrS
import Derived.Test.YtofabhenmplkoaaGreatDoorStrF
import Derived.Laws.BytesArg
namespace Go.Proofs.YtofabhenmplkoaaGreatDoor.txt
open Go.RowKit
open Go.Proofs.YtofabhenmplkoaaGreatDoor.lib Go.Proofs.YtofabhenmplkoaaGreatDoor.app
set_option linter.unusedVariables false
set_option linter.unusedSimpArgs false

set_option maxRecDepth 100000 in
theorem conv_own {w : World} {base n c : Nat} {A : Option Addr} {l : By} (hl : l.length = n) (h : w.ownsRow base 5 1 (.slice A n c) n (u8s l)) : (convert 120 9 (.slice A n c)).run Tryz.prog w = .ok (.string ⟨l.toArray⟩) w := by
  rcases h.2 with ⟨h1, hz⟩ | ⟨g0, cap0, cur, h1, _, hg, hnc, _⟩
  · injection h1 with e1 e2 e3
    subst e1
    have hl0 : l = [] := List.eq_nil_of_length_eq_zero (by omega)
    subst hl0
    exact run_convert_bytes_nil w 120 5 Tryz.underlying120 Tryz.underlying5 n c 9 Tryz.underlying9
  · injection h1 with e1 e2 e3
    subst e1
    exact conv_u8 hl h
set_option maxRecDepth 100000 in
theorem rword_any (s : ByteArray) (hm : s.size ≤ 140737488351232) (k : Nat) (hk : k ≤ s.size) (w : World) : Calls Tryz.prog 131 #[.string s, .int .i64 k] w fun e w' => e = .returned (.int .i64 (k + ((s.data.toList.drop k).takeWhile isW).length : Nat)) ∧ w = w' := by
  obtain ⟨l, hl⟩ : ∃ l, s.data.toList = l := ⟨_, rfl⟩
  have HL := Lib.hid hl
  have HLen : Hid (l.length = s.size) := Lib.hid (by rw [← hl]; simp)
  rw [hl]
  obtain ⟨R, hR⟩ : ∃ R, k + ((l.drop k).takeWhile isW).length = R := ⟨_, rfl⟩
  rw [hR]
  have HR := Lib.hid hR
  clear hR hl
  go_enter Tryz.func131, Tryz.ntmps131
  go_upto_region 1 with fail
  go_loop [1] (fun i => ∃ j : Nat, j ≤ s.size ∧ i = .int .i64 j ∧ Hid (R = j + ((l.drop j).takeWhile isW).length)) (fun i => s.size - (intOf i).toNat)
  case atStart => exact ⟨k, hk, rfl, Lib.hid HR.out.symm⟩
  case round =>
    obtain ⟨j, hj, rfl, hr⟩ := hrel
    clear HR hk
    by_cases hlt : j < s.size
    · obtain ⟨x, hxx⟩ : ∃ x, s[j] = x := ⟨_, rfl⟩
      have hxl : Hid (l[j]? = some x) := Lib.hid (by rw [← HL.out, at_data s j hlt, hxx])
      cases hg : isW x
      · have HF : Hid (j = R) := Lib.hid (by rw [hr.out, drop_at' hxl.out, List.takeWhile_cons, hg]; simp)
        have hno := isW_no hg
        clear hg
        rcases hno with h | h | h
        · go_wp2
          go_ret
          exact ⟨congrArg (fun z : Nat => Ending.returned (.int .i64 (z : Int))) HF.out, rfl⟩
        · have h2 : ¬ (x.toNat : Int) ≤ 32 := by omega
          go_wp2
          go_ret
          exact ⟨congrArg (fun z : Nat => Ending.returned (.int .i64 (z : Int))) HF.out, rfl⟩
        · go_wp2
          go_ret
          exact ⟨congrArg (fun z : Nat => Ending.returned (.int .i64 (z : Int))) HF.out, rfl⟩
      · have HF : Hid (R = (j + 1) + ((l.drop (j + 1)).takeWhile isW).length) := Lib.hid (by rw [hr.out, drop_at' hxl.out, List.takeWhile_cons, hg]; simp; omega)
        obtain ⟨h1, h2, h3⟩ := isW_yes hg
        clear hg
        go_wp2
        go_round
        case rel => exact ⟨j + 1, by omega, by go_num, HF⟩
        case measure => simp [intOf]; omega
    · have HF : Hid (j = R) := Lib.hid (by rw [hr.out, List.drop_of_length_le (by rw [HLen.out]; omega)]; simp)
      go_wp2
      go_ret
      exact ⟨congrArg (fun z : Nat => Ending.returned (.int .i64 (z : Int))) HF.out, rfl⟩
theorem hex_size (a b c d : Nat) (h : b ≤ a + 1) (h' : d ≤ c + 1) : 1 ≤ ((⟨#[92, 120]⟩ : ByteArray) ++ (⟨#[48, 49, 50, 51, 52, 53, 54, 55, 56, 57, 97, 98, 99, 100, 101, 102]⟩ : ByteArray).extract a b ++ (⟨#[48, 49, 50, 51, 52, 53, 54, 55, 56, 57, 97, 98, 99, 100, 101, 102]⟩ : ByteArray).extract c d).size ∧ ((⟨#[92, 120]⟩ : ByteArray) ++ (⟨#[48, 49, 50, 51, 52, 53, 54, 55, 56, 57, 97, 98, 99, 100, 101, 102]⟩ : ByteArray).extract a b ++ (⟨#[48, 49, 50, 51, 52, 53, 54, 55, 56, 57, 97, 98, 99, 100, 101, 102]⟩ : ByteArray).extract c d).size ≤ 4 := by
  rw [ByteArray.size_append, ByteArray.size_append, ByteArray.size_extract, ByteArray.size_extract, show (⟨#[92, 120]⟩ : ByteArray).size = 2 from rfl]
  omega
def FmOut (w : World) (e : Ending) (w' : World) : Prop := ∃ t : ByteArray, e = .returned (.string t) ∧ 1 ≤ t.size ∧ t.size ≤ 4 ∧ Below w.heap.size w w'
set_option maxRecDepth 100000 in
theorem rform_any (c : UInt8) (w : World) : Calls Tryz.prog 214 #[.int .u8 (c.toNat : Int)] w (FmOut w) := by
  have kc := conv_one w (c.toNat : Int) c rfl
  have hc : c.toNat < 256 := c.toNat_lt
  obtain ⟨x, hx⟩ : ∃ x : Int, (c.toNat : Int) = x := ⟨_, rfl⟩
  have hx0 : 0 ≤ x := by omega
  have hx1 : x ≤ 255 := by omega
  rw [hx] at kc ⊢
  clear hx hc
  have hlit : ∀ (t : ByteArray) (w' : World), 1 ≤ t.size → t.size ≤ 4 → Below w.heap.size w w' → FmOut w (.returned (.string t)) w' := fun t w' h1 h2 h3 => ⟨t, rfl, h1, h2, h3⟩
  have HLit := Lib.hid hlit
  clear hlit
  by_cases h1 : x = 34
  · go_enter Tryz.func214, Tryz.ntmps214
    go_wp2
    go_ret
    exact HLit.out _ _ (by decide) (by decide) (Below.refl _ _)
  by_cases h2 : x = 92
  · go_enter Tryz.func214, Tryz.ntmps214
    go_wp2
    go_ret
    exact HLit.out _ _ (by decide) (by decide) (Below.refl _ _)
  by_cases h3 : x = 10
  · go_enter Tryz.func214, Tryz.ntmps214
    go_wp2
    go_ret
    exact HLit.out _ _ (by decide) (by decide) (Below.refl _ _)
  have k1 : (x == 34) = false := beq_eq_false_iff_ne.2 h1
  have k2 : (x == 92) = false := beq_eq_false_iff_ne.2 h2
  have k3 : (x == 10) = false := beq_eq_false_iff_ne.2 h3
  by_cases h4 : x < 32 ∨ 126 < x
  · have a0 : 0 ≤ x / 16 := by omega
    have a1 : x / 16 ≤ 15 := by omega
    have b0 : 0 ≤ x % 16 := by omega
    have b1 : x % 16 ≤ 15 := by omega
    go_enter Tryz.func214, Tryz.ntmps214
    go_upto_region 7 with fail
    go_cut [12] (fun v wx => v = .bool true ∧ w = wx)
    case first =>
      rcases h4 with h4 | h4
      · go_wp2
        go_meet
        exact ⟨rfl, rfl⟩
      · have h5 : ¬ x < 32 := by omega
        go_wp2
        go_meet
        exact ⟨rfl, rfl⟩
    obtain ⟨rfl, rfl⟩ := hcut
    clear h4
    go_upto_region 8 with fail
    go_quiet (fail)
    go_wp2
    go_ret
    obtain ⟨z1, z2⟩ := hex_size (x / 16).toNat (x / 16 + 1).toNat (x % 16).toNat (x % 16 + 1).toNat (by omega) (by omega)
    exact HLit.out _ _ z1 z2 (bel_drewN (Below.refl _ _) _)
  · rw [not_or] at h4
    obtain ⟨h5, h6⟩ := h4
    go_enter Tryz.func214, Tryz.ntmps214
    go_wp2
    go_ret
    exact HLit.out _ _ (Nat.le_refl 1) (show 1 ≤ 4 by omega) ((Below.refl _ _).alloc (Nat.le_refl _) _)
def SsOut (s : ByteArray) (k : Nat) (w : World) (e : Ending) (w' : World) : Prop := ∃ (b : UInt8) (n : Nat) (ok : Bool), e = .returned (.tuple #[.int .u8 (b.toNat : Int), .int .i64 n, .bool ok]) ∧ (ok = true → k < n ∧ n ≤ s.size) ∧ Below w.heap.size w w'
set_option maxRecDepth 100000 in
theorem rstarts_any (s : ByteArray) (hm : s.size ≤ 1000000) (k : Nat) (hk : k ≤ s.size) (w : World) : Calls Tryz.prog 181 #[.string s, .int .i64 k] w (SsOut s k w) := by
  go_enter Tryz.func181, Tryz.ntmps181
  go_upto_region 2 with fail
  go_loopw [7, 8] (fun i _ wr => Below w.heap.size w wr ∧ ∃ j : Nat, j ≤ 256 ∧ i = .int .i64 j) (fun i _ _ => 256 - (intOf i).toNat)
  case atStart => exact ⟨Below.refl _ _, 0, by omega, rfl⟩
  case round =>
    obtain ⟨hb, j, hj, rfl⟩ := hrel
    have hbz := hb.size
    by_cases hlt : j < 256
    · obtain ⟨c, hc⟩ : ∃ c : UInt8, (c.toNat : Int) = j := ⟨UInt8.ofNat j, by rw [UInt8.toNat_ofNat']; omega⟩
      have hf := rform_any c wr
      rw [hc] at hf
      go_upto_region 5 with (go_at_call 214; refine hf.mono ?_; rintro e1 w1 ⟨t, rfl, ht1, ht2, hb1⟩)
      have hb3 := Lib.hid (hb.trans (hb1.mono hbz))
      clear hf hb hb1 hbz
      by_cases hfit : k + t.size ≤ s.size
      · obtain ⟨g, hg⟩ : ∃ g, ((s.extract k (k + t.size)).toList == t.toList) = g := ⟨_, rfl⟩
        cases g
        · go_wp2
          go_roundw
          case rel => exact ⟨hb3.out, j + 1, by omega, by go_num⟩
          case measure => simp [intOf]; omega
        · go_wp2
          refine bodyPost_ret (v := .tuple #[.int .u8 j, .int .i64 ((k : Int) + (t.size : Int)), .bool true]) (by simp [results, Tryz.results181, go_sem]) rfl ?_
          exact ⟨c, k + t.size, true, by rw [hc]; rfl, fun _ => by omega, hb3.out⟩
      · go_wp2
        go_roundw
        case rel => exact ⟨hb3.out, j + 1, by omega, by go_num⟩
        case measure => simp [intOf]; omega
    · go_wp2
      refine bodyPost_ret (v := .tuple #[.int .u8 0, .int .i64 k, .bool false]) (by simp [results, Tryz.results181, go_sem]) rfl ?_
      exact ⟨0, k, false, rfl, fun h => (nomatch h), hb⟩
def QtOut (l : By) (k : Nat) (w : World) (e : Ending) (w' : World) : Prop := ∃ (t : ByteArray) (n : Nat) (ok : Bool), e = .returned (.tuple #[.string t, .int .i64 n, .bool ok]) ∧ (ok = true → k < n ∧ n ≤ l.length ∧ l[n - 1]? = some 34) ∧ Below w.heap.size w w'
theorem byte34 {x : UInt8} (h : (x.toNat : Int) = 34) : x = 34 := by apply UInt8.toNat_inj.1; have : (34 : UInt8).toNat = 34 := rfl; omega
set_option maxRecDepth 100000 in
theorem rquoted_any (s : ByteArray) (hm : s.size ≤ 100000) (k : Nat) (hk : k ≤ s.size) (w : World) : Calls Tryz.prog 132 #[.string s, .int .i64 k] w (QtOut s.data.toList k w) := by
  have hno : ∀ (n : Nat) w', Below w.heap.size w w' → QtOut s.data.toList k w (.returned (.tuple #[.string ⟨#[]⟩, .int .i64 n, .bool false])) w' := fun n w' h => ⟨_, n, false, rfl, fun h => (nomatch h), h⟩
  have HNo := Lib.hid hno
  clear hno
  by_cases hlt : k < s.size
  case neg =>
    go_enter Tryz.func132, Tryz.ntmps132
    go_wp2
    refine bodyPost_ret (v := .tuple #[.string ⟨#[]⟩, .int .i64 k, .bool false]) (by simp [results, Tryz.results132, go_sem]) rfl ?_
    exact HNo.out _ _ (Below.refl _ _)
  obtain ⟨c, hc⟩ : ∃ c, s[k] = c := ⟨_, rfl⟩
  by_cases h34 : (c.toNat : Int) = 34
  case neg =>
    have h34b : ((c.toNat : Int) != 34) = true := by simpa using h34
    go_enter Tryz.func132, Tryz.ntmps132
    go_wp2
    refine bodyPost_ret (v := .tuple #[.string ⟨#[]⟩, .int .i64 k, .bool false]) (by simp [results, Tryz.results132, go_sem]) rfl ?_
    exact HNo.out _ _ (Below.refl _ _)
  have h34b : ((c.toNat : Int) != 34) = false := by simpa using h34
  go_enter Tryz.func132, Tryz.ntmps132
  go_upto_region 5 with fail
  clear hc h34 h34b
  go_loopw [1, 7, 8, 9, 10] (fun i o _ _ _ wr => Below w.heap.size w wr ∧ ∃ (j m c : Nat) (A : Option Addr) (bs : By), k < j ∧ j ≤ s.size ∧ i = .int .i64 j ∧ bs.length = m ∧ m ≤ j ∧ o = .slice A m c ∧ Hid (wr.ownsRow w.heap.size 5 1 (.slice A m c) m (u8s bs))) (fun i _ _ _ _ _ => s.size - (intOf i).toNat)
  case atStart => exact ⟨Below.refl _ _, k + 1, 0, 0, none, [], by omega, by omega, by go_num, rfl, by omega, rfl, Lib.hid (World.ownsRow_nil _ _ _ _)⟩
  case round =>
    obtain ⟨hb, j, m, cp, A, bs, hkj, hj, rfl, hbl, hmj, rfl, hrow⟩ := hrel
    have hbz := hb.size
    by_cases hlt2 : j < s.size
    case neg =>
      go_wp2
      refine bodyPost_ret (v := .tuple #[.string ⟨#[]⟩, .int .i64 j, .bool false]) (by simp [results, Tryz.results132, go_sem]) rfl ?_
      exact HNo.out _ _ hb
    obtain ⟨x, hx⟩ : ∃ x, s[j] = x := ⟨_, rfl⟩
    by_cases hx34 : (x.toNat : Int) = 34
    · have kc := conv_own hbl hrow.out
      have HX : Hid (s.data.toList[j]? = some 34) := Lib.hid (by rw [at_data s j hlt2, hx, byte34 hx34])
      have hx34b : ((x.toNat : Int) != 34) = false := by simpa using hx34
      go_wp2
      refine bodyPost_ret (v := .tuple #[.string ⟨bs.toArray⟩, .int .i64 ((j : Int) + 1), .bool true]) (by simp [results, Tryz.results132, go_sem]) rfl ?_
      exact ⟨_, j + 1, true, rfl, fun _ => ⟨by omega, by rw [← Lib.size_eq]; omega, HX.out⟩, hb⟩
    have hx34b : ((x.toNat : Int) != 34) = true := by simpa using hx34
    go_upto_region 7 with (go_at_call 181; refine (rstarts_any s (by omega) j hj wr).mono ?_; rintro e1 w1 ⟨b, n, ok, rfl, hok, hb1⟩)
    have HOk := Lib.hid hok
    have hrow2 := own_below hrow.out hb1
    have hbz2 := hb1.size
    have hb3 : Below w.heap.size w w1 := hb.trans (hb1.mono hbz)
    clear hrow hb hb1 hok hx hx34 hx34b
    cases ok
    · go_wp2
      refine bodyPost_ret (v := .tuple #[.string ⟨#[]⟩, .int .i64 j, .bool false]) (by simp [results, Tryz.results132, go_sem]) rfl ?_
      exact HNo.out _ _ hb3
    · obtain ⟨hn1, hn2⟩ := HOk.out rfl
      go_wp2_with (at_builtin; refine push_one elem_u8 rfl _ _ rfl w.heap.size _ m (u8s bs) rfl hrow2 _ rfl rfl (by omega) (by omega) ?_; intro g' c' w3 hown3 hb4)
      go_roundw
      case rel => exact ⟨_, _, _, _, _, ⟨hb3.trans hb4, n, by omega, by omega, rfl, m + 1, c', some ⟨g', 0, none⟩, bs ++ [b], by simp [hbl], by omega, rfl, Lib.hid (by unfold u8s; rw [List.map_append]; exact hown3)⟩, rfl, rfl, rfl, rfl, rfl⟩
      case measure => simp [intOf]; omega
end Go.Proofs.YtofabhenmplkoaaGreatDoor.txt
