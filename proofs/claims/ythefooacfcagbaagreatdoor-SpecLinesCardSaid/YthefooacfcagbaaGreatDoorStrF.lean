/- text.Words of the program. -/
import Derived.Test.YthefooacfcagbaaGreatDoorStrE
namespace Go.Proofs.YthefooacfcagbaaGreatDoor.txt
open Go.RowKit
open Go.Proofs.YthefooacfcagbaaGreatDoor.lib Go.Proofs.YthefooacfcagbaaGreatDoor.app
set_option linter.unusedVariables false

/-- A text, as a value. -/
def strV (b : By) : Value := .string ⟨b.toArray⟩
theorem strV_of (s : ByteArray) : Value.string s = strV s.data.toList := by unfold strV; rw [Lib.mk_data]
/-- A slice of texts that reads as L. -/
def Strs (w : World) (B : Nat) (A : Option Addr) (L : List By) : Prop := Reads w B 1 A L.length (L.map strV) ∧ L.length ≤ 1000000
theorem Strs.at_ {w : World} {B : Nat} {A : Option Addr} {L : List By} (h : Strs w B A L) {k : Nat} (hk : k < L.length) : ∃ ad x, A = some ad ∧ ad.block < B ∧ L[k]? = some x ∧ w.cell? (ad.add k) = some (.string ⟨x.toArray⟩) := by
  obtain ⟨ad, u, hA, hb, hx, hc⟩ := h.1.at_ hk
  rw [List.getElem?_map, List.getElem?_eq_getElem hk] at hx
  injection hx with hx
  subst hx
  exact ⟨ad, L[k], hA, hb, List.getElem?_eq_getElem hk, hc⟩
theorem Strs.below {w w' : World} {B : Nat} {A : Option Addr} {L : List By} (h : Strs w B A L) (hb : Below B w w') : Strs w' B A L := ⟨h.1.below hb, h.2⟩
theorem Strs.more {w : World} {B B' : Nat} {A : Option Addr} {L : List By} (h : Strs w B A L) (hB : B ≤ B') : Strs w B' A L := ⟨h.1.more hB, h.2⟩
theorem Strs.nil {w : World} {B : Nat} : Strs w B none [] := ⟨Reads.none_, by simp⟩
theorem Strs.of_own {w : World} {base c : Nat} {A : Option Addr} {L : List By} (h : w.ownsRow base 9 1 (.slice A L.length c) L.length (L.map strV)) (hl : L.length ≤ 1000000) : Strs w w.heap.size A L := ⟨Reads.of_own h, hl⟩
theorem own_cap {w : World} {base : Nat} {e : TypeId} {size n c : Nat} {A : Option Addr} {xs : List Value} (h : w.ownsRow base e size (.slice A n c) n xs) : n ≤ c := by
  rcases h.2 with ⟨h1, hz⟩ | ⟨g0, cap0, cur, h1, _, hg, hnc, _⟩
  · omega
  · injection h1 with e1 e2 e3
    omega
/-- What Words answers. -/
def WdOut (s : By) (w : World) (e : Ending) (w' : World) : Prop := Below w.heap.size w w' ∧
  ((e = .returned (.tuple #[.slice none 0 0, .int .i64 3]) ∧ WordsOk s none) ∨ ∃ (L : List By) (A : Option Addr) (c : Nat), e = .returned (.tuple #[.slice A L.length c, .int .i64 0]) ∧ WordsOk s (some L) ∧ L.length ≤ c ∧ Strs w' w'.heap.size A L)
set_option maxRecDepth 100000 in
theorem words_any (s : ByteArray) (hm : s.size ≤ 100000) (w : World) : Calls Tryz.prog 61 #[.string s] w (WdOut s.data.toList w) := by
  obtain ⟨S, hS⟩ : ∃ S, s.data.toList = S := ⟨_, rfl⟩
  have H0 : Hid (WInv S [] s.data.toList) := Lib.hid (by rw [hS]; exact WInv.start S)
  have hE0 : Hid (s.data.toList = S) := Lib.hid hS
  rw [hS]
  clear hS
  go_enter Tryz.func61, Tryz.ntmps61
  go_upto_region 2 with fail
  go_loopw [0, 4] (fun sv ov wr => Below w.heap.size w wr ∧ ∃ (r : ByteArray) (L : List By) (A : Option Addr) (n c : Nat), sv = .string r ∧ ov = .slice A n c ∧ Hid (n = L.length) ∧ n + r.size ≤ 100000 ∧ Hid (WInv S L r.data.toList) ∧ Hid (L ≠ [] → r.size ≠ 0) ∧ Hid (wr.ownsRow w.heap.size 9 1 (.slice A n c) n (L.map strV))) (fun sv _ _ => match sv with | .string r => r.size | _ => 0)
  case atStart => exact ⟨Below.refl _ _, s, [], none, 0, 0, rfl, rfl, Lib.hid rfl, by simpa using hm, H0, Lib.hid (fun h => absurd rfl h), Lib.hid (World.ownsRow_nil _ _ _ _)⟩
  case round =>
    obtain ⟨hb, r, L, A, n, c, rfl, rfl, hn, hl, HW, HN, hrow⟩ := hrel
    have hbz := hb.size
    have hn1 : n ≤ 100000 := by omega
    clear H0 hE0
    by_cases hz : r.size = 0
    · have hE : r.toList = [] := by rw [toList_data]; apply List.eq_nil_of_length_eq_zero; simpa using hz
      have hL : L = [] := by by_cases h : L = []; exact h; exact absurd hz (HN.out h)
      subst hL
      have hn0 : n = 0 := hn.out
      subst hn0
      clear hn
      have HO : Hid (WordsOk S (some [])) := Lib.hid (by
        have hp := HW.out.pre
        rw [← toList_data, hE] at hp
        rw [show S = [] from hp]
        exact WordsOk.nil)
      go_wp2
      refine bodyPost_ret (v := .tuple #[.slice A 0 c, .int .i64 0]) (by simp [results, Tryz.results61, go_sem]) rfl ?_
      exact ⟨hb, .inr ⟨[], A, c, rfl, HO.out, Nat.zero_le _, Strs.of_own hrow.out (by simp)⟩⟩
    have hE : ¬ r.toList = [] := by rw [toList_data]; intro e; have := congrArg List.length e; rw [← size_list (toList_data r)] at this; exact hz this
    have hE2 : r.toList.isEmpty = false := by rw [List.isEmpty_eq_false_iff]; exact hE
    have hrz : 0 < r.size := by omega
    go_upto_region 4 with (go_at_call 97; refine (part_any _ (by omega) hrz _).mono ?_; rintro e w2 ⟨k, rfl, hp, hb2⟩)
    have HP := Lib.hid hp
    have hk : k ≤ r.size := by have := hp.1; simpa using this
    have hrow2 := own_below hrow.out hb2
    have hbz2 := hb2.size
    have hb3 : Below w.heap.size w w2 := hb.trans (hb2.mono hbz)
    clear hp hrow hb hb2
    by_cases hk0 : k = 0
    · subst hk0
      have HO : Hid (WordsOk S none) := Lib.hid (HW.out.none_ HP.out)
      clear HW HN HP hrow2
      go_wp2
      refine bodyPost_ret (v := .tuple #[.slice none 0 0, .int .i64 3]) (by simp [results, Tryz.results61, go_sem]) rfl ?_
      exact ⟨hb3, .inl ⟨rfl, HO.out⟩⟩
    have hk1 : ¬ (k : Int) = 0 := by omega
    by_cases hke : k = r.size
    · have HO : Hid (WordsOk S (some (L ++ [r.data.toList]))) := Lib.hid (by
        refine HW.out.last ?_ ?_
        · have h := HP.out
          rw [hke] at h
          have e : r.size = r.data.toList.length := by simp
          rw [← e]; exact h
        · rw [← toList_data]; exact hE)
      have hke1 : (k : Int) = (r.size : Int) := by omega
      clear HW HN HP hke
      go_wp2_with (at_builtin; refine push_one elem_str rfl _ _ rfl w.heap.size _ n (L.map strV) rfl hrow2 _ rfl rfl (by omega) (by omega) ?_; intro g' c' w3 hown3 hb4)
      refine bodyPost_ret (v := .tuple #[.slice (some ⟨g', 0, none⟩) (n + 1) c', .int .i64 0]) (by simp [results, Tryz.results61, go_sem]) rfl ?_
      refine ⟨hb3.trans hb4, .inr ⟨L ++ [r.data.toList], some ⟨g', 0, none⟩, c', by rw [hn.out]; simp, HO.out, by have := own_cap hown3; rw [List.length_append, ← hn.out]; exact this, ?_⟩⟩
      refine Strs.of_own (base := w.heap.size) (c := c') ?_ (by rw [List.length_append, ← hn.out, List.length_singleton]; omega)
      rw [List.map_append, List.length_append, ← hn.out]
      show w3.ownsRow _ _ 1 (.slice _ (n + 1) c') (n + 1) (L.map strV ++ [strV r.data.toList])
      rw [← strV_of]
      exact hown3
    have hk2 : k < r.size := by omega
    have hke1 : ¬ (k : Int) = (r.size : Int) := by omega
    obtain ⟨x, hx⟩ : ∃ x, r[k] = x := ⟨_, rfl⟩
    have hxl : Hid (r.data.toList[k]? = some x) := Lib.hid (by rw [at_data r k hk2, hx])
    by_cases hx32 : (x.toNat : Int) = 32
    case neg =>
      have hx32b : ((x.toNat : Int) != 32) = true := by simpa using hx32
      have HO : Hid (WordsOk S none) := Lib.hid (HW.out.bad HP.out hxl.out (by intro e; apply hx32; rw [e]; rfl))
      clear HW HN HP hrow2 hxl
      go_wp2
      refine bodyPost_ret (v := .tuple #[.slice none 0 0, .int .i64 3]) (by simp [results, Tryz.results61, go_sem]) rfl ?_
      exact ⟨hb3, .inl ⟨rfl, HO.out⟩⟩
    have hx32b : ((x.toNat : Int) != 32) = false := by simpa using hx32
    have hxe : x = 32 := by apply UInt8.toNat_inj.1; have : (32 : UInt8).toNat = 32 := rfl; omega
    have hlen : r.data.toList.length = r.size := by simp
    by_cases hke2 : k + 1 = r.size
    · have HO : Hid (WordsOk S none) := Lib.hid (HW.out.ends HP.out (by rw [hlen]; exact hke2) hk0 (by rw [hxl.out, hxe]))
      have hke3 : (k : Int) + 1 = (r.size : Int) := by omega
      clear HW HN HP hrow2 hxl hxe hlen
      go_wp2
      refine bodyPost_ret (v := .tuple #[.slice none 0 0, .int .i64 3]) (by simp [results, Tryz.results61, go_sem]) rfl ?_
      exact ⟨hb3, .inl ⟨rfl, HO.out⟩⟩
    · have HW2 : Hid (WInv S (L ++ [r.data.toList.take k]) (r.data.toList.drop (k + 1))) := Lib.hid (HW.out.next HP.out hk0 (by rw [hxl.out, hxe]) (by rw [hlen]; exact hke2))
      have hke3 : ¬ (k : Int) + 1 = (r.size : Int) := by omega
      clear HW HN HP hxl hxe hlen
      go_wp2_with (at_builtin; refine push_one elem_str rfl _ _ rfl w.heap.size _ n (L.map strV) rfl hrow2 _ rfl rfl (by omega) (by omega) ?_; intro g' c' w3 hown3 hb4)
      go_roundw
      case rel =>
        refine ⟨hb3.trans hb4, r.extract (k + 1) r.size, L ++ [r.data.toList.take k], some ⟨g', 0, none⟩, n + 1, c', rfl, rfl, Lib.hid (by rw [hn.out]; simp), ?_, ?_, ?_, ?_⟩
        · rw [ByteArray.size_extract]; omega
        · rw [ext_data r (k + 1) r.size, List.take_of_length_le (l := r.data.toList.drop (k + 1)) (by rw [List.length_drop, ← Lib.size_eq]; exact Nat.le_refl _)]; exact HW2
        · exact Lib.hid (fun _ => by rw [ByteArray.size_extract]; omega)
        · refine Lib.hid ?_
          rw [List.map_append]
          have e := strV_of (r.extract 0 k)
          rw [ext_data, List.drop_zero, Nat.sub_zero] at e
          show w3.ownsRow _ _ 1 _ (n + 1) (L.map strV ++ [strV (r.data.toList.take k)])
          rw [← e]
          exact hown3
      case measure => simp; omega
end Go.Proofs.YthefooacfcagbaaGreatDoor.txt
