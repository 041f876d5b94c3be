import Derived.Test.YtceceomaheobhaaDoorRulB
import Derived.Test.YtceceomaheobhaaDoorAppN
import Derived.Test.YtceceomaheobhaaDoorFlts
import Derived.Test.YtceceomaheobhaaDoorNote
import Derived.Lib.AppendZeros
import Derived.Deep.DeepCutAuto
import Derived.Outline
import Derived.OwnWalk
import Derived.Deep.QuietTactic
import Derived.Test.YtceceomaheobhaaDoorInsA
import Derived.Test.YtceceomaheobhaaDoorNetD
import Derived.Test.YtceceomaheobhaaDoorOrdH
import Derived.Test.YtceceomaheobhaaDoorFltG
import Derived.Deep.RegionHeld3
import Derived.Deep.RegionWith
/- rules.Check: the violations of the pairs of an instance. -/
namespace Go.Proofs.YtceceomaheobhaaDoor.rul
open Go.RowKit
open Go.Proofs.YtceceomaheobhaaDoor.lib Go.Proofs.YtceceomaheobhaaDoor.rd Go.Proofs.YtceceomaheobhaaDoor.typ Go.Proofs.YtceceomaheobhaaDoor.app Go.Proofs.YtceceomaheobhaaDoor.flts Go.Proofs.YtceceomaheobhaaDoor.eqg Go.Proofs.YtceceomaheobhaaDoor.txt Go.Proofs.YtceceomaheobhaaDoor.note
set_option linter.unusedVariables false
set_option linter.unusedSimpArgs false

def apartS : ByteArray := ⟨#[97, 112, 97, 114, 116]⟩
def beforeS : ByteArray := ⟨#[98, 101, 102, 111, 114, 101]⟩
def rulesF (orders : Int) (a b : List (Int × Int)) : List Flt := pairsTo orders apartS looseB a a.length ++ pairsTo orders beforeS twoEq b b.length
theorem fcs_one (fs : List Flt) : ∀ u ∈ fcs fs, u.oneCell' = true := fun u hu => by
  unfold fcs at hu
  rw [List.mem_flatMap] at hu
  obtain ⟨f, _, hf⟩ := hu
  simp at hf
  rcases hf with rfl | rfl <;> rfl
theorem fcs_append (a b : List Flt) : fcs (a ++ b) = fcs a ++ fcs b := by simp [fcs]
set_option maxHeartbeats 1000000 in
theorem rcheck_any (orders : Int) (A : Option Addr) (c : Nat) (a : List (Int × Int)) (A' : Option Addr) (c' : Nat) (b : List (Int × Int)) (w : World) (hA : RowAt (rPair rInt rInt) w w.heap.size A a) (hB : RowAt (rPair rInt rInt) w w.heap.size A' b) (ha : a.length ≤ 24) (hb : b.length ≤ 24) (hca : a.length ≤ c) (hcb : b.length ≤ c') :
    Calls Tryd.prog 38 #[.int .i64 orders, .slice A a.length c, .slice A' b.length c'] w (FltsOut w (rulesF orders a b)) := by
  obtain ⟨E, hE⟩ : ∃ E, rulesF orders a b = E := ⟨_, rfl⟩
  obtain ⟨E1, hE1⟩ : ∃ E, pairsTo orders apartS looseB a a.length = E := ⟨_, rfl⟩
  obtain ⟨E2, hE2⟩ : ∃ E, pairsTo orders beforeS twoEq b b.length = E := ⟨_, rfl⟩
  have l1 : E1.length ≤ 25 := by rw [← hE1]; have := pairsTo_len orders apartS looseB a a.length; omega
  have l2 : E2.length ≤ 25 := by rw [← hE2]; have := pairsTo_len orders beforeS twoEq b b.length; omega
  have HE : Hid (E = E1 ++ E2) := Lib.hid (by rw [← hE, ← hE1, ← hE2]; rfl)
  have H1 : Hid (Calls Tryd.prog 52 #[.int .i64 orders, .string ⟨#[97, 112, 97, 114, 116]⟩, .slice A a.length c, .func (.func 53) #[] #[]] w (FltsOut w E1)) := Lib.hid (by rw [← hE1]; exact looseP_any orders apartS (by decide) A c a w hA ha hca)
  have H2 : Hid (∀ w', Below w.heap.size w w' → Calls Tryd.prog 52 #[.int .i64 orders, .string ⟨#[98, 101, 102, 111, 114, 101]⟩, .slice A' b.length c', .func (.func 54) #[] #[]] w' (FltsOut w' E2)) := Lib.hid (fun w' h => by rw [← hE2]; exact exactP_any orders beforeS (by decide) A' c' b w' ((hB.below h).more h.size) hb hcb)
  rw [hE]
  clear hE hE1 hE2 hA hB ha hb hca hcb
  go_enter Tryd.func38, Tryd.ntmps38
  go_wp2_with fail
  refine H1.out.mono ?_
  rintro e w1 ⟨A1, c1, rfl, hown1, hb1⟩
  have HO := Lib.hid hown1
  have z1 := hb1.size
  clear hown1
  go_wp2_with (first
    | (go_at_call 52; refine (H2.out _ hb1).mono ?_; rintro e w2 ⟨A2, c2, rfl, hown2, hb2⟩)
    | (at_builtin; refine wpList_appN fault_elem _ _ rfl w.heap.size (.slice A1 E1.length c1) E1.length (fcs E1) rfl (own_below HO.out hb2) w2.heap.size A2 E2.length c2 (fcs E2) rfl (Reads.of_own hown2) (fcs_one _) (by omega) (by have := hb2.size; omega) rfl ?_; intro A5 c5 w5 hown5 hg5))
  go_ret
  have hEl : E.length = E1.length + E2.length := by rw [HE.out]; simp
  refine ⟨A5, c5, by rw [hEl]; rfl, ?_, ?_⟩
  · unfold Fown
    rw [hEl, HE.out, fcs_append]
    exact hown5
  · have B2 : Below w.heap.size w w2 := hb1.trans (hb2.mono z1)
    exact B2.grown hg5 B2.size (fun q' e => (World.ownsRow.lt (own_below HO.out hb2) _ e).1)
end Go.Proofs.YtceceomaheobhaaDoor.rul

/- slices.Concat of lists of violations. -/
namespace Go.Proofs.YtceceomaheobhaaDoor.cat
open Go.RowKit
open Go.Proofs.YtceceomaheobhaaDoor.lib Go.Proofs.YtceceomaheobhaaDoor.rd Go.Proofs.YtceceomaheobhaaDoor.typ Go.Proofs.YtceceomaheobhaaDoor.app Go.Proofs.YtceceomaheobhaaDoor.flts Go.Proofs.YtceceomaheobhaaDoor.note
set_option linter.unusedVariables false
set_option linter.unusedSimpArgs false

/-- 'append(nil, make([]Fault, n)...)'. -/
theorem wpList_zeros {ops : Array Oper} {rest : List Oper} {o : Oper} {a : Act} {Q : Exit → Act → World → Prop} {w : World} (hgd : o.guard = none) (s x : Operand)
    (ho : o.op = .call { callee := .builtin .append, args := #[s, x], argTypes := #[35, 3] }) (n : Nat) (h0 : 0 < n) (hn : n ≤ 1000000) (hs : a.eval s = .slice none 0 0) (hx : a.eval x = .int .i64 n)
    (h : ∀ c w', n ≤ c → w'.ownsRow w.heap.size 54 2 (.slice (some ⟨w.heap.size, 0, none⟩) 0 c) 0 [] → Below w.heap.size w w' → wpList Tryd.prog ops Q rest (a.put o.dst (.slice (some ⟨w.heap.size, 0, none⟩) n c)) w') : wpList Tryd.prog ops Q (o :: rest) a w := by
  refine wpList_plain hgd fun _ hK => ?_
  obtain ⟨i0, hi, hz0, hz1, hz2⟩ := info_parts fault_elem.info
  have hr := Lib.run_append_nil_zeros (P := Tryd.prog) w 35 3 o.type 54 i0 (.agg #[.int .i64 0, .string ⟨#[]⟩]) .i64 .i64 Tryd.underlying35 Tryd.underlying3 hi hz0 n h0 (by omega) (by omega) (by rw [hz2]; omega)
  unfold Oper.wp execOp
  simp only [ho, resolve, invoke, builtin, Sem.run_bind, Sem.run_pure, Result.andThen_ok, List.map_toArray, List.map_cons, List.map_nil, hs, hx, hr]
  have hge := grownCap_ge w n 0 54
  refine hK _ _ (h _ _ hge ⟨rfl, .inr ⟨w.heap.size, grownCap w n 0 54, _, rfl, Nat.le_refl _, World.alloc_heap_new w.drew _, Nat.zero_le _, grownCap_le_maxLen w n 0 _ (by unfold maxLen; omega), ?_, by simp⟩⟩ ?_)
  · rw [Array.size_append, size_zeroCells, size_zeroCells]
    simp [Value.cells]
    omega
  · exact ((Below.refl _ _).drew).alloc (Nat.le_refl _) _
def GrowOut (w : World) (e : Ending) (w' : World) : Prop := ∃ A c, e = .returned (.slice A 0 c) ∧ w'.ownsRow w.heap.size 54 2 (.slice A 0 c) 0 [] ∧ Below w.heap.size w w'
theorem grow_any (n : Nat) (hn : n ≤ 1000000) (w : World) : Calls Tryd.prog 44 #[.slice none 0 0, .int .i64 n] w (GrowOut w) := by
  have h0 : (0 : Int) ≤ n := by omega
  by_cases h : 0 < n
  · have h1 : (0 : Int) < n := by omega
    go_enter Tryd.func44, Tryd.ntmps44
    go_wp2_with (at_builtin; refine wpList_zeros rfl _ _ rfl n h hn rfl rfl ?_; intro c1 w1 hc1 hown1 hb1)
    go_ret
    exact ⟨some ⟨w.heap.size, 0, none⟩, c1, rfl, hown1, hb1⟩
  · have h1 : ¬ (0 : Int) < n := by omega
    go_enter Tryd.func44, Tryd.ntmps44
    go_wp2
    go_ret
    exact ⟨none, 0, rfl, World.ownsRow_nil _ _ _ _, Below.refl _ _⟩

/-- Lists of violations in memory. -/
def FRows (w : World) (B : Nat) (A : Option Addr) (fss : List (List Flt)) : Prop :=
  ∀ (i : Nat) fs, fss[i]? = some fs → ∃ ad Ai ci, A = some ad ∧ ad.block < B ∧ w.cell? (ad.add i) = some (.slice Ai fs.length ci) ∧ Reads w B 2 Ai fs.length (fcs fs)
theorem FRows.below {w w' : World} {B : Nat} {A : Option Addr} {fss : List (List Flt)} (h : FRows w B A fss) (hb : Below B w w') : FRows w' B A fss := fun i fs hi => by
  obtain ⟨ad, Ai, ci, h1, h2, h3, h4⟩ := h i fs hi
  exact ⟨ad, Ai, ci, h1, h2, (hb.cell (by rw [block_of_add]; exact h2)).trans h3, h4.below hb⟩
def catL (fss : List (List Flt)) (k : Nat) : List Flt := (fss.take k).flatten
theorem catL_succ {fss : List (List Flt)} {k : Nat} {fs : List Flt} (h : fss[k]? = some fs) : catL fss (k + 1) = catL fss k ++ fs := by
  obtain ⟨h1, h2⟩ := List.getElem?_eq_some_iff.1 h
  unfold catL
  rw [List.take_succ_eq_append_getElem h1, h2, List.flatten_append]
  simp
theorem catL_le (fss : List (List Flt)) (k : Nat) : (catL fss k).length ≤ (catL fss fss.length).length := by
  have h : catL fss fss.length = (fss.take k).flatten ++ (fss.drop k).flatten := by unfold catL; rw [← List.flatten_append, List.take_append_drop, List.take_length]
  rw [h, List.length_append]
  exact Nat.le_add_right _ _
theorem catL_all (fss : List (List Flt)) : catL fss fss.length = fss.flatten := by unfold catL; rw [List.take_length]
theorem fcs_one (fs : List Flt) : ∀ u ∈ fcs fs, u.oneCell' = true := fun u hu => by
  unfold fcs at hu
  rw [List.mem_flatMap] at hu
  obtain ⟨f, _, hf⟩ := hu
  simp at hf
  rcases hf with rfl | rfl <;> rfl
theorem fcs_append (a b : List Flt) : fcs (a ++ b) = fcs a ++ fcs b := by simp [fcs]
set_option maxRecDepth 20000 in
set_option maxHeartbeats 1000000 in
theorem concat_any (A : Option Addr) (c : Nat) (fss : List (List Flt)) (w : World) (hL : FRows w w.heap.size A fss) (hn : fss.length ≤ 1000) (ht : (catL fss fss.length).length ≤ 1000000) :
    Calls Tryd.prog 32 #[.slice A fss.length c] w (FltsOut w (catL fss fss.length)) := by
  obtain ⟨n, hn'⟩ : ∃ n, fss.length = n := ⟨_, rfl⟩
  have HN := Lib.hid hn'
  have HTL : Hid (∀ k, (catL fss k).length ≤ 1000000) := Lib.hid fun k => Nat.le_trans (catL_le fss k) ht
  rw [hn'] at hn ⊢
  clear hn' ht
  go_enter Tryd.func32, Tryd.ntmps32
  go_wp2
  go_loopw [3, 11] (fun v i wr => ∃ k : Nat, k ≤ n ∧ i = .int .i64 k ∧ v = .int .i64 (catL fss k).length ∧ Below w.heap.size w wr) (fun _ i _ => n - (intOf i).toNat)
  case atStart => exact ⟨0, by omega, rfl, rfl, Below.refl _ _⟩
  case round =>
    obtain ⟨k, hk, rfl, rfl, hb0⟩ := hrel
    have hlk := HTL.out k
    by_cases hlt : k < n
    · obtain ⟨fs, hfs⟩ : ∃ fs, fss[k]? = some fs := ⟨_, List.getElem?_eq_getElem (by rw [HN.out]; exact hlt)⟩
      obtain ⟨ad, Ai, ci, rfl, hadb, hc, _⟩ := hL.below hb0 k fs hfs
      have hk0 : (0 : Int) ≤ (k : Int) := by omega
      have hkn : (k : Int) < (n : Int) := by omega
      have hl1 := HTL.out (k + 1)
      have HT : Hid ((catL fss (k + 1)).length = (catL fss k).length + fs.length) := Lib.hid (by rw [catL_succ hfs, List.length_append])
      rw [catL_succ hfs, List.length_append] at hl1
      obtain ⟨q, hq⟩ : ∃ q, (catL fss k).length = q := ⟨_, rfl⟩
      rw [hq] at HT hlk hl1
      simp only [hq]
      have h3 : ¬ ((q : Int) + (fs.length : Int) < 0) := by omega
      clear hfs hq
      go_wp2
      go_roundw
      case rel => exact ⟨k + 1, by omega, by go_num, by rw [HT.out]; go_num, hb0⟩
      case measure => simp [intOf]; omega
    · have hkn : n = k := by omega
      subst hkn
      go_wp2_with (go_at_call 44; refine (grow_any _ hlk _).mono ?_; rintro e w1 ⟨A1, c1, rfl, hown1, hb1⟩)
      have hown1' := own_less hown1 hb0.size
      have hb1' : Below w.heap.size w w1 := hb0.trans (hb1.mono hb0.size)
      clear hown1 hb1
      go_loopw [6, 27] (fun v i wr => ∃ (k : Nat) (A2 : Option Addr) (c2 : Nat), k ≤ n ∧ i = .int .i64 k ∧ v = .slice A2 (catL fss k).length c2 ∧ wr.ownsRow w.heap.size 54 2 (.slice A2 (catL fss k).length c2) (catL fss k).length (fcs (catL fss k)) ∧ Below w.heap.size w wr) (fun _ i _ => n - (intOf i).toNat)
      case atStart => exact ⟨0, A1, c1, by omega, rfl, rfl, hown1', hb1'⟩
      case round =>
        clear hown1' hb1'
        obtain ⟨k, A2, c2, hk2, rfl, rfl, hown, hb⟩ := hrel
        have zb := hb.size
        have hlk2 := HTL.out k
        by_cases hlt2 : k < n
        · obtain ⟨fs, hfs⟩ : ∃ fs, fss[k]? = some fs := ⟨_, List.getElem?_eq_getElem (by rw [HN.out]; exact hlt2)⟩
          obtain ⟨ad, Ai, ci, rfl, hadb, hc, hr⟩ := hL.below hb k fs hfs
          have hk0 : (0 : Int) ≤ (k : Int) := by omega
          have hkn : (k : Int) < (n : Int) := by omega
          have hl1 := HTL.out (k + 1)
          have HT : Hid (catL fss (k + 1) = catL fss k ++ fs) := Lib.hid (catL_succ hfs)
          rw [HT.out, List.length_append] at hl1
          obtain ⟨q, hq⟩ : ∃ q, catL fss k = q := ⟨_, rfl⟩
          rw [hq] at HT hlk2 hl1 hown
          simp only [hq]
          have HR := Lib.hid hr
          have HO := Lib.hid hown
          clear hfs hq hr hown
          go_wp2_with (at_builtin; refine wpList_appN fault_elem _ _ rfl w.heap.size (.slice A2 q.length c2) q.length (fcs q) rfl HO.out w.heap.size Ai fs.length ci (fcs fs) rfl HR.out (fcs_one _) (by omega) zb rfl ?_; intro A5 c5 w5 hown5 hg5)
          go_roundw
          case rel => exact ⟨k + 1, A5, c5, by omega, by go_num, by rw [HT.out, List.length_append]; first | done | rfl, by rw [HT.out, List.length_append, fcs_append]; exact hown5, hb.grown hg5 zb (fun q' e => (World.ownsRow.lt HO.out _ e).1)⟩
          case measure => simp [intOf]; omega
        · have hkn : n = k := by omega
          subst hkn
          go_wp2
          go_ret
          exact ⟨A2, c2, rfl, hown, hb⟩
end Go.Proofs.YtceceomaheobhaaDoor.cat

/- Violations with a word ahead of their places: under. -/
namespace Go.Proofs.YtceceomaheobhaaDoor.und
open Go.RowKit
open Go.Proofs.YtceceomaheobhaaDoor.lib Go.Proofs.YtceceomaheobhaaDoor.rd Go.Proofs.YtceceomaheobhaaDoor.typ Go.Proofs.YtceceomaheobhaaDoor.app Go.Proofs.YtceceomaheobhaaDoor.flts Go.Proofs.YtceceomaheobhaaDoor.note
set_option linter.unusedVariables false
set_option linter.unusedSimpArgs false

def undP (word : ByteArray) (f : Flt) : Flt := ⟨f.err, if f.at_.toList.isEmpty = true then word else word ++ (⟨#[32]⟩ ++ f.at_)⟩
def undL (word : ByteArray) (fs : List Flt) : List Flt := fs.map (undP word)
theorem undL_take {word : ByteArray} {fs : List Flt} {k : Nat} {f : Flt} (h : fs[k]? = some f) : undL word (fs.take (k + 1)) = undL word (fs.take k) ++ [undP word f] := by
  obtain ⟨h1, h2⟩ := List.getElem?_eq_some_iff.1 h
  unfold undL
  rw [List.take_succ_eq_append_getElem h1, h2, List.map_append]
  rfl
set_option maxRecDepth 20000 in
set_option maxHeartbeats 4000000 in
theorem under_any (word : ByteArray) (A : Option Addr) (c : Nat) (fs : List Flt) (w : World) (hL : RowAt rFlt w w.heap.size A fs) (hl : fs.length ≤ 1000000) (hws : word.size ≤ 1000000) (hfs : ∀ f ∈ fs, f.at_.size ≤ 1000000) :
    Calls Tryd.prog 33 #[.string word, .slice A fs.length c] w (FltsOut w (undL word fs)) := by
  obtain ⟨n, hn⟩ : ∃ n, fs.length = n := ⟨_, rfl⟩
  have HN := Lib.hid hn
  rw [hn] at hl ⊢
  clear hn
  obtain ⟨i0, hi, hz0, hz1, hz2⟩ := info_parts fault_elem.info
  have HI := Lib.hid (And.intro hi (And.intro hz0 (And.intro hz1 hz2)))
  clear hi hz0 hz1 hz2
  go_enter Tryd.func33, Tryd.ntmps33
  go_wp2_with (at_make; refine wpList_make_own _ rfl _ _ 35 rfl w.heap.size 54 i0 (.agg #[.int .i64 0, .string ⟨#[]⟩]) 2 Tryd.underlying35 HI.out.1 HI.out.2.1 HI.out.2.2.1 .i64 .i64 n n rfl rfl rfl (by rw [HI.out.2.2.2]; omega) (by unfold maxLen; omega) (Nat.le_refl _) ?_; intro w1 hown1 hg1; have hb1 : Below w.heap.size w w1 := (Below.refl _ _).grown hg1 (Nat.le_refl _) (by intro k hk; cases hk))
  go_loopw [5, 7, 8, 14] (fun v _ _ i wr => ∃ (k : Nat) (A2 : Option Addr) (c2 : Nat), k ≤ n ∧ i = .int .i64 k ∧ v = .slice A2 k c2 ∧ wr.ownsRow w.heap.size 54 2 (.slice A2 k c2) k (fcs (undL word (fs.take k))) ∧ Below w.heap.size w wr) (fun _ _ _ i _ => n - (intOf i).toNat)
  case atStart => exact ⟨0, _, _, by omega, rfl, rfl, hown1, hb1⟩
  case round =>
    obtain ⟨k, A2, c2, hk, rfl, rfl, hown, hb⟩ := hrel
    have hz := hb.size
    by_cases hlt : k < n
    · obtain ⟨f, hf⟩ : ∃ f, fs[k]? = some f := ⟨_, List.getElem?_eq_getElem (by rw [HN.out]; exact hlt)⟩
      obtain ⟨ad, rfl, hadb, ⟨m0, m1⟩, _⟩ := row_Flt (hL.below hb) hf
      have hk0 : (0 : Int) ≤ (k : Int) := by omega
      have hkn : (k : Int) < (n : Int) := by omega
      have HT := Lib.hid (undL_take (word := word) hf)
      have HP : Hid (undP word f = ⟨f.err, if f.at_.toList.isEmpty = true then word else word ++ (⟨#[32]⟩ ++ f.at_)⟩) := Lib.hid rfl
      have hsz := hfs f (List.mem_of_getElem? hf)
      clear hf
      have s1 : ¬ 9223372036854775807 < 1 + f.at_.size := by omega
      have s2 : ¬ 9223372036854775807 < word.size + (1 + f.at_.size) := by omega
      obtain ⟨q, hq⟩ : ∃ q, f.at_.toList.isEmpty = q := ⟨_, rfl⟩
      rw [hq] at HP
      cases q
      · have HE : Hid (undL word (fs.take (k + 1)) = undL word (fs.take k) ++ [⟨f.err, word ++ (⟨#[32]⟩ ++ f.at_)⟩]) := Lib.hid (by rw [HT.out, HP.out]; rfl)
        go_wp2_with (at_builtin; refine wpList_app fault_elem _ _ rfl w.heap.size A2 k c2 (fcs (undL word (fs.take k))) rfl ((hown.alloc _).alloc _) ⟨wr.heap.size + 1, 0, none⟩ 1 [.int .i64 f.err, .string (word ++ (⟨#[32]⟩ ++ f.at_))] rfl rfl (fun j u hu => by have h := two_new (wr.alloc (.cells #[.int .i64 f.err, .string f.at_] 54)) (.int .i64 f.err) (.string (word ++ (⟨#[32]⟩ ++ f.at_))) 54 j u hu; rw [World.size_alloc] at h; exact h) (by simp [Value.oneCell']) (by omega) (by simp; omega) rfl ?_; intro g3 c3 w3 hown3 hg3 hd3)
        go_roundw
        case rel => exact ⟨k + 1, some ⟨g3, 0, none⟩, c3, by omega, by go_num, rfl, by rw [HE.out, fcs_snoc]; exact hown3, ((hb.alloc hz _).alloc (by simp; omega) _).grown hg3 (by simp; omega) (fun q e => (World.ownsRow.lt hown q e).1)⟩
        case measure => simp [intOf]; omega
      · have HE : Hid (undL word (fs.take (k + 1)) = undL word (fs.take k) ++ [⟨f.err, word⟩]) := Lib.hid (by rw [HT.out, HP.out]; rfl)
        go_wp2_with (at_builtin; refine wpList_app fault_elem _ _ rfl w.heap.size A2 k c2 (fcs (undL word (fs.take k))) rfl ((hown.alloc _).alloc _) ⟨wr.heap.size + 1, 0, none⟩ 1 [.int .i64 f.err, .string (word)] rfl rfl (fun j u hu => by have h := two_new (wr.alloc (.cells #[.int .i64 f.err, .string f.at_] 54)) (.int .i64 f.err) (.string (word)) 54 j u hu; rw [World.size_alloc] at h; exact h) (by simp [Value.oneCell']) (by omega) (by simp; omega) rfl ?_; intro g3 c3 w3 hown3 hg3 hd3)
        go_roundw
        case rel => exact ⟨k + 1, some ⟨g3, 0, none⟩, c3, by omega, by go_num, rfl, by rw [HE.out, fcs_snoc]; exact hown3, ((hb.alloc hz _).alloc (by simp; omega) _).grown hg3 (by simp; omega) (fun q e => (World.ownsRow.lt hown q e).1)⟩
        case measure => simp [intOf]; omega
    · have hkn : k = n := by omega
      subst hkn
      have HE : Hid (fs.take k = fs) := Lib.hid (List.take_of_length_le (by rw [HN.out]; exact Nat.le_refl _))
      have HU : Hid ((undL word fs).length = k) := Lib.hid (by unfold undL; rw [List.length_map]; exact HN.out)
      go_wp2
      go_ret
      rw [HE.out] at hown
      exact ⟨A2, c2, by rw [HU.out]; rfl, by unfold Fown; rw [HU.out]; exact hown, hb⟩
end Go.Proofs.YtceceomaheobhaaDoor.und

/- instance.Check: the violations of an instance. -/
namespace Go.Proofs.YtceceomaheobhaaDoor.ins
open Go.RowKit
open Go.Proofs.YtceceomaheobhaaDoor.lib Go.Proofs.YtceceomaheobhaaDoor.rd Go.Proofs.YtceceomaheobhaaDoor.typ Go.Proofs.YtceceomaheobhaaDoor.app Go.Proofs.YtceceomaheobhaaDoor.flts Go.Proofs.YtceceomaheobhaaDoor.note Go.Proofs.YtceceomaheobhaaDoor.txt Go.Proofs.YtceceomaheobhaaDoor.und Go.Proofs.YtceceomaheobhaaDoor.cat Go.Proofs.YtceceomaheobhaaDoor.rul Go.Proofs.YtceceomaheobhaaDoor.net
set_option linter.unusedVariables false
set_option linter.unusedSimpArgs false

/-- Violations of a common size. -/
def OkE (E : List Int) : Prop := ∀ e ∈ E, -100 ≤ e ∧ e ≤ 100
def OkF (fs : List Flt) : Prop := ∀ f ∈ fs, (-100 ≤ f.err ∧ f.err ≤ 100) ∧ f.at_.size ≤ 1000
theorem OkE.nil : OkE [] := fun e h => by cases h
theorem OkE.push {xs : List Int} {r : Bool} {u : Int} (h : OkE xs) (hu : -100 ≤ u ∧ u ≤ 100) : OkE (pushIf xs r u) := fun e he => by
  rcases pushIf_mem he with h1 | rfl
  · exact h e h1
  · exact hu
theorem OkE.append {xs ys : List Int} (h : OkE xs) (h' : OkE ys) : OkE (xs ++ ys) := fun e he => by
  rcases List.mem_append.1 he with h1 | h1
  · exact h e h1
  · exact h' e h1
theorem OkF.nil : OkF [] := fun e h => by cases h
theorem OkF.append {xs ys : List Flt} (h : OkF xs) (h' : OkF ys) : OkF (xs ++ ys) := fun e he => by
  rcases List.mem_append.1 he with h1 | h1
  · exact h e h1
  · exact h' e h1
theorem OkF.one {e : Int} {s : ByteArray} (h : -100 ≤ e ∧ e ≤ 100) (hs : s.size ≤ 1000) : OkF [⟨e, s⟩] := fun f hf => by
  rw [List.mem_singleton] at hf
  subst hf
  exact ⟨h, hs⟩
theorem OkF.of {E : List Int} {s : ByteArray} (h : OkE E) (hs : s.size ≤ 1000) : OkF (E.map fun e => ⟨e, s⟩) := fun f hf => by
  obtain ⟨e, he, rfl⟩ := List.mem_map.1 hf
  exact ⟨h e he, hs⟩
theorem OkF.fits {fs : List Flt} (h : OkF fs) : ∀ f ∈ fs, FltFits f := fun f hf => by
  obtain ⟨⟨h1, h2⟩, h3⟩ := h f hf
  unfold FltFits
  omega
theorem dec_sz (n : Nat) : (decS n).size ≤ 1000 := Nat.le_trans (decS_size n) (by decide)
theorem OkF.mk {i : Nat} {E : List Int} (h : OkE E) : OkF (mkF i E) := OkF.of h (dec_sz i)
theorem tvTo_ok (l : List Pt) : ∀ j, OkF (trv.tvTo l j)
  | 0 => by
    unfold trv.tvTo
    split
    · exact OkF.one (by decide) (by decide)
    · exact OkF.nil
  | j + 1 => by
    rw [trv.tvTo]
    refine (tvTo_ok l j).append ?_
    unfold trv.tvAt
    split
    · unfold trv.tvP
      refine OkF.append ?_ ?_
      all_goals
        split
        · exact OkF.one (by decide) (dec_sz j)
        · exact OkF.nil
    · exact OkF.nil
theorem slTo_ok (l : List Pt) : ∀ j, OkE (slTo l j)
  | 0 => by
    unfold slTo
    split
    · intro e he; simp at he; omega
    · exact OkE.nil
  | j + 1 => by
    rw [slTo]
    refine (slTo_ok l j).append ?_
    unfold slAt
    split
    · unfold slP
      split
      · intro e he; simp at he; omega
      · exact OkE.nil
    · exact OkE.nil
theorem arcE_ok (P : Int) (ks : List (Int × Int × Int)) (x : Arc) : OkE (arcE P ks x) := by
  unfold arcE
  refine ((((OkE.nil.push ?_).push ?_).push ?_).append ?_).append (slTo_ok _ _)
  · decide
  · decide
  · decide
  · intro e he
    obtain ⟨f, hf, rfl⟩ := List.mem_map.1 he
    exact (tvTo_ok _ _ f hf).1
theorem plc_sz (i : Nat) : (plcS i).size ≤ 1000 := by
  have := decS_size i
  unfold plcS
  rw [ByteArray.size_append]
  exact Nat.le_trans (Nat.add_le_add_left this _) (by decide)
theorem arc_sz (i : Nat) : (arcS i).size ≤ 1000 := by
  have := decS_size i
  unfold arcS
  rw [ByteArray.size_append]
  exact Nat.le_trans (Nat.add_le_add_left this _) (by decide)
theorem plTo_ok (l : List ByteArray) : ∀ j, OkF (plTo l j)
  | 0 => by
    unfold plTo
    split
    · exact OkF.one (by decide) (by decide)
    · exact OkF.nil
  | j + 1 => by
    rw [plTo]
    refine (plTo_ok l j).append ?_
    unfold plAt
    split
    · unfold plP
      split
      · split
        · exact OkF.one (by decide) (plc_sz j)
        · exact OkF.nil
      · exact OkF.one (by decide) (plc_sz j)
    · exact OkF.nil
theorem netTo_ok (n : Net) : ∀ j, OkF (netTo n j)
  | 0 => by
    unfold netTo
    refine (plTo_ok _ _).append ?_
    split
    · exact OkF.one (by decide) (by decide)
    · exact OkF.nil
  | j + 1 => by
    rw [netTo]
    refine (netTo_ok n j).append ?_
    unfold arAt
    split
    · exact OkF.of (arcE_ok _ _ _) (arc_sz j)
    · exact OkF.nil
theorem fltsTo_ok (P : Int) (l : List Ty) : ∀ j, OkF (flt.fltsTo P l j)
  | 0 => by
    unfold flt.fltsTo
    split
    · exact OkF.nil
    · exact OkF.one (by decide) (by decide)
  | j + 1 => by
    rw [flt.fltsTo]
    refine (fltsTo_ok P l j).append ?_
    unfold flt.fltsAt
    split
    · refine OkF.mk (i := j) ?_
      unfold flt.errsL
      repeat (refine OkE.push ?_ (by decide))
      exact OkE.nil
    · exact OkF.nil
theorem ofltsTo_ok (P dims types : Int) (l : List Ord) : ∀ j, OkF (ord.ofltsTo P dims types l j)
  | 0 => by
    unfold ord.ofltsTo
    split
    · exact OkF.nil
    · exact OkF.one (by decide) (by decide)
  | j + 1 => by
    rw [ord.ofltsTo]
    refine (ofltsTo_ok P dims types l j).append ?_
    unfold ord.ofltsAt
    split
    · refine OkF.mk (i := j) ?_
      unfold ord.errsO
      repeat (refine OkE.push ?_ (by decide))
      exact OkE.nil
    · exact OkF.nil
theorem at_sz (word : ByteArray) (hw : word.size ≤ 900) (i : Nat) : (atS word i).size ≤ 1000 := by
  have := decS_size i
  unfold atS
  rw [ByteArray.size_append, ByteArray.size_append]
  have h1 : (⟨#[32]⟩ : ByteArray).size = 1 := rfl
  omega
theorem pairsTo_ok (orders : Int) (word : ByteArray) (hw : word.size ≤ 900) (same : Int × Int → Int × Int → Bool) (l : List (Int × Int)) : ∀ j, OkF (pairsTo orders word same l j)
  | 0 => by
    unfold pairsTo
    split
    · exact OkF.nil
    · exact OkF.one (by decide) (by omega)
  | j + 1 => by
    rw [pairsTo]
    refine (pairsTo_ok orders word hw same l j).append ?_
    unfold pairAt
    split
    · unfold pairP
      split
      · exact OkF.one (by decide) (at_sz word hw j)
      · split
        · exact OkF.one (by decide) (at_sz word hw j)
        · exact OkF.nil
    · exact OkF.nil
theorem rulesF_ok (orders : Int) (a b : List (Int × Int)) : OkF (rulesF orders a b) := (pairsTo_ok _ _ (by decide) _ _ _).append (pairsTo_ok _ _ (by decide) _ _ _)

def netS : ByteArray := ⟨#[110, 101, 116]⟩
def typesS : ByteArray := ⟨#[116, 121, 112, 101, 115]⟩
def ordersS : ByteArray := ⟨#[111, 114, 100, 101, 114, 115]⟩
def rulesS : ByteArray := ⟨#[114, 117, 108, 101, 115]⟩
/-- The violations of an instance. -/
def insN (x : Ins) : List Flt := netTo x.net x.net.arcs.length
def insT (x : Ins) : List Flt := flt.fltsTo ((x.net.places.length : Int) - 1) x.types x.types.length
def insO (x : Ins) : List Flt := ord.ofltsTo ((x.net.places.length : Int) - 1) (flt.dimsN x.types) x.types.length x.orders x.orders.length
def insR (x : Ins) : List Flt := rulesF x.orders.length x.apart x.before
def insF (x : Ins) : List Flt := catL [undL netS (insN x), undL typesS (insT x), undL ordersS (insO x), undL rulesS (insR x)] 4
end Go.Proofs.YtceceomaheobhaaDoor.ins
