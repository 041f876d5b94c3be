/- slices.Concat of lists of violations. -/
import Derived.Test.YtceceomaheobhaaGreatDoorBase
import Derived.Lib.AppendZeros
import Derived.Deep.DeepCutAuto
import Derived.Outline
namespace Go.Proofs.YtceceomaheobhaaGreatDoor.cat
open Go.RowKit
open Go.Proofs.YtceceomaheobhaaGreatDoor.lib Go.Proofs.YtceceomaheobhaaGreatDoor.rd Go.Proofs.YtceceomaheobhaaGreatDoor.typ Go.Proofs.YtceceomaheobhaaGreatDoor.app Go.Proofs.YtceceomaheobhaaGreatDoor.flts Go.Proofs.YtceceomaheobhaaGreatDoor.note
set_option linter.unusedVariables false
set_option linter.unusedSimpArgs false

/-- 'append(nil, make([]Fault, n)...)'. -/
theorem wpList_zeros {ops : Array Oper} {rest : List Oper} {o : Oper} {a : Act} {Q : Exit → Act → World → Prop} {w : World} (hgd : o.guard = none) (s x : Operand)
    (ho : o.op = .call { callee := .builtin .append, args := #[s, x], argTypes := #[33, 3] }) (n : Nat) (h0 : 0 < n) (hn : n ≤ 1000000) (hs : a.eval s = .slice none 0 0) (hx : a.eval x = .int .i64 n)
    (h : ∀ c w', n ≤ c → w'.ownsRow w.heap.size 37 2 (.slice (some ⟨w.heap.size, 0, none⟩) 0 c) 0 [] → Below w.heap.size w w' → wpList Tryz.prog ops Q rest (a.put o.dst (.slice (some ⟨w.heap.size, 0, none⟩) n c)) w') : wpList Tryz.prog ops Q (o :: rest) a w := by
  refine wpList_plain hgd fun _ hK => ?_
  obtain ⟨i0, hi, hz0, hz1, hz2⟩ := info_parts fault_elem.info
  have hr := Lib.run_append_nil_zeros (P := Tryz.prog) w 33 3 o.type 37 i0 (.agg #[.int .i64 0, .string ⟨#[]⟩]) .i64 .i64 Tryz.underlying33 Tryz.underlying3 hi hz0 n h0 (by omega) (by omega) (by rw [hz2]; omega)
  unfold Oper.wp execOp
  simp only [ho, resolve, invoke, builtin, Sem.run_bind, Sem.run_pure, Result.andThen_ok, List.map_toArray, List.map_cons, List.map_nil, hs, hx, hr]
  have hge := grownCap_ge w n 0 37
  refine hK _ _ (h _ _ hge ⟨rfl, .inr ⟨w.heap.size, grownCap w n 0 37, _, rfl, Nat.le_refl _, World.alloc_heap_new w.drew _, Nat.zero_le _, grownCap_le_maxLen w n 0 _ (by unfold maxLen; omega), ?_, by simp⟩⟩ ?_)
  · rw [Array.size_append, size_zeroCells, size_zeroCells]
    simp [Value.cells]
    omega
  · exact ((Below.refl _ _).drew).alloc (Nat.le_refl _) _
def GrowOut (w : World) (e : Ending) (w' : World) : Prop := ∃ A c, e = .returned (.slice A 0 c) ∧ w'.ownsRow w.heap.size 37 2 (.slice A 0 c) 0 [] ∧ Below w.heap.size w w'
theorem grow_any (n : Nat) (hn : n ≤ 1000000) (w : World) : Calls Tryz.prog 60 #[.slice none 0 0, .int .i64 n] w (GrowOut w) := by
  have h0 : (0 : Int) ≤ n := by omega
  by_cases h : 0 < n
  · have h1 : (0 : Int) < n := by omega
    go_enter Tryz.func60, Tryz.ntmps60
    go_wp2_with (at_builtin; refine wpList_zeros rfl _ _ rfl n h hn rfl rfl ?_; intro c1 w1 hc1 hown1 hb1)
    go_ret
    exact ⟨some ⟨w.heap.size, 0, none⟩, c1, rfl, hown1, hb1⟩
  · have h1 : ¬ (0 : Int) < n := by omega
    go_enter Tryz.func60, Tryz.ntmps60
    go_wp2
    go_ret
    exact ⟨none, 0, rfl, World.ownsRow_nil _ _ _ _, Below.refl _ _⟩

/-- Lists of violations in memory. -/
def FRows (w : World) (B : Nat) (A : Option Addr) (fss : List (List Flt)) : Prop :=
  ∀ (i : Nat) fs, fss[i]? = some fs → ∃ ad Ai ci, A = some ad ∧ ad.block < B ∧ w.cell? (ad.add i) = some (.slice Ai fs.length ci) ∧ Reads w B 2 Ai fs.length (fcs fs)
theorem FRows.below {w w' : World} {B : Nat} {A : Option Addr} {fss : List (List Flt)} (h : FRows w B A fss) (hb : Below B w w') : FRows w' B A fss := fun i fs hi => by
  obtain ⟨ad, Ai, ci, h1, h2, h3, h4⟩ := h i fs hi
  exact ⟨ad, Ai, ci, h1, h2, (hb.cell (by rw [block_of_add]; exact h2)).trans h3, h4.below hb⟩
def catL (fss : List (List Flt)) (k : Nat) : List Flt := (fss.take k).flatten
theorem catL_succ {fss : List (List Flt)} {k : Nat} {fs : List Flt} (h : fss[k]? = some fs) : catL fss (k + 1) = catL fss k ++ fs := by
  obtain ⟨h1, h2⟩ := List.getElem?_eq_some_iff.1 h
  unfold catL
  rw [List.take_succ_eq_append_getElem h1, h2, List.flatten_append]
  simp
theorem catL_le (fss : List (List Flt)) (k : Nat) : (catL fss k).length ≤ (catL fss fss.length).length := by
  have h : catL fss fss.length = (fss.take k).flatten ++ (fss.drop k).flatten := by unfold catL; rw [← List.flatten_append, List.take_append_drop, List.take_length]
  rw [h, List.length_append]
  exact Nat.le_add_right _ _
theorem catL_all (fss : List (List Flt)) : catL fss fss.length = fss.flatten := by unfold catL; rw [List.take_length]
theorem fcs_one (fs : List Flt) : ∀ u ∈ fcs fs, u.oneCell' = true := fun u hu => by
  unfold fcs at hu
  rw [List.mem_flatMap] at hu
  obtain ⟨f, _, hf⟩ := hu
  simp at hf
  rcases hf with rfl | rfl <;> rfl
theorem fcs_append (a b : List Flt) : fcs (a ++ b) = fcs a ++ fcs b := by simp [fcs]
set_option maxRecDepth 20000 in
set_option maxHeartbeats 1000000 in
theorem concat_any (A : Option Addr) (c : Nat) (fss : List (List Flt)) (w : World) (hL : FRows w w.heap.size A fss) (hn : fss.length ≤ 1000) (ht : (catL fss fss.length).length ≤ 1000000) :
    Calls Tryz.prog 22 #[.slice A fss.length c] w (FltsOut w (catL fss fss.length)) := by
  obtain ⟨n, hn'⟩ : ∃ n, fss.length = n := ⟨_, rfl⟩
  have HN := Lib.hid hn'
  have HTL : Hid (∀ k, (catL fss k).length ≤ 1000000) := Lib.hid fun k => Nat.le_trans (catL_le fss k) ht
  rw [hn'] at hn ⊢
  clear hn' ht
  go_enter Tryz.func22, Tryz.ntmps22
  go_wp2
  go_loopw [3, 11] (fun v i wr => ∃ k : Nat, k ≤ n ∧ i = .int .i64 k ∧ v = .int .i64 (catL fss k).length ∧ Below w.heap.size w wr) (fun _ i _ => n - (intOf i).toNat)
  case atStart => exact ⟨0, by omega, rfl, rfl, Below.refl _ _⟩
  case round =>
    obtain ⟨k, hk, rfl, rfl, hb0⟩ := hrel
    have hlk := HTL.out k
    by_cases hlt : k < n
    · obtain ⟨fs, hfs⟩ : ∃ fs, fss[k]? = some fs := ⟨_, List.getElem?_eq_getElem (by rw [HN.out]; exact hlt)⟩
      obtain ⟨ad, Ai, ci, rfl, hadb, hc, _⟩ := hL.below hb0 k fs hfs
      have hk0 : (0 : Int) ≤ (k : Int) := by omega
      have hkn : (k : Int) < (n : Int) := by omega
      have hl1 := HTL.out (k + 1)
      have HT : Hid ((catL fss (k + 1)).length = (catL fss k).length + fs.length) := Lib.hid (by rw [catL_succ hfs, List.length_append])
      rw [catL_succ hfs, List.length_append] at hl1
      obtain ⟨q, hq⟩ : ∃ q, (catL fss k).length = q := ⟨_, rfl⟩
      rw [hq] at HT hlk hl1
      simp only [hq]
      have h3 : ¬ ((q : Int) + (fs.length : Int) < 0) := by omega
      clear hfs hq
      go_wp2
      go_roundw
      case rel => exact ⟨k + 1, by omega, by go_num, by rw [HT.out]; go_num, hb0⟩
      case measure => simp [intOf]; omega
    · have hkn : n = k := by omega
      subst hkn
      go_wp2_with (go_at_call 60; refine (grow_any _ hlk _).mono ?_; rintro e w1 ⟨A1, c1, rfl, hown1, hb1⟩)
      have hown1' := own_less hown1 hb0.size
      have hb1' : Below w.heap.size w w1 := hb0.trans (hb1.mono hb0.size)
      clear hown1 hb1
      go_loopw [6, 27] (fun v i wr => ∃ (k : Nat) (A2 : Option Addr) (c2 : Nat), k ≤ n ∧ i = .int .i64 k ∧ v = .slice A2 (catL fss k).length c2 ∧ wr.ownsRow w.heap.size 37 2 (.slice A2 (catL fss k).length c2) (catL fss k).length (fcs (catL fss k)) ∧ Below w.heap.size w wr) (fun _ i _ => n - (intOf i).toNat)
      case atStart => exact ⟨0, A1, c1, by omega, rfl, rfl, hown1', hb1'⟩
      case round =>
        clear hown1' hb1'
        obtain ⟨k, A2, c2, hk2, rfl, rfl, hown, hb⟩ := hrel
        have zb := hb.size
        have hlk2 := HTL.out k
        by_cases hlt2 : k < n
        · obtain ⟨fs, hfs⟩ : ∃ fs, fss[k]? = some fs := ⟨_, List.getElem?_eq_getElem (by rw [HN.out]; exact hlt2)⟩
          obtain ⟨ad, Ai, ci, rfl, hadb, hc, hr⟩ := hL.below hb k fs hfs
          have hk0 : (0 : Int) ≤ (k : Int) := by omega
          have hkn : (k : Int) < (n : Int) := by omega
          have hl1 := HTL.out (k + 1)
          have HT : Hid (catL fss (k + 1) = catL fss k ++ fs) := Lib.hid (catL_succ hfs)
          rw [HT.out, List.length_append] at hl1
          obtain ⟨q, hq⟩ : ∃ q, catL fss k = q := ⟨_, rfl⟩
          rw [hq] at HT hlk2 hl1 hown
          simp only [hq]
          have HR := Lib.hid hr
          have HO := Lib.hid hown
          clear hfs hq hr hown
          go_wp2_with (at_builtin; refine wpList_appN fault_elem _ _ rfl w.heap.size (.slice A2 q.length c2) q.length (fcs q) rfl HO.out w.heap.size Ai fs.length ci (fcs fs) rfl HR.out (fcs_one _) (by omega) zb rfl ?_; intro A5 c5 w5 hown5 hg5)
          go_roundw
          case rel => exact ⟨k + 1, A5, c5, by omega, by go_num, by rw [HT.out, List.length_append]; first | done | rfl, by rw [HT.out, List.length_append, fcs_append]; exact hown5, hb.grown hg5 zb (fun q' e => (World.ownsRow.lt HO.out _ e).1)⟩
          case measure => simp [intOf]; omega
        · have hkn : n = k := by omega
          subst hkn
          go_wp2
          go_ret
          exact ⟨A2, c2, rfl, hown, hb⟩
end Go.Proofs.YtceceomaheobhaaGreatDoor.cat
