import Derived.Test.YthcmopgdjibojaaGreatDoorSmpC
import Derived.Test.YthcmopgdjibojaaGreatDoorLnrX
import Derived.Laws.CopyOwn
/- simplex: slices of numbers made and copied; costs. -/
namespace Go.Proofs.YthcmopgdjibojaaGreatDoor.smp
open Go.RowKit
open Go.Proofs.YthcmopgdjibojaaGreatDoor.lib Go.Proofs.YthcmopgdjibojaaGreatDoor.app Go.Proofs.YthcmopgdjibojaaGreatDoor.nt Go.Proofs.YthcmopgdjibojaaGreatDoor.rd Go.Proofs.YthcmopgdjibojaaGreatDoor.wh Go.Proofs.YthcmopgdjibojaaGreatDoor.smx Go.Proofs.YthcmopgdjibojaaGreatDoor.rat
set_option linter.unusedVariables false
set_option linter.unusedSimpArgs false

theorem rat_elem : ElemOf 31 32 (.string ⟨#[]⟩) 1 16 := ⟨Tryz.underlying31, by kernel_rfl, rfl, by decide, by decide⟩
theorem adz (q j : Nat) : (⟨q, 0, none⟩ : Addr).add j = ⟨q, j, none⟩ := by
  unfold Addr.add
  by_cases h : j = 0
  · subst h; rfl
  · simp [h]
theorem Arr.of_own {w : World} {base n c g : Nat} {e : TypeId} {xs : List Value} (h : w.ownsRow base e 1 (.slice (some ⟨g, 0, none⟩) n c) n xs) : Arr w g n (fun i => xs[i]?.getD undef) := by
  rcases h.2 with ⟨h1, _⟩ | ⟨g', cap, cur, h1, h2, h3, h4, h5, h6, h7⟩
  · cases h1
  · injection h1 with h1 h8 h9
    injection h1 with h1
    injection h1 with h1
    subst h1
    refine ⟨cur, e, h3, fun i hi => ?_⟩
    rw [Nat.mul_one] at h7
    have hs : i < cur.size := by rw [h6]; omega
    subst h7
    show cur[i]? = some ((List.take n cur.toList)[i]?.getD undef)
    rw [List.getElem?_take, if_pos hi, Array.getElem?_toList, Array.getElem?_eq_getElem hs]
    rfl
/-- make([]Rat, n) -/
theorem make_rats {ops : Array Oper} {rest : List Oper} {o : Oper} {a : Act} {Q : Exit → Act → World → Prop} {w : World} (hg : o.guard = none) (l c : Operand) (hop : o.op = Op.makeSlice 31 l c)
    (n : Nat) (hl : a.eval l = .int .i64 n) (hc : a.eval c = .int .i64 n) (hn : n < 17592186044)
    (h : ∀ w', Arr w' w.heap.size n (fun _ => .string ⟨#[]⟩) → Below w.heap.size w w' → wpList Tryz.prog ops Q rest (a.put o.dst (.slice (some ⟨w.heap.size, 0, none⟩) n n)) w') :
    wpList Tryz.prog ops Q (o :: rest) a w := by
  obtain ⟨i0, hi, hz0, hz1, hz2⟩ := info_parts rat_elem.info
  refine wpList_make_full w hg l c 31 hop w.heap.size 32 i0 (.string ⟨#[]⟩) 1 Tryz.underlying31 hi hz0 hz1 .i64 .i64 n n n hl hc rfl rfl (by rw [hz2]; omega) (by unfold maxLen; omega) (Nat.le_refl _) ?_
  intro w' hown hg'
  refine h w' ?_ ((Below.refl _ _).grown hg' (Nat.le_refl _) (by intro k hk; cases hk))
  have e : (madeCells (Value.string ⟨#[]⟩).cells (n * 1)).toList = List.replicate n (Value.string ⟨#[]⟩) := by
    rw [Nat.mul_one]
    exact toList_madeCells_one (.string ⟨#[]⟩) n
  rw [e] at hown
  exact (Arr.of_own hown).congr fun i hi => by rw [List.getElem?_replicate, if_pos hi]; rfl
/-- copy of a slice of numbers to the front of another. -/
theorem copy_rats (w : World) (ty : TypeId) (g q L cd cs : Nat) (f : Nat → Value) (c : Nat → Rat) (hA : Arr w g (L + 1) f) (hq : Arr w q L (vec c)) :
    ∃ w', (Builtin.copy_ #[31, 31] ty #[.slice (some ⟨g, 0, none⟩) (L + 1) cd, .slice (some ⟨q, 0, none⟩) L cs]).run Tryz.prog w = .ok (.int .i64 L) w' ∧ Arr w' g (L + 1) (fun i => if i < L then vec c i else f i) ∧ Kp (fun k => k ≠ g) w w' := by
  obtain ⟨cur, t, h1, h2⟩ := hA
  have hlen : ((List.range L).map (vec c)).length = L := by simp
  have hsz : L < cur.size := (Array.getElem?_eq_some_iff.1 (h2 L (by omega))).1
  have hrun := run_copy_row (P := Tryz.prog) w 31 31 ty 32 g 0 (L + 1) cd ⟨q, 0, none⟩ L cs cur t ((List.range L).map (vec c)) Tryz.underlying31 (by kernel_rfl) h1 (by rw [hlen]; exact (Nat.min_eq_left (by omega)).symm) (by
    intro j v hj
    have hjl : j < L := by have := (List.getElem?_eq_some_iff.1 hj).1; simpa using this
    rw [List.getElem?_map, List.getElem?_range hjl] at hj
    injection hj with hj
    rw [← hj, adz]
    exact hq.cell hjl) (by rw [hlen]; omega) (by
    intro v hv
    obtain ⟨i, _, rfl⟩ := List.mem_map.1 hv
    rfl)
  rw [hlen] at hrun
  refine ⟨_, hrun, ⟨_, t, setRow_heap w g _ _ _ _ h1, fun i hi => ?_⟩, ⟨rfl, rfl, rfl, by simp [World.setRow], fun k _ hk => setRow_other w g k _ hk⟩⟩
  simp only [Nat.zero_add, List.take_zero, List.nil_append, List.getElem?_toArray]
  by_cases hiL : i < L
  · rw [if_pos hiL, List.getElem?_append_left (by rw [hlen]; exact hiL), List.getElem?_map, List.getElem?_range hiL]; rfl
  · rw [if_neg hiL, List.getElem?_append_right (by rw [hlen]; omega), hlen, List.getElem?_drop, Array.getElem?_toList, show L + (i - L) = i by omega]
    exact h2 i hi
end Go.Proofs.YthcmopgdjibojaaGreatDoor.smp
