/- Bulk: what a reading that is small says of what is read. Portable (seats that have the second form). -/
import Derived.Test.YtamhjodppdodfaaGreatDoorBase
import Derived.Test.YtamhjodppdodfaaGreatDoorRows
namespace Go.Proofs.YtamhjodppdodfaaGreatDoor.rd
open Go.RowKit Go.ChangeShapes Go.WideShapes Go.ChangeAt Go.Deep
open Go.Proofs.YtamhjodppdodfaaGreatDoor.lib
set_option linter.unusedVariables false

theorem bulk_pos {H : Type} (d : DataW H) : 1 ≤ Rows.uptoBulk d := by
  cases d with
  | lit l => cases l <;> simp [Rows.uptoBulk]
  | nil => simp [Rows.uptoBulk]
  | ptr d => simp [Rows.uptoBulk]
  | slice elems spare => simp [Rows.uptoBulk]
  | agg parts => simp [Rows.uptoBulk]
  | iface t d => simp [Rows.uptoBulk]
  | map entries => simp [Rows.uptoBulk]
  | held h => simp [Rows.uptoBulk]
theorem bulk_cons {H : Type} (d : DataW H) (l : List (DataW H)) : Rows.uptoBulkAll (d :: l) = Rows.uptoBulk d + Rows.uptoBulkAll l := by simp [Rows.uptoBulkAll]
theorem bulk_part {H : Type} {d : DataW H} {l : List (DataW H)} (h : d ∈ l) : Rows.uptoBulk d ≤ Rows.uptoBulkAll l := by
  induction l with
  | nil => cases h
  | cons x r ih =>
    rw [bulk_cons]
    cases List.mem_cons.1 h with
    | inl e => subst e; omega
    | inr e => have := ih e; omega
theorem bulk_sum {X H : Type} {μ : X → Nat} {D : Nat → DataW H} : ∀ (l : List X) (k : Nat), (∀ (i : Nat) x, l[i]? = some x → μ x ≤ Rows.uptoBulk (D (k + i))) → (l.map μ).sum ≤ Rows.uptoBulkAll ((List.range' k l.length).map D)
  | [], k, _ => by simp
  | x :: l, k, h => by
    have h0 := h 0 x rfl
    have ih := bulk_sum (D := D) l (k + 1) (fun i y hy => by
      have := h (i + 1) y hy
      rw [show k + (i + 1) = k + 1 + i by omega] at this
      exact this)
    rw [List.map_cons, List.sum_cons, List.length_cons, List.range'_succ, List.map_cons, bulk_cons]
    rw [Nat.add_zero] at h0
    omega
theorem bulk_len {H : Type} (l : List (DataW H)) : l.length ≤ Rows.uptoBulkAll l := by
  induction l with
  | nil => simp
  | cons x r ih => have := bulk_pos x; rw [bulk_cons, List.length_cons]; omega
/-- As Opens, with a measure below the bulk. -/
def OpensB {X : Type} (t : TypeId) (r : Rd X) (μ : X → Nat) : Prop :=
  ∀ (H : Type) (enc : TypeId × Value → H) (W : World) (fuel : Nat) (cs : List Value) (y : DataW H × List MemPlace),
    DataW.trod enc Tryz.prog W 0 (fun _ => true) true fuel t cs = some y → (∀ n ∈ y.1.weights Tryz.prog t, n ≤ reachBytes) → ∃ x, r.at_ W W.heap.size cs x ∧ μ x ≤ Rows.uptoBulk y.1
theorem opensB_of {X : Type} {t : TypeId} {r : Rd X} (h : Opens t r) : OpensB t r (fun _ => 0) := fun H enc W fuel cs y h1 h2 => by
  obtain ⟨x, hx⟩ := h H enc W fuel cs y h1 h2
  exact ⟨x, hx, Nat.zero_le _⟩
theorem opensB_str {t : TypeId} (ht : Tryz.prog.underlying t = some .string) : OpensB t rStr (fun s => s.size) := fun H enc W fuel cs y h hw => by
  obtain ⟨s, rfl, rfl, hm⟩ := DataW.trod_string ht h
  refine ⟨s, ⟨rfl, ?_⟩, ?_⟩
  · have := hw s.data.toList.length (by simp [DataW.weights])
    simp only [reachBytes, Array.length_toList] at this
    have e : s.size = s.data.size := rfl
    omega
  · have e : s.size = s.data.toList.length := by simp
    simp [Rows.uptoBulk]
theorem opensB_slice {X : Type} {t e : TypeId} {r : Rd X} {μ : X → Nat} (ht : Tryz.prog.underlying t = some (.slice e)) (hC : Tryz.prog.cellsOf e = r.size) (hz : 0 < r.size) (h8 : 8 ≤ Tryz.prog.bytesOf e) (hr : OpensB e r μ) : OpensB t (rSlice r) (fun l => max l.length (l.map μ).sum) := fun H enc W fuel cs y h hw => by
  rcases open_slice ht h with ⟨rfl, rfl⟩ | ⟨a, len, cap, m, n, D, Pl, rfl, hb, hl, hm, hmm, rfl, hi⟩
  · exact ⟨[], ⟨none, 0, rfl, RowAt.nil⟩, by simp⟩
  · simp only [if_true] at hmm
    subst hmm
    have hlen : len ≤ 17592186043904 := by
      have h1 := hw ((((List.range len).map D).length + ((List.range (m - len)).map fun j => D (len + j)).length) * Tryz.prog.bytesOf e) (by simp [DataW.weights, ht])
      simp only [List.length_map, List.length_range, reachBytes] at h1
      have h2 : (len + (m - len)) * 8 ≤ (len + (m - len)) * Tryz.prog.bytesOf e := Nat.mul_le_mul_left _ h8
      omega
    obtain ⟨l, hll, hlp⟩ := choose_list (n := len) (p := fun i x => (∃ cs', W.cells? 0 (a.add (i * Tryz.prog.cellsOf e)) (Tryz.prog.cellsOf e) = some cs' ∧ r.at_ W W.heap.size cs' x) ∧ μ x ≤ Rows.uptoBulk (D i)) fun i hil => by
      obtain ⟨cs', h1, h2⟩ := hi i (by omega)
      obtain ⟨x, hx, hμ⟩ := hr H enc W n cs' _ h2 (fun k hk => hw k (by
        simp only [DataW.weights, ht]
        exact List.mem_cons_of_mem _ (List.mem_append_left _ (weights_all (List.mem_map.2 ⟨i, List.mem_range.2 hil, rfl⟩) k hk))))
      exact ⟨x, ⟨cs', h1, hx⟩, hμ⟩
    subst hll
    refine ⟨l, ⟨some a, _, rfl, hlen, fun i x hix => ?_⟩, ?_⟩
    · obtain ⟨⟨cs', h1, h2⟩, _⟩ := hlp i x hix
      obtain ⟨_, h4, h5⟩ := World.cells?_some h1
      rw [hC] at h4 h5
      have hcell : ∀ (j : Nat) (u : Value), cs'[j]? = some u → W.cell? (a.add (i * r.size + j)) = some u := fun j u hu => by
        have hj : j < r.size := by rw [← h4]; exact (List.getElem?_eq_some_iff.1 hu).1
        rw [← add_of_add]
        exact (h5 j hj).trans hu
      refine ⟨a, cs', rfl, ?_, h2, hcell⟩
      have hpos : 0 < l.length := Nat.lt_of_le_of_lt (Nat.zero_le i) (List.getElem?_eq_some_iff.1 hix).1
      have hu : cs'[0]? = some (cs'[0]'(by omega)) := List.getElem?_eq_getElem (by omega)
      have h6 := Go.block_lt_of_cell (hcell 0 _ hu)
      rwa [block_of_add] at h6
    · have h3 := bulk_sum (μ := μ) (D := D) l 0 (fun i x hx => by rw [Nat.zero_add]; exact (hlp i x hx).2)
      rw [← List.range_eq_range'] at h3
      have h4 := bulk_len ((List.range l.length).map D)
      rw [List.length_map, List.length_range] at h4
      have h5 : Rows.uptoBulk (DataW.slice ((List.range l.length).map D) ((List.range (m - l.length)).map fun j => D (l.length + j))) = Rows.uptoBulkAll ((List.range l.length).map D) + Rows.uptoBulkAll ((List.range (m - l.length)).map fun j => D (l.length + j)) + 1 := by simp [Rows.uptoBulk]
      show max l.length (l.map μ).sum ≤ _
      rw [h5]
      omega
theorem opensB_sliceC {X : Type} {t e : TypeId} {r : Rd X} {μ : X → Nat} (ht : Tryz.prog.underlying t = some (.slice e)) (hC : Tryz.prog.cellsOf e = r.size) (hz : 0 < r.size) (h8 : 8 ≤ Tryz.prog.bytesOf e) (hr : OpensB e r μ) : OpensB t (rSliceC r) (fun l => max l.length (l.map μ).sum) := fun H enc W fuel cs y h hw => by
  obtain ⟨l, ⟨A, c, rfl, hl⟩, hb⟩ := opensB_slice ht hC hz h8 hr H enc W fuel cs y h hw
  refine ⟨l, ⟨A, c, rfl, hl, ?_⟩, hb⟩
  rcases open_slice ht h with ⟨hcs, _⟩ | ⟨a, len, cap, m, n, D, Pl, hcs, _, hle, _⟩
  · simp at hcs
    obtain ⟨_, h2, h3⟩ := hcs
    rw [h2]
    exact Nat.zero_le _
  · simp at hcs
    obtain ⟨_, h2, h3⟩ := hcs
    omega
theorem opensB_map {X Y : Type} {t : TypeId} {r : Rd X} {μ : X → Nat} {ν : Y → Nat} (f : X → Y) (hν : ∀ x, ν (f x) ≤ μ x) (h : OpensB t r μ) : OpensB t (rMap r f) ν := fun H enc W fuel cs y h1 h2 => by
  obtain ⟨x, hx, hb⟩ := h H enc W fuel cs y h1 h2
  exact ⟨f x, ⟨x, rfl, hx⟩, Nat.le_trans (hν x) hb⟩
theorem opensB_weak {X : Type} {t : TypeId} {r : Rd X} {μ ν : X → Nat} (hν : ∀ x, ν x ≤ μ x) (h : OpensB t r μ) : OpensB t r ν := fun H enc W fuel cs y h1 h2 => by
  obtain ⟨x, hx, hb⟩ := h H enc W fuel cs y h1 h2
  exact ⟨x, hx, Nat.le_trans (hν x) hb⟩
def FieldsOpenB {X : Type} (fs : List Field) (off : Nat) (r : Rd X) (μ : X → Nat) : Prop :=
  ∀ (H : Type) (enc : TypeId × Value → H) (W : World) (n : Nat) (cs : List Value) (xs : List (DataW H × List MemPlace)), cs.length = off + r.size → xs.length = fs.length →
    (∀ (i : Nat) (f : Field), fs[i]? = some f → DataW.trod enc Tryz.prog W 0 (fun _ => true) true n f.type ((cs.drop f.offset).take (Tryz.prog.cellsOf f.type)) = xs[i]?) →
    (∀ k ∈ DataW.weightsEach Tryz.prog (fs.map (·.type)) (xs.map (·.1)), k ≤ reachBytes) → ∃ x, r.at_ W W.heap.size (cs.drop off) x ∧ μ x ≤ Rows.uptoBulkAll (xs.map (·.1))
theorem fieldsOpenB_one {X : Type} {f : Field} {off : Nat} {r : Rd X} {μ : X → Nat} (ho : f.offset = off) (hC : Tryz.prog.cellsOf f.type = r.size) (hr : OpensB f.type r μ) : FieldsOpenB [f] off r μ := fun H enc W n cs xs hcs hxs hf hw => by
  rcases xs with _ | ⟨y, _ | ⟨z, xs⟩⟩
  · simp at hxs
  · have h0 := hf 0 f rfl
    rw [ho, hC, List.take_of_length_le (by rw [List.length_drop]; omega)] at h0
    obtain ⟨x, hx, hb⟩ := hr H enc W n _ y h0 fun k hk => hw k (by simp [DataW.weightsEach, hk])
    exact ⟨x, hx, by simpa [Rows.uptoBulkAll] using hb⟩
  · simp at hxs
theorem fieldsOpenB_cons {X Y : Type} {f : Field} {fs : List Field} {off : Nat} {r : Rd X} {q : Rd Y} {μ : X → Nat} {ν : Y → Nat} (ho : f.offset = off) (hC : Tryz.prog.cellsOf f.type = r.size) (hr : OpensB f.type r μ) (hq : FieldsOpenB fs (off + r.size) q ν) : FieldsOpenB (f :: fs) off (rPair r q) (fun x => μ x.1 + ν x.2) := fun H enc W n cs xs hcs hxs hf hw => by
  rcases xs with _ | ⟨y, ys⟩
  · simp at hxs
  · have h0 := hf 0 f rfl
    rw [ho, hC] at h0
    obtain ⟨x, hx, hbx⟩ := hr H enc W n _ y h0 fun k hk => hw k (by simp [DataW.weightsEach, hk])
    have hcs' : cs.length = off + (r.size + q.size) := hcs
    obtain ⟨z, hz, hbz⟩ := hq H enc W n cs ys (by omega) (by simpa using hxs) (fun i f' hi => hf (i + 1) f' hi) fun k hk => hw k (by simp only [List.map_cons, DataW.weightsEach, List.mem_append]; exact .inr hk)
    refine ⟨(x, z), ⟨_, _, ?_, hx, hz⟩, ?_⟩
    · rw [← List.drop_drop, List.take_append_drop]
    · rw [List.map_cons, bulk_cons]
      exact Nat.add_le_add hbx hbz
theorem opensB_struct {X : Type} {t : TypeId} {fs : Array Field} {r : Rd X} {μ : X → Nat} (ht : Tryz.prog.underlying t = some (.struct fs)) (hC : Tryz.prog.cellsOf t = r.size) (hf : FieldsOpenB fs.toList 0 r μ) : OpensB t r μ := fun H enc W fuel cs y h hw => by
  obtain ⟨xs, n, _, rfl, hcs, hlen, hfs⟩ := DataW.trod_struct ht h
  obtain ⟨x, hx, hb⟩ := hf H enc W n cs xs (by omega) (by simpa using hlen) (fun i f hi => hfs i f (by simpa using hi)) fun k hk => hw k (by simpa [DataW.weights, ht] using hk)
  refine ⟨x, hx, ?_⟩
  have e : Rows.uptoBulk (DataW.agg (xs.map (·.1))) = Rows.uptoBulkAll (xs.map (·.1)) + 1 := by simp [Rows.uptoBulk]
  show μ x ≤ Rows.uptoBulk _
  rw [e]
  omega
theorem bulk_sum_mem {X : Type} {μ : X → Nat} {l : List X} {x : X} (h : x ∈ l) : μ x ≤ (l.map μ).sum := by
  induction l with
  | nil => cases h
  | cons y l ih =>
    rw [List.map_cons, List.sum_cons]
    rcases List.mem_cons.1 h with e | e
    · subst e; omega
    · have := ih e; omega
set_option maxRecDepth 20000 in
/-- A struct argument. -/
theorem arg_structB {X : Type} {t : TypeId} {fs : Array Field} {r : Rd X} {μ : X → Nat} (ht : Tryz.prog.underlying t = some (.struct fs)) (ho : OpensB t r μ) {H : Type} {enc : TypeId × Value → H} {W : World} {base : Nat} {v : Value} {d : DataW H} {p : List MemPlace}
    (hv : Value.okWide Tryz.prog W .any base t v) (h : DataW.Trod enc Tryz.prog W 0 (fun _ => true) true t v d p) (hw : ∀ n ∈ d.weights Tryz.prog t, n ≤ reachBytes) :
    ∃ cs x, v = .agg (List.toArray cs) ∧ r.at_ W W.heap.size cs x ∧ μ x ≤ Rows.uptoBulk d := by
  obtain ⟨cs, rfl, _⟩ := okWide_struct ht hv
  obtain ⟨fuel, hf⟩ := h
  obtain ⟨x, hx, hb⟩ := ho H enc W fuel _ _ hf hw
  exact ⟨cs.toList, x, by simp, by simpa [Value.cells] using hx, hb⟩
end Go.Proofs.YtamhjodppdodfaaGreatDoor.rd
