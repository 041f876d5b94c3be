/- What memory reads as: readers for numbers, texts, structs and slices of them; and that a call's arguments can be read so. -/
import Derived.Test.YtceceomaheobhaaDoorLib
import Derived.ProofKit
import Derived.OpenShut
import Derived.SizedLaws
import Derived.Deep.Matrix
import Derived.Deep.Slices
import Derived.ChangeArms
namespace Go.Proofs.YtceceomaheobhaaDoor.rd
open Go.RowKit Go.ChangeShapes Go.WideShapes Go.ChangeAt Go.Deep
open Go.Proofs.YtceceomaheobhaaDoor.lib
set_option linter.unusedVariables false

/-- A reader: which cells, in which world, read as x; what they lead to lies below a block. -/
structure Rd (X : Type) where
  size : Nat
  at_ : World → Nat → List Value → X → Prop
  len : ∀ {w : World} {B : Nat} {cs : List Value} {x : X}, at_ w B cs x → cs.length = size
  keep : ∀ {w w' : World} {B : Nat} {cs : List Value} {x : X}, (∀ p : Addr, p.block < B → w'.cell? p = w.cell? p) → at_ w B cs x → at_ w' B cs x
  more : ∀ {w : World} {B B' : Nat} {cs : List Value} {x : X}, B ≤ B' → at_ w B cs x → at_ w B' cs x

def rInt : Rd Int where
  size := 1
  at_ _ _ cs x := cs = [.int .i64 x] ∧ -9223372036854775808 ≤ x ∧ x ≤ 9223372036854775807
  len h := by rw [h.1]; rfl
  keep _ h := h
  more _ h := h
def rBool : Rd Bool where
  size := 1
  at_ _ _ cs x := cs = [.bool x]
  len h := by rw [h]; rfl
  keep _ h := h
  more _ h := h
def rStr : Rd ByteArray where
  size := 1
  at_ _ _ cs x := cs = [.string x] ∧ x.size ≤ 140737488351232
  len h := by rw [h.1]; rfl
  keep _ h := h
  more _ h := h
theorem Ints.keep {w w' : World} {B : Nat} {A : Option Addr} {l : List Int} (hk : ∀ p : Addr, p.block < B → w'.cell? p = w.cell? p) (h : Ints w B A l) : Ints w' B A l := ⟨h.1.keep hk, h.2⟩
def rInts : Rd (List Int) where
  size := 1
  at_ w B cs x := ∃ A c, cs = [.slice A x.length c] ∧ Ints w B A x
  len h := by obtain ⟨A, c, rfl, _⟩ := h; rfl
  keep hk h := by obtain ⟨A, c, h1, h2⟩ := h; exact ⟨A, c, h1, Ints.keep hk h2⟩
  more hB h := by obtain ⟨A, c, h1, h2⟩ := h; exact ⟨A, c, h1, h2.more hB⟩
def rPair {X Y : Type} (r : Rd X) (q : Rd Y) : Rd (X × Y) where
  size := r.size + q.size
  at_ w B cs x := ∃ a b, cs = a ++ b ∧ r.at_ w B a x.1 ∧ q.at_ w B b x.2
  len h := by obtain ⟨a, b, rfl, h1, h2⟩ := h; rw [List.length_append, r.len h1, q.len h2]
  keep hk h := by obtain ⟨a, b, h0, h1, h2⟩ := h; exact ⟨a, b, h0, r.keep hk h1, q.keep hk h2⟩
  more hB h := by obtain ⟨a, b, h0, h1, h2⟩ := h; exact ⟨a, b, h0, r.more hB h1, q.more hB h2⟩
def rMap {X Y : Type} (r : Rd X) (f : X → Y) : Rd Y where
  size := r.size
  at_ w B cs y := ∃ x, f x = y ∧ r.at_ w B cs x
  len h := by obtain ⟨x, _, h1⟩ := h; exact r.len h1
  keep hk h := by obtain ⟨x, h0, h1⟩ := h; exact ⟨x, h0, r.keep hk h1⟩
  more hB h := by obtain ⟨x, h0, h1⟩ := h; exact ⟨x, h0, r.more hB h1⟩

/-- A row of elements in memory. -/
def RowAt {X : Type} (r : Rd X) (w : World) (B : Nat) (A : Option Addr) (l : List X) : Prop :=
  l.length ≤ 17592186043904 ∧ ∀ (i : Nat) (x : X), l[i]? = some x → ∃ ad cs, A = some ad ∧ ad.block < B ∧ r.at_ w B cs x ∧ ∀ (j : Nat) (u : Value), cs[j]? = some u → w.cell? (ad.add (i * r.size + j)) = some u
section
variable {X : Type} {r : Rd X} {w w' : World} {B B' : Nat} {A : Option Addr} {l : List X}
theorem RowAt.len (h : RowAt r w B A l) : l.length ≤ 17592186043904 := h.1
theorem RowAt.nil : RowAt r w B none [] := ⟨by simp, fun i x h => by simp at h⟩
theorem RowAt.keep (hk : ∀ p : Addr, p.block < B → w'.cell? p = w.cell? p) (h : RowAt r w B A l) : RowAt r w' B A l :=
  ⟨h.1, fun i x hi => by
    obtain ⟨ad, cs, h1, h2, h3, h4⟩ := h.2 i x hi
    exact ⟨ad, cs, h1, h2, r.keep hk h3, fun j u hu => (hk _ (by rw [block_of_add]; exact h2)).trans (h4 j u hu)⟩⟩
theorem RowAt.more (hB : B ≤ B') (h : RowAt r w B A l) : RowAt r w B' A l :=
  ⟨h.1, fun i x hi => by
    obtain ⟨ad, cs, h1, h2, h3, h4⟩ := h.2 i x hi
    exact ⟨ad, cs, h1, by omega, r.more hB h3, h4⟩⟩
theorem RowAt.below (h : RowAt r w B A l) (hb : Below B w w') : RowAt r w' B A l := h.keep fun _ hp => hb.cell hp
theorem RowAt.take (h : RowAt r w B A l) (n : Nat) : RowAt r w B A (l.take n) :=
  ⟨Nat.le_trans (List.length_take_le' _ _) h.1, fun i x hi => by
    rw [List.getElem?_take] at hi
    split at hi
    · exact h.2 i x hi
    · cases hi⟩
end
def rSlice {X : Type} (r : Rd X) : Rd (List X) where
  size := 1
  at_ w B cs l := ∃ A c, cs = [.slice A l.length c] ∧ RowAt r w B A l
  len h := by obtain ⟨A, c, rfl, _⟩ := h; rfl
  keep hk h := by obtain ⟨A, c, h1, h2⟩ := h; exact ⟨A, c, h1, h2.keep hk⟩
  more hB h := by obtain ⟨A, c, h1, h2⟩ := h; exact ⟨A, c, h1, h2.more hB⟩
/-- The same, with its capacity. -/
def rSliceC {X : Type} (r : Rd X) : Rd (List X) where
  size := 1
  at_ w B cs l := ∃ A c, cs = [.slice A l.length c] ∧ RowAt r w B A l ∧ l.length ≤ c
  len h := by obtain ⟨A, c, rfl, _⟩ := h; rfl
  keep hk h := by obtain ⟨A, c, h1, h2, h3⟩ := h; exact ⟨A, c, h1, h2.keep hk, h3⟩
  more hB h := by obtain ⟨A, c, h1, h2, h3⟩ := h; exact ⟨A, c, h1, h2.more hB, h3⟩

/-- What is trod as type t can be read. -/
def Opens {X : Type} (t : TypeId) (r : Rd X) : Prop :=
  ∀ (H : Type) (enc : TypeId × Value → H) (W : World) (fuel : Nat) (cs : List Value) (y : DataW H × List MemPlace),
    DataW.trod enc Tryd.prog W 0 (fun _ => true) true fuel t cs = some y → (∀ n ∈ y.1.weights Tryd.prog t, n ≤ reachBytes) → ∃ x, r.at_ W W.heap.size cs x
theorem opens_int {t : TypeId} (ht : Tryd.prog.underlying t = some (.int .i64)) : Opens t rInt := fun H enc W fuel cs y h _ => by
  obtain ⟨n, rfl, rfl, hw⟩ := DataW.trod_int ht h
  refine ⟨n, rfl, ?_⟩
  simpa [Lit.wf, IntKind.min, IntKind.max, IntKind.signed, IntKind.bits] using hw
theorem opens_bool {t : TypeId} (ht : Tryd.prog.underlying t = some .bool) : Opens t rBool := fun H enc W fuel cs y h _ => by
  obtain ⟨n, rfl, rfl⟩ := DataW.trod_bool ht h
  exact ⟨n, rfl⟩
theorem opens_str {t : TypeId} (ht : Tryd.prog.underlying t = some .string) : Opens t rStr := fun H enc W fuel cs y h hw => by
  obtain ⟨s, rfl, rfl, hm⟩ := DataW.trod_string ht h
  refine ⟨s, rfl, ?_⟩
  have := hw s.data.toList.length (by simp [DataW.weights])
  simp only [reachBytes, Array.length_toList] at this
  have e : s.size = s.data.size := rfl
  omega
theorem weights_all {H : Type} {e : TypeId} : ∀ {l : List (DataW H)} {d : DataW H}, d ∈ l → ∀ n ∈ d.weights Tryd.prog e, n ∈ DataW.weightsAll Tryd.prog e l
  | x :: r, d, hd, n, hn => by
    rw [DataW.weightsAll, List.mem_append]
    rcases List.mem_cons.1 hd with rfl | h
    · exact .inl hn
    · exact .inr (weights_all h n hn)
theorem mapM_list {α β : Type} {f : Nat → α} {n : Nat} : ∃ l : List α, l.length = n ∧ ∀ i, i < n → l[i]? = some (f i) := ⟨(List.range n).map f, by simp, fun i hi => by simp [hi]⟩
theorem choose_list {X : Type} {p : Nat → X → Prop} : ∀ {n : Nat}, (∀ i, i < n → ∃ x, p i x) → ∃ l : List X, l.length = n ∧ ∀ (i : Nat) x, l[i]? = some x → p i x
  | 0, _ => ⟨[], rfl, fun i x h => by simp at h⟩
  | n + 1, h => by
    obtain ⟨l, hl, hp⟩ := choose_list (n := n) fun i hi => h i (by omega)
    obtain ⟨x, hx⟩ := h n (by omega)
    refine ⟨l ++ [x], by simp [hl], fun i y hy => ?_⟩
    rcases Nat.lt_or_ge i n with hi | hi
    · rw [List.getElem?_append_left (by omega)] at hy
      exact hp i y hy
    · rw [List.getElem?_append_right (by omega), hl] at hy
      rcases Nat.eq_or_lt_of_le hi with rfl | hlt
      · simp at hy; subst hy; exact hx
      · rw [List.getElem?_eq_none (by simp; omega)] at hy; cases hy
theorem opens_slice {X : Type} {t e : TypeId} {r : Rd X} (ht : Tryd.prog.underlying t = some (.slice e)) (hC : Tryd.prog.cellsOf e = r.size) (hz : 0 < r.size) (h8 : 8 ≤ Tryd.prog.bytesOf e) (hr : Opens e r) : Opens t (rSlice r) := fun H enc W fuel cs y h hw => by
  rcases open_slice ht h with ⟨rfl, rfl⟩ | ⟨a, len, cap, m, n, D, Pl, rfl, hb, hl, hm, hmm, rfl, hi⟩
  · exact ⟨[], none, 0, rfl, RowAt.nil⟩
  · simp only [if_true] at hmm
    subst hmm
    have hlen : len ≤ 17592186043904 := by
      have h1 := hw ((((List.range len).map D).length + ((List.range (m - len)).map fun j => D (len + j)).length) * Tryd.prog.bytesOf e) (by simp [DataW.weights, ht])
      simp only [List.length_map, List.length_range, reachBytes] at h1
      have h2 : (len + (m - len)) * 8 ≤ (len + (m - len)) * Tryd.prog.bytesOf e := Nat.mul_le_mul_left _ h8
      omega
    obtain ⟨l, hll, hlp⟩ := choose_list (n := len) (p := fun i x => ∃ cs', W.cells? 0 (a.add (i * Tryd.prog.cellsOf e)) (Tryd.prog.cellsOf e) = some cs' ∧ r.at_ W W.heap.size cs' x) fun i hil => by
      obtain ⟨cs', h1, h2⟩ := hi i (by omega)
      obtain ⟨x, hx⟩ := hr H enc W n cs' _ h2 (fun k hk => hw k (by
        simp only [DataW.weights, ht]
        exact List.mem_cons_of_mem _ (List.mem_append_left _ (weights_all (List.mem_map.2 ⟨i, List.mem_range.2 hil, rfl⟩) k hk))))
      exact ⟨x, cs', h1, hx⟩
    subst hll
    refine ⟨l, some a, _, rfl, hlen, fun i x hix => ?_⟩
    obtain ⟨cs', h1, h2⟩ := hlp i x hix
    obtain ⟨_, h4, h5⟩ := World.cells?_some h1
    rw [hC] at h4 h5
    have hcell : ∀ (j : Nat) (u : Value), cs'[j]? = some u → W.cell? (a.add (i * r.size + j)) = some u := fun j u hu => by
      have hj : j < r.size := by rw [← h4]; exact (List.getElem?_eq_some_iff.1 hu).1
      rw [← add_of_add]
      exact (h5 j hj).trans hu
    refine ⟨a, cs', rfl, ?_, h2, hcell⟩
    have hpos : 0 < l.length := Nat.lt_of_le_of_lt (Nat.zero_le i) (List.getElem?_eq_some_iff.1 hix).1
    have hu : cs'[0]? = some (cs'[0]'(by omega)) := List.getElem?_eq_getElem (by omega)
    have h6 := Go.block_lt_of_cell (hcell 0 _ hu)
    rwa [block_of_add] at h6
theorem opens_sliceC {X : Type} {t e : TypeId} {r : Rd X} (ht : Tryd.prog.underlying t = some (.slice e)) (hC : Tryd.prog.cellsOf e = r.size) (hz : 0 < r.size) (h8 : 8 ≤ Tryd.prog.bytesOf e) (hr : Opens e r) : Opens t (rSliceC r) := fun H enc W fuel cs y h hw => by
  obtain ⟨l, A, c, rfl, hl⟩ := opens_slice ht hC hz h8 hr H enc W fuel cs y h hw
  refine ⟨l, A, c, rfl, hl, ?_⟩
  rcases open_slice ht h with ⟨hcs, _⟩ | ⟨a, len, cap, m, n, D, Pl, hcs, _, hle, _⟩
  · simp at hcs
    obtain ⟨_, h2, h3⟩ := hcs
    rw [h2]
    exact Nat.zero_le _
  · simp at hcs
    obtain ⟨_, h2, h3⟩ := hcs
    omega
theorem opens_ints {t e : TypeId} (ht : Tryd.prog.underlying t = some (.slice e)) (he : Tryd.prog.underlying e = some (.int .i64)) (hC : Tryd.prog.cellsOf e = 1) (h8 : 8 ≤ Tryd.prog.bytesOf e) : Opens t rInts := fun H enc W fuel cs y h hw => by
  obtain ⟨l, A, c, rfl, hl, hr⟩ := opens_slice ht hC (by decide) h8 (opens_int he) H enc W fuel cs y h hw
  refine ⟨l, A, c, rfl, ⟨by simp, fun hn => ?_⟩, hl⟩
  obtain ⟨ad, cs0, hA, hb, _, _⟩ := hr 0 l[0] (List.getElem?_eq_getElem hn)
  refine ⟨ad, hA, hb, fun j u hu => ?_⟩
  rw [List.getElem?_map, Option.map_eq_some_iff] at hu
  obtain ⟨x, hx, rfl⟩ := hu
  obtain ⟨ad', cs1, hA', _, ⟨rfl, _⟩, h4⟩ := hr j x hx
  have e0 := Option.some.inj (hA.symm.trans hA')
  subst e0
  have := h4 0 _ rfl
  simpa [rInt] using this

/-- The fields of a struct from a cell on can be read. -/
def FieldsOpen {X : Type} (fs : List Field) (off : Nat) (r : Rd X) : Prop :=
  ∀ (H : Type) (enc : TypeId × Value → H) (W : World) (n : Nat) (cs : List Value) (xs : List (DataW H × List MemPlace)), cs.length = off + r.size → xs.length = fs.length →
    (∀ (i : Nat) (f : Field), fs[i]? = some f → DataW.trod enc Tryd.prog W 0 (fun _ => true) true n f.type ((cs.drop f.offset).take (Tryd.prog.cellsOf f.type)) = xs[i]?) →
    (∀ k ∈ DataW.weightsEach Tryd.prog (fs.map (·.type)) (xs.map (·.1)), k ≤ reachBytes) → ∃ x, r.at_ W W.heap.size (cs.drop off) x
theorem fieldsOpen_one {X : Type} {f : Field} {off : Nat} {r : Rd X} (ho : f.offset = off) (hC : Tryd.prog.cellsOf f.type = r.size) (hr : Opens f.type r) : FieldsOpen [f] off r := fun H enc W n cs xs hcs hxs hf hw => by
  rcases xs with _ | ⟨y, _ | ⟨z, xs⟩⟩
  · simp at hxs
  · have h0 := hf 0 f rfl
    rw [ho, hC, List.take_of_length_le (by rw [List.length_drop]; omega)] at h0
    exact hr H enc W n _ y h0 fun k hk => hw k (by simp [DataW.weightsEach, hk])
  · simp at hxs
theorem fieldsOpen_cons {X Y : Type} {f : Field} {fs : List Field} {off : Nat} {r : Rd X} {q : Rd Y} (ho : f.offset = off) (hC : Tryd.prog.cellsOf f.type = r.size) (hr : Opens f.type r) (hq : FieldsOpen fs (off + r.size) q) : FieldsOpen (f :: fs) off (rPair r q) := fun H enc W n cs xs hcs hxs hf hw => by
  rcases xs with _ | ⟨y, ys⟩
  · simp at hxs
  · have h0 := hf 0 f rfl
    rw [ho, hC] at h0
    obtain ⟨x, hx⟩ := hr H enc W n _ y h0 fun k hk => hw k (by simp [DataW.weightsEach, hk])
    have hcs' : cs.length = off + (r.size + q.size) := hcs
    obtain ⟨z, hz⟩ := hq H enc W n cs ys (by omega) (by simpa using hxs) (fun i f' hi => hf (i + 1) f' hi) fun k hk => hw k (by simp only [List.map_cons, DataW.weightsEach, List.mem_append]; exact .inr hk)
    refine ⟨(x, z), _, _, ?_, hx, hz⟩
    rw [← List.drop_drop, List.take_append_drop]
theorem opens_struct {X : Type} {t : TypeId} {fs : Array Field} {r : Rd X} (ht : Tryd.prog.underlying t = some (.struct fs)) (hC : Tryd.prog.cellsOf t = r.size) (hf : FieldsOpen fs.toList 0 r) : Opens t r := fun H enc W fuel cs y h hw => by
  obtain ⟨xs, n, _, rfl, hcs, hlen, hfs⟩ := DataW.trod_struct ht h
  exact hf H enc W n cs xs (by omega) (by simpa using hlen) (fun i f hi => hfs i f (by simpa using hi)) fun k hk => hw k (by simpa [DataW.weights, ht] using hk)
theorem opens_map {X Y : Type} {t : TypeId} {r : Rd X} (f : X → Y) (h : Opens t r) : Opens t (rMap r f) := fun H enc W fuel cs y h1 h2 => by
  obtain ⟨x, hx⟩ := h H enc W fuel cs y h1 h2
  exact ⟨f x, x, rfl, hx⟩
/-- [2]int. -/
theorem opens_two {X : Type} {t e : TypeId} {r : Rd X} (ht : Tryd.prog.underlying t = some (.array 2 e)) (hC : Tryd.prog.cellsOf e = r.size) (hT : Tryd.prog.cellsOf t = r.size + r.size) (hr : Opens e r) : Opens t (rPair r r) := fun H enc W fuel cs y h hw => by
  obtain ⟨xs, n, _, rfl, hcs, hlen, hfs⟩ := DataW.trod_array ht h
  rcases xs with _ | ⟨y, _ | ⟨z, _ | ⟨a, xs⟩⟩⟩
  · simp at hlen
  · simp at hlen
  · have h0 := hfs 0 (by omega)
    have h1 := hfs 1 (by omega)
    rw [hC] at h0 h1
    rw [Nat.zero_mul, List.drop_zero] at h0
    rw [Nat.one_mul, List.take_of_length_le (by rw [List.length_drop]; omega)] at h1
    obtain ⟨a, ha⟩ := hr H enc W n _ y h0 fun k hk => hw k (by simp [DataW.weights, ht, DataW.weightsAll, hk])
    obtain ⟨b, hb⟩ := hr H enc W n _ z h1 fun k hk => hw k (by simp [DataW.weights, ht, DataW.weightsAll, hk])
    exact ⟨(a, b), _, _, (List.take_append_drop _ _).symm, ha, hb⟩
  · simp at hlen

theorem weight_of {H : Type} {ts : List TypeId} {ds : List (DataW H)} (h : (DataW.weightsEach Tryd.prog ts ds).all (· ≤ reachBytes) = true) {j : Nat} {t : TypeId} {d : DataW H} (ht : ts[j]? = some t) (hd : ds[j]? = some d) :
    ∀ n ∈ d.weights Tryd.prog t, n ≤ reachBytes := fun n hn => by
  have := List.all_eq_true.1 h _ (DataW.weights_mem_each ht hd n hn)
  simpa using this
/-- An argument. -/
theorem open_arg {X : Type} {t : TypeId} {r : Rd X} (ho : Opens t r) {H : Type} {enc : TypeId × Value → H} {W : World} {v : Value} {d : DataW H} {p : List MemPlace}
    (h : DataW.Trod enc Tryd.prog W 0 (fun _ => true) true t v d p) (hw : ∀ n ∈ d.weights Tryd.prog t, n ≤ reachBytes) : ∃ x, r.at_ W W.heap.size v.cells.toList x := by
  obtain ⟨fuel, hf⟩ := h
  exact ho _ enc W fuel _ _ hf hw
theorem add_split (a : Addr) (n j : Nat) : a.add (n + (j + 1)) = ⟨(a.add n).block, (a.add n).off + (j + 1), none⟩ := by
  unfold Addr.add
  by_cases hn : n = 0
  · subst hn; simp
  · rw [if_neg hn, if_neg (by omega)]
    simp [Nat.add_assoc]
end Go.Proofs.YtceceomaheobhaaDoor.rd
