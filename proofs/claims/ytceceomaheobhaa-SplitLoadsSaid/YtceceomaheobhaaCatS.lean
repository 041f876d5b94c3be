/- slices.Concat of rows whose elements may be anything: the cells are copied. Shares here. -/
import Derived.Test.YtceceomaheobhaaBase
import Derived.Test.YtceceomaheobhaaFlat
import Derived.Test.YtceceomaheobhaaSplI
import Derived.Lib.AppendZeros
import Derived.Deep.DeepCutAuto
import Derived.Outline
namespace Go.Proofs.Ytceceomaheobhaa.cats
open Go.RowKit
open Go.Proofs.Ytceceomaheobhaa.lib Go.Proofs.Ytceceomaheobhaa.rd Go.Proofs.Ytceceomaheobhaa.typ Go.Proofs.Ytceceomaheobhaa.app Go.Proofs.Ytceceomaheobhaa.big Go.Proofs.Ytceceomaheobhaa.spl
set_option linter.unusedVariables false
set_option linter.unusedSimpArgs false

def GRows (size : Nat) (w : World) (B : Nat) (A : Option Addr) (css : List (Nat × List Value)) : Prop :=
  ∀ (i : Nat) c, css[i]? = some c → ∃ ad Ai ci, A = some ad ∧ ad.block < B ∧ w.cell? (ad.add i) = some (.slice Ai c.1 ci) ∧ Reads w B size Ai c.1 c.2 ∧ ∀ u ∈ c.2, u.oneCell' = true
theorem GRows.below {size : Nat} {w w' : World} {B : Nat} {A : Option Addr} {css : List (Nat × List Value)} (h : GRows size w B A css) (hb : Below B w w') : GRows size w' B A css := fun i c hi => by
  obtain ⟨ad, Ai, ci, h1, h2, h3, h4, h5⟩ := h i c hi
  exact ⟨ad, Ai, ci, h1, h2, (hb.cell (by rw [block_of_add]; exact h2)).trans h3, h4.below hb, h5⟩
def catN (css : List (Nat × List Value)) (k : Nat) : Nat := ((css.take k).map (·.1)).sum
def catC (css : List (Nat × List Value)) (k : Nat) : List Value := ((css.take k).map (·.2)).flatten
theorem take_at {α : Type} {l : List α} {k : Nat} {x : α} (h : l[k]? = some x) : l.take (k + 1) = l.take k ++ [x] := by
  obtain ⟨h1, h2⟩ := List.getElem?_eq_some_iff.1 h
  rw [List.take_succ_eq_append_getElem h1, h2]
theorem catN_succ {css : List (Nat × List Value)} {k : Nat} {c : Nat × List Value} (h : css[k]? = some c) : catN css (k + 1) = catN css k + c.1 := by
  unfold catN
  rw [take_at h, List.map_append, List.sum_append]
  simp
theorem catC_succ {css : List (Nat × List Value)} {k : Nat} {c : Nat × List Value} (h : css[k]? = some c) : catC css (k + 1) = catC css k ++ c.2 := by
  unfold catC
  rw [take_at h, List.map_append, List.flatten_append]
  simp
theorem catN_le (css : List (Nat × List Value)) (k : Nat) : catN css k ≤ catN css css.length := by
  have h : catN css css.length = ((css.take k).map (·.1)).sum + ((css.drop k).map (·.1)).sum := by unfold catN; rw [← List.sum_append, ← List.map_append, List.take_append_drop, List.take_length]
  rw [h]
  exact Nat.le_add_right _ _
def GrowOut (e0 : TypeId) (size : Nat) (w : World) (e : Ending) (w' : World) : Prop := ∃ A c, e = .returned (.slice A 0 c) ∧ w'.ownsRow w.heap.size e0 size (.slice A 0 c) 0 [] ∧ Below w.heap.size w w'
def ConcOut (e0 : TypeId) (size : Nat) (n : Nat) (cs : List Value) (w : World) (e : Ending) (w' : World) : Prop := ∃ A c, e = .returned (.slice A n c) ∧ w'.ownsRow w.heap.size e0 size (.slice A n c) n cs ∧ Below w.heap.size w w'
theorem sha_zeros {ops : Array Oper} {rest : List Oper} {o : Oper} {a : Act} {Q : Exit → Act → World → Prop} {w : World} (hgd : o.guard = none) (s x : Operand)
    (ho : o.op = .call { callee := .builtin .append, args := #[s, x], argTypes := #[50, 3] }) (n : Nat) (h0 : 0 < n) (hn : n ≤ 1000000) (hs : a.eval s = .slice none 0 0) (hx : a.eval x = .int .i64 n)
    (h : ∀ c w', n ≤ c → w'.ownsRow w.heap.size 53 2 (.slice (some ⟨w.heap.size, 0, none⟩) 0 c) 0 [] → Below w.heap.size w w' → wpList Try.prog ops Q rest (a.put o.dst (.slice (some ⟨w.heap.size, 0, none⟩) n c)) w') : wpList Try.prog ops Q (o :: rest) a w := by
  refine wpList_plain hgd fun _ hK => ?_
  obtain ⟨i0, hi, hz0, hz1, hz2⟩ := info_parts (sha_elem).info
  have hr := Lib.run_append_nil_zeros (P := Try.prog) w 50 3 o.type 53 i0 (.agg #[.int .i64 0, .slice none 0 0]) .i64 .i64 Try.underlying50 Try.underlying3 hi hz0 n h0 (by omega) (by omega) (by rw [hz2]; omega)
  unfold Oper.wp execOp
  simp only [ho, resolve, invoke, builtin, Sem.run_bind, Sem.run_pure, Result.andThen_ok, List.map_toArray, List.map_cons, List.map_nil, hs, hx, hr]
  have hge := grownCap_ge w n 0 53
  refine hK _ _ (h _ _ hge ⟨rfl, .inr ⟨w.heap.size, grownCap w n 0 53, _, rfl, Nat.le_refl _, World.alloc_heap_new w.drew _, Nat.zero_le _, grownCap_le_maxLen w n 0 _ (by unfold maxLen; omega), ?_, by simp⟩⟩ ?_)
  · rw [Array.size_append, size_zeroCells, size_zeroCells]
    simp [Value.cells]
    try omega
  · exact ((Below.refl _ _).drew).alloc (Nat.le_refl _) _
theorem sha_grow (n : Nat) (hn : n ≤ 1000000) (w : World) : Calls Try.prog 78 #[.slice none 0 0, .int .i64 n] w (GrowOut 53 2 w) := by
  have h0 : (0 : Int) ≤ n := by omega
  by_cases h : 0 < n
  · have h1 : (0 : Int) < n := by omega
    go_enter Try.func78, Try.ntmps78
    go_wp2_with (at_builtin; refine sha_zeros rfl _ _ rfl n h hn rfl rfl ?_; intro c1 w1 hc1 hown1 hb1)
    go_ret
    exact ⟨some ⟨w.heap.size, 0, none⟩, c1, rfl, hown1, hb1⟩
  · have h1 : ¬ (0 : Int) < n := by omega
    go_enter Try.func78, Try.ntmps78
    go_wp2
    go_ret
    exact ⟨none, 0, rfl, World.ownsRow_nil _ _ _ _, Below.refl _ _⟩
set_option maxRecDepth 20000 in
set_option maxHeartbeats 1000000 in
theorem sha_concat (A : Option Addr) (c : Nat) (css : List (Nat × List Value)) (w : World) (hL : GRows 2 w w.heap.size A css) (hn : css.length ≤ 1000000) (ht : catN css css.length ≤ 1000000) :
    Calls Try.prog 62 #[.slice A css.length c] w (ConcOut 53 2 (catN css css.length) (catC css css.length) w) := by
  obtain ⟨n, hn'⟩ : ∃ n, css.length = n := ⟨_, rfl⟩
  have HN := Lib.hid hn'
  have HTL : Hid (∀ k, catN css k ≤ 1000000) := Lib.hid fun k => Nat.le_trans (catN_le css k) ht
  rw [hn'] at hn ⊢
  clear hn' ht
  go_enter Try.func62, Try.ntmps62
  go_wp2
  go_loopw [3, 11] (fun v i wr => ∃ k : Nat, k ≤ n ∧ i = .int .i64 k ∧ v = .int .i64 (catN css k) ∧ Below w.heap.size w wr) (fun _ i _ => n - (intOf i).toNat)
  case atStart => exact ⟨0, by omega, rfl, rfl, Below.refl _ _⟩
  case round =>
    obtain ⟨k, hk, rfl, rfl, hb0⟩ := hrel
    have hlk := HTL.out k
    by_cases hlt : k < n
    · obtain ⟨fs, hfs⟩ : ∃ fs, css[k]? = some fs := ⟨_, List.getElem?_eq_getElem (by rw [HN.out]; exact hlt)⟩
      obtain ⟨ad, Ai, ci, rfl, hadb, hc, _⟩ := hL.below hb0 k fs hfs
      have hk0 : (0 : Int) ≤ (k : Int) := by omega
      have hkn : (k : Int) < (n : Int) := by omega
      have hl1 := HTL.out (k + 1)
      have HT : Hid (catN css (k + 1) = catN css k + fs.1) := Lib.hid (catN_succ hfs)
      rw [catN_succ hfs] at hl1
      obtain ⟨q, hq⟩ : ∃ q, catN css k = q := ⟨_, rfl⟩
      rw [hq] at HT hlk hl1
      simp only [hq]
      have h3 : ¬ ((q : Int) + (fs.1 : Int) < 0) := by omega
      clear hfs hq
      go_wp2
      go_roundw
      case rel => exact ⟨k + 1, by omega, by go_num, by rw [HT.out]; go_num, hb0⟩
      case measure => simp [intOf]; omega
    · have hkn : n = k := by omega
      subst hkn
      go_wp2_with (go_at_call 78; refine (sha_grow _ hlk _).mono ?_; rintro e w1 ⟨A1, c1, rfl, hown1, hb1⟩)
      have hown1' := own_less hown1 hb0.size
      have hb1' : Below w.heap.size w w1 := hb0.trans (hb1.mono hb0.size)
      clear hown1 hb1
      go_loopw [6, 27] (fun v i wr => ∃ (k : Nat) (A2 : Option Addr) (c2 : Nat), k ≤ n ∧ i = .int .i64 k ∧ v = .slice A2 (catN css k) c2 ∧ Hid (wr.ownsRow w.heap.size 53 2 (.slice A2 (catN css k) c2) (catN css k) (catC css k)) ∧ Below w.heap.size w wr) (fun _ i _ => n - (intOf i).toNat)
      case atStart => exact ⟨0, A1, c1, by omega, rfl, rfl, Lib.hid hown1', hb1'⟩
      case round =>
        clear hown1' hb1'
        obtain ⟨k, A2, c2, hk2, rfl, rfl, hown, hb⟩ := hrel
        have zb := hb.size
        have hlk2 := HTL.out k
        by_cases hlt2 : k < n
        · obtain ⟨fs, hfs⟩ : ∃ fs, css[k]? = some fs := ⟨_, List.getElem?_eq_getElem (by rw [HN.out]; exact hlt2)⟩
          obtain ⟨ad, Ai, ci, rfl, hadb, hc, hr, h1⟩ := hL.below hb k fs hfs
          have hk0 : (0 : Int) ≤ (k : Int) := by omega
          have hkn : (k : Int) < (n : Int) := by omega
          have hl1 := HTL.out (k + 1)
          have HT : Hid (catN css (k + 1) = catN css k + fs.1) := Lib.hid (catN_succ hfs)
          have HT2 : Hid (catC css (k + 1) = catC css k ++ fs.2) := Lib.hid (catC_succ hfs)
          rw [catN_succ hfs] at hl1
          obtain ⟨q, hq⟩ : ∃ q, catN css k = q := ⟨_, rfl⟩
          rw [hq] at HT hlk2 hl1 hown
          simp only [hq]
          have HR := Lib.hid (And.intro hr h1)
          clear hfs hq hr h1
          go_wp2_with (at_builtin; refine wpList_appN sha_elem _ _ rfl w.heap.size (.slice A2 q c2) q (catC css k) rfl hown.out w.heap.size Ai fs.1 ci fs.2 rfl HR.out.1 HR.out.2 (by omega) zb rfl ?_; intro A5 c5 w5 hown5 hg5; have HK5 := Lib.hid (And.intro hown5 hg5); clear hown5 hg5)
          go_roundw
          case rel => exact ⟨k + 1, A5, c5, by omega, by go_num, by rw [HT.out]; first | done | rfl, Lib.hid (by rw [HT.out, HT2.out]; exact HK5.out.1), hb.grown HK5.out.2 zb (fun q' e => (World.ownsRow.lt hown.out _ e).1)⟩
          case measure => simp [intOf]; omega
        · have hkn : n = k := by omega
          subst hkn
          go_wp2
          go_ret
          exact ⟨A2, c2, rfl, hown.out, hb⟩
theorem CellsOf.append {X : Type} {r : Rd X} {w : World} {B : Nat} {l l' : List X} {CS CS' : List Value} (h : CellsOf r w B l CS) (h' : CellsOf r w B l' CS') : CellsOf r w B (l ++ l') (CS ++ CS') := by
  refine ⟨by rw [List.length_append, List.length_append, h.1, h'.1, Nat.add_mul], fun i y hy => ?_⟩
  rcases Nat.lt_or_ge i l.length with hi | hi
  · rw [List.getElem?_append_left hi] at hy
    obtain ⟨cs', h1, h2⟩ := h.2 i y hy
    refine ⟨cs', h1, fun j u hu => ?_⟩
    have := h2 j u hu
    rw [List.getElem?_append_left (List.getElem?_eq_some_iff.1 this).1]
    exact this
  · rw [List.getElem?_append_right hi] at hy
    obtain ⟨cs', h1, h2⟩ := h'.2 _ y hy
    refine ⟨cs', h1, fun j u hu => ?_⟩
    have := h2 j u hu
    have e : i * r.size + j = CS.length + ((i - l.length) * r.size + j) := by
      rw [h.1, ← Nat.add_assoc, ← Nat.add_mul]
      congr 2
      omega
    rw [e, List.getElem?_append_right (Nat.le_add_right _ _), Nat.add_sub_cancel_left]
    exact this
/-- Rows of rows, as cells. -/
theorem rows_cells {X : Type} {r : Rd X} (hpos : 0 < r.size) {w : World} {B : Nat} {A : Option Addr} {ll : List (List X)} (h : RowAt (rSlice r) w B A ll) (h1 : ∀ cs x, r.at_ w B cs x → ∀ u ∈ cs, u.oneCell' = true) :
    ∃ css, GRows r.size w B A css ∧ css.length = ll.length ∧ catN css css.length = ll.flatten.length ∧ CellsOf r w B ll.flatten (catC css css.length) := by
  obtain ⟨css, hl, hp⟩ := choose_list (n := ll.length) (p := fun i (c : Nat × List Value) => ∃ l ad Ai ci, ll[i]? = some l ∧ A = some ad ∧ ad.block < B ∧ w.cell? (ad.add i) = some (.slice Ai c.1 ci) ∧ Reads w B r.size Ai c.1 c.2 ∧ (∀ u ∈ c.2, u.oneCell' = true) ∧ c.1 = l.length ∧ CellsOf r w B l c.2) fun i hi => by
    obtain ⟨ad, cs, h2, h3, ⟨Ai, ci, rfl, h4⟩, h5⟩ := h.2 i _ (List.getElem?_eq_getElem hi)
    obtain ⟨CS, k1, k2, k3, k4⟩ := h4.cells hpos
    have h6 := h5 0 _ rfl
    rw [show (rSlice r).size = 1 from rfl, Nat.mul_one, Nat.add_zero] at h6
    refine ⟨(ll[i].length, CS), ll[i], ad, Ai, ci, List.getElem?_eq_getElem hi, h2, h3, h6, ⟨k1.1, fun hn => ?_⟩, k4 _ h1, rfl, k1⟩
    obtain ⟨ad', e1, e2⟩ := k3 hn
    exact ⟨ad', e1, e2, k2 ad' e1⟩
  have key : ∀ k, k ≤ ll.length → catN css k = (ll.take k).flatten.length ∧ CellsOf r w B (ll.take k).flatten (catC css k) := by
    intro k
    induction k with
    | zero => intro _; exact ⟨by simp [catN], by simpa [catC] using CellsOf.nil⟩
    | succ k ih =>
      intro hk
      obtain ⟨e1, e2⟩ := ih (by omega)
      obtain ⟨c, hc⟩ : ∃ c, css[k]? = some c := ⟨_, List.getElem?_eq_getElem (by omega)⟩
      obtain ⟨l, ad, Ai, ci, hlk, _, _, _, _, _, h7, h8⟩ := hp k c hc
      rw [catN_succ hc, catC_succ hc, take_at hlk, List.flatten_append, List.length_append, e1, h7]
      refine ⟨by simp, ?_⟩
      rw [List.flatten_singleton]
      exact cats.CellsOf.append e2 h8
  refine ⟨css, fun i c hi => ?_, hl, ?_, ?_⟩
  · obtain ⟨l, ad, Ai, ci, _, h2, h3, h4, h5, h6, _⟩ := hp i c hi
    exact ⟨ad, Ai, ci, h2, h3, h4, h5, h6⟩
  · have := (key ll.length (Nat.le_refl _)).1
    rw [hl, this, List.take_length]
  · have := (key ll.length (Nat.le_refl _)).2
    rw [List.take_length] at this
    rw [hl]
    exact this
theorem GRows.more {size : Nat} {w : World} {B B' : Nat} {A : Option Addr} {css : List (Nat × List Value)} (h : GRows size w B A css) (hB : B ≤ B') : GRows size w B' A css := fun i c hi => by
  obtain ⟨ad, Ai, ci, h1, h2, h3, h4, h5⟩ := h i c hi
  exact ⟨ad, Ai, ci, h1, by omega, h3, h4.more hB, h5⟩
theorem sha_one {w : World} {B : Nat} {cs : List Value} {s : Sha} (h : rSha.at_ w B cs s) : ∀ u ∈ cs, u.oneCell' = true := fun u hu => by
  obtain ⟨C, c, rfl, _⟩ := rSha_at h
  simp only [ShaCells, List.mem_cons, List.not_mem_nil, or_false] at hu
  rcases hu with rfl | rfl <;> rfl
/-- What Concat hands back: a row of its own; the loads lie where they lay. -/
def ShaConc (w : World) (B : Nat) (fl : List Sha) (e : Ending) (w' : World) : Prop := ∃ A c CS, e = .returned (.slice A fl.length c) ∧ w'.ownsRow w.heap.size 53 2 (.slice A fl.length c) fl.length CS ∧ CellsOf rSha w' B fl CS ∧ Below w.heap.size w w'
theorem sha_conc (A : Option Addr) (c : Nat) (ll : List (List Sha)) (w : World) (B : Nat) (hB : B ≤ w.heap.size) (hL : RowAt (rSlice rSha) w B A ll) (hn : ll.length ≤ 1000000) (ht : ll.flatten.length ≤ 1000000) :
    Calls Try.prog 62 #[.slice A ll.length c] w (ShaConc w B ll.flatten) := by
  obtain ⟨css, h1, h2, h3, h4⟩ := rows_cells (r := rSha) (by decide) hL (fun cs x => sha_one)
  have h := sha_concat A c css w (h1.more hB) (by omega) (by omega)
  rw [h3, h2] at h
  rw [h2] at h4
  refine h.mono ?_
  rintro e w' ⟨A', c', rfl, h5, h6⟩
  exact ⟨A', c', _, rfl, h5, h4.keep (h6.mono hB), h6⟩
end Go.Proofs.Ytceceomaheobhaa.cats
