/- text.Unquote, text.part and text.Words of the program. -/
import Derived.Test.YthefooacfcagbaaGreatDoorStrB
namespace Go.Proofs.YthefooacfcagbaaGreatDoor.txt
open Go.RowKit
open Go.Proofs.YthefooacfcagbaaGreatDoor.lib Go.Proofs.YthefooacfcagbaaGreatDoor.app
set_option linter.unusedVariables false

/-- 'out = append(out, x)' of an element of one cell, out the call's own: the row grows by x. -/
theorem push_one {t e : TypeId} {z : Value} {bytes : Nat} (E : ElemOf t e z 1 bytes) {ops : Array Oper} {rest : List Oper} {o : Oper} {a : Act} {Q : Exit → Act → World → Prop} {w : World} (hgd : o.guard = none) (s x : Operand)
    (ho : o.op = .call { callee := .builtin .append, args := #[s, x], argTypes := #[t, t] })
    (base : Nat) (v : Value) (n : Nat) (xs : List Value) (hs : a.eval s = v) (hown : w.ownsRow base e 1 v n xs)
    (u : Value) (hu : u.oneCell' = true) (hx : a.eval x = .slice (some ⟨w.heap.size, 0, none⟩) 1 1) (hn : n < 1000000000) (hbase : base ≤ w.heap.size)
    (h : ∀ g c w', w'.ownsRow base e 1 (.slice (some ⟨g, 0, none⟩) (n + 1) c) (n + 1) (xs ++ [u]) → Below base w w' → wpList Tryz.prog ops Q rest (a.put o.dst (.slice (some ⟨g, 0, none⟩) (n + 1) c)) w') :
    wpList Tryz.prog ops Q (o :: rest) a (w.alloc (.cells #[u] e)) := by
  obtain ⟨A, c, rfl⟩ := own_form hown
  refine wpList_app E s x ho base A n c xs hs (hown.alloc _) ⟨w.heap.size, 0, none⟩ 1 [u] hx rfl (cell_one_new _ _ _) ?_ (by omega) (by simp; omega) hgd ?_
  · intro v hv
    simp at hv
    subst hv
    exact hu
  intro g' c' w1 hown' hg _
  exact h g' c' w1 hown' (((Below.refl base w).alloc hbase _).grown hg (by simp; omega) (own_base hown))
theorem elem_u8 : ElemOf 55 5 (.int .u8 0) 1 1 := ⟨Tryz.underlying55, by kernel_rfl, rfl, by omega, by omega⟩
theorem elem_str : ElemOf 22 9 (.string ⟨#[]⟩) 1 16 := ⟨Tryz.underlying22, by kernel_rfl, rfl, by omega, by omega⟩
/-- Bytes, as cells. -/
def u8s (l : By) : List Value := l.map fun b => .int .u8 (b.toNat : Int)
theorem conv_u8 {w : World} {base g n c : Nat} {l : By} (hl : l.length = n) (h : w.ownsRow base 5 1 (.slice (some ⟨g, 0, none⟩) n c) n (u8s l)) : (convert 55 9 (.slice (some ⟨g, 0, none⟩) n c)).run Tryz.prog w = .ok (.string ⟨l.toArray⟩) w := by
  subst hl
  refine run_convert_bytes_back (P := Tryz.prog) _ 55 9 5 ⟨g, 0, none⟩ c l Tryz.underlying55 Tryz.underlying5 Tryz.underlying9 ?_
  intro j hj
  have hc := h.cells (g := g) rfl j _ (by unfold u8s; rw [List.getElem?_map, List.getElem?_eq_getElem hj]; rfl)
  exact hc

/-- What Unquote answers: a text and an error. -/
def UqOut (w : World) (e : Ending) (w' : World) : Prop := ∃ (t : ByteArray) (n : Int), e = .returned (.tuple #[.string t, .int .i64 n]) ∧ Below w.heap.size w w'
set_option maxRecDepth 100000 in
theorem unquote_any (s : ByteArray) (hm : s.size ≤ 100000) (w : World) : Calls Tryz.prog 147 #[.string s] w (UqOut w) := by
  have hB0 := Below.refl w.heap.size w
  have hno : ∀ w', Below w.heap.size w w' → UqOut w (Ending.returned (.tuple #[.string ⟨#[]⟩, .int .i64 3])) w' := fun w' h => ⟨_, _, rfl, h⟩
  by_cases h0 : s.size < 2
  · go_enter Tryz.func147, Tryz.ntmps147
    go_wp2
    refine bodyPost_ret (v := .tuple #[.string ⟨#[]⟩, .int .i64 3]) (by simp [results, Tryz.results147, go_sem]) rfl ?_
    exact hno _ hB0
  have hz : 0 < s.size := by omega
  have hl1 : s.size - 1 < s.size := by omega
  have hj1 : IntKind.i64.wrap ((s.size : Int) - 1) = ((s.size - 1 : Nat) : Int) := by rw [IntWalk.i64_in _ (by omega)]; omega
  obtain ⟨c0, hc0⟩ : ∃ c, s[0] = c := ⟨_, rfl⟩
  obtain ⟨c1, hc1⟩ : ∃ c, s[s.size - 1] = c := ⟨_, rfl⟩
  by_cases h1 : (c0.toNat : Int) = 34
  case neg =>
    have h1b : ((c0.toNat : Int) != 34) = true := by simpa using h1
    go_enter Tryz.func147, Tryz.ntmps147
    go_wp2
    refine bodyPost_ret (v := .tuple #[.string ⟨#[]⟩, .int .i64 3]) (by simp [results, Tryz.results147, go_sem]) rfl ?_
    exact hno _ hB0
  by_cases h2 : (c1.toNat : Int) = 34
  case neg =>
    have h2b : ((c1.toNat : Int) != 34) = true := by simpa using h2
    go_enter Tryz.func147, Tryz.ntmps147
    go_wp2
    refine bodyPost_ret (v := .tuple #[.string ⟨#[]⟩, .int .i64 3]) (by simp [results, Tryz.results147, go_sem]) rfl ?_
    exact hno _ hB0
  go_enter Tryz.func147, Tryz.ntmps147
  go_upto_region 4 with fail
  obtain ⟨t, ht⟩ : ∃ t, s.extract 1 (s.size - 1) = t := ⟨_, rfl⟩
  rw [ht]
  have hts : t.size ≤ s.size := by rw [← ht, ByteArray.size_extract]; omega
  clear ht hc0 hc1 hj1 h1 h2 hl1
  obtain ⟨i0, hi, hz0, hz1, hz2⟩ := info_parts elem_u8.info
  go_upto_region 6 with (at_make; refine wpList_make_own _ rfl _ _ _ rfl w.heap.size 5 i0 (.int .u8 0) 1 elem_u8.sl hi hz0 hz1 .i64 .i64 _ t.size rfl rfl rfl (by rw [hz2]; omega) (by unfold maxLen; omega) (Nat.le_refl _) ?_; intro w1 hown hg1)
  have hb1 : Below w.heap.size w w1 := (Below.refl _ w).grown hg1 (Nat.le_refl _) (by intro k hk; cases hk)
  have hown1 := Lib.hid hown
  have hno2 := Lib.hid hno
  clear hg1 hown hi hz0 hz1 hz2 hno
  go_loopw [4, 5] (fun b i wr => Below w.heap.size w wr ∧ ∃ (k m g c : Nat) (bs : By), k ≤ t.size ∧ i = .int .i64 k ∧ bs.length = m ∧ m ≤ k ∧ b = .slice (some ⟨g, 0, none⟩) m c ∧ Hid (wr.ownsRow w.heap.size 5 1 (.slice (some ⟨g, 0, none⟩) m c) m (u8s bs))) (fun _ i _ => t.size - (intOf i).toNat)
  case atStart => exact ⟨hb1, 0, 0, _, _, [], by omega, rfl, rfl, by omega, rfl, hown1⟩
  case round =>
    obtain ⟨hb, k, m, g, c, bs, hk, rfl, hbl, hmk, rfl, hrow⟩ := hrel
    have hbz := hb.size
    clear hb1 hown1 hB0
    by_cases hlt : k < t.size
    case neg =>
      have kc := conv_u8 hbl hrow.out
      go_wp2
      refine bodyPost_ret (v := .tuple #[.string ⟨bs.toArray⟩, .int .i64 0]) (by simp [results, Tryz.results147, go_sem]) rfl ?_
      exact ⟨_, _, rfl, hb⟩
    obtain ⟨x, hx⟩ : ∃ x, t[k] = x := ⟨_, rfl⟩
    by_cases c1 : (x.toNat : Int) = 34
    · go_wp2
      refine bodyPost_ret (v := .tuple #[.string ⟨#[]⟩, .int .i64 3]) (by simp [results, Tryz.results147, go_sem]) rfl ?_
      exact hno2.out _ hb
    by_cases c2 : (x.toNat : Int) < 32
    · go_wp2
      refine bodyPost_ret (v := .tuple #[.string ⟨#[]⟩, .int .i64 3]) (by simp [results, Tryz.results147, go_sem]) rfl ?_
      exact hno2.out _ hb
    by_cases c3 : 126 < (x.toNat : Int)
    · go_wp2
      refine bodyPost_ret (v := .tuple #[.string ⟨#[]⟩, .int .i64 3]) (by simp [results, Tryz.results147, go_sem]) rfl ?_
      exact hno2.out _ hb
    have c1b : ((x.toNat : Int) == 34) = false := by simpa using c1
    by_cases c4 : (x.toNat : Int) = 92
    · have hsz : (t.extract (k + 1) t.size).size = t.size - (k + 1) := by rw [ByteArray.size_extract]; omega
      go_upto_region 13 with (go_at_call 171; refine (escaped_any _ (by omega) _).mono ?_; rintro e w2 ⟨d, n, rfl, hn, hb2⟩)
      have hrow2 := own_below hrow.out hb2
      have hbz2 := hb2.size
      have hb3 : Below w.heap.size w w2 := hb.trans (hb2.mono hbz)
      clear hrow hb hb2
      by_cases hn0 : n = 0
      · subst hn0
        go_wp2
        refine bodyPost_ret (v := .tuple #[.string ⟨#[]⟩, .int .i64 3]) (by simp [results, Tryz.results147, go_sem]) rfl ?_
        exact hno2.out _ hb3
      · have hn1 : ¬ (n : Int) = 0 := by omega
        go_wp2_with (at_builtin; refine push_one elem_u8 rfl _ _ rfl w.heap.size _ m (u8s bs) rfl hrow2 _ rfl rfl (by omega) (by omega) ?_; intro g' c' w3 hown3 hb4)
        go_roundw
        case rel => exact ⟨hb3.trans hb4, k + n + 1, m + 1, g', c', bs ++ [d], by omega, by go_num, by simp [hbl], by omega, rfl, Lib.hid (by unfold u8s; rw [List.map_append]; exact hown3)⟩
        case measure => simp [intOf]; omega
    · go_wp2_with (at_builtin; refine push_one elem_u8 rfl _ _ rfl w.heap.size _ m (u8s bs) rfl hrow.out _ rfl rfl (by omega) (by omega) ?_; intro g' c' w3 hown3 hb4)
      go_roundw
      case rel => exact ⟨hb.trans hb4, k + 1, m + 1, g', c', bs ++ [x], by omega, by go_num, by simp [hbl], by omega, rfl, Lib.hid (by unfold u8s; rw [List.map_append]; exact hown3)⟩
      case measure => simp [intOf]; omega
end Go.Proofs.YthefooacfcagbaaGreatDoor.txt
