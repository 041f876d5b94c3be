/- The reference's list of the subsets of a size: the recursion, walked. -/
import Derived.Test.YtdmedphpddhjcaaDoorSizB
import Derived.Test.YtdmedphpddhjcaaDoorSubK
import Derived.Deep.RegionHeld3
namespace Go.Proofs.YtdmedphpddhjcaaDoor.sets
open Go.RowKit Go.Shelf
open Go.Proofs.YtdmedphpddhjcaaDoor.lib
set_option linter.unusedVariables false

/-- An append of one number to a row of the call's own, nil or not: where the new row lies. -/
theorem run_push_any (w : World) (base : Nat) (A : Option Addr) (n cap : Nat) (xs : List Int) (hown : w.ownsRow base 3 1 (.slice A n cap) n (xs.map (.int .i64)))
    (b : Nat) (u : Int) (hc : w.cell? ⟨b, 0, none⟩ = some (.int .i64 u)) (hn : n < 17592186044415) (hbase : base ≤ w.heap.size) (ty : TypeId) :
    ∃ g' c' w', (Builtin.append_ #[22, 22] ty #[.slice A n cap, .slice (some ⟨b, 0, none⟩) 1 1]).run Tryd.prog w = .ok (.slice (some ⟨g', 0, none⟩) (n + 1) c') w' ∧
      w'.ownsRow base 3 1 (.slice (some ⟨g', 0, none⟩) (n + 1) c') (n + 1) ((xs ++ [u]).map (.int .i64)) ∧ w.grownBy w' (Value.slice A n cap).ownBlock ∧ ((Value.slice A n cap).ownBlock = some g' ∨ w.heap.size ≤ g') := by
  rcases hown.2 with ⟨h1, h2⟩ | ⟨g, cap0, cur, h, _⟩
  · injection h1 with e1 e2 e3
    subst e1; subst e2; subst e3
    have hx0 : xs = [] := by have := hown.1; simpa using this
    subst hx0
    obtain ⟨i0, hi, hz0, hz1, hz2⟩ := info_parts int_info
    have hnew : ∀ (j : Nat) (v : Value), [Value.int .i64 u][j]? = some v → w.cell? ((⟨b, 0, none⟩ : Addr).add j) = some v := by
      intro j v hj
      rcases j with _ | j
      · simp at hj
        subst hj
        exact hc
      · simp at hj
    obtain ⟨v', w', hr, r2, r3, _⟩ := run_append_own (P := Tryd.prog) w w.heap.size 22 ty 3 i0 (.int .i64 0) 1 8 Tryd.underlying22 hi hz0 hz1 hz2 rfl (by decide) _ 0 _ (World.ownsRow_nil w w.heap.size 3 1) ⟨b, 0, none⟩ 1 1 [.int .i64 u] rfl hnew (by simp [Value.oneCell']) (by unfold maxLen; omega) (by omega) (Nat.le_refl _)
    obtain ⟨v2, w2, hr', s2, s3, _⟩ := run_append_own (P := Tryd.prog) w base 22 ty 3 i0 (.int .i64 0) 1 8 Tryd.underlying22 hi hz0 hz1 hz2 rfl (by decide) _ 0 _ (World.ownsRow_nil w base 3 1) ⟨b, 0, none⟩ 1 1 [.int .i64 u] rfl hnew (by simp [Value.oneCell']) (by unfold maxLen; omega) (by omega) hbase
    rw [hr] at hr'
    injection hr' with hv hw
    subst hv
    subst hw
    obtain ⟨g', c', rfl⟩ := ownsRow_succ r2
    exact ⟨g', c', w', hr, by simpa using s2, r3, .inr (own_base r2 g' rfl)⟩
  · injection h with e1 e2 e3
    subst e1
    obtain ⟨g', c', w', r1, r2, r3, r4⟩ := run_push w base g n cap xs hown b u hc hn hbase ty
    refine ⟨g', c', w', r1, r2, r3, ?_⟩
    rcases r4 with rfl | ⟨h, _⟩
    · exact .inl rfl
    · exact .inr h

theorem step_push_any {ops : Array Oper} {o : Oper} {a : Act} {K : Act → World → Prop} {Q : Exit → Act → World → Prop} {E : Prop} {w : World} (hgd : o.guard = none) (s x : Operand)
    (ho : o.op = .call { callee := .builtin .append, args := #[s, x], argTypes := #[22, 22] })
    (base : Nat) (A : Option Addr) (n cap : Nat) (xs : List Int) (hs : a.eval s = .slice A n cap) (hown : w.ownsRow base 3 1 (.slice A n cap) n (xs.map (.int .i64)))
    (b : Nat) (u : Int) (hx : a.eval x = .slice (some ⟨b, 0, none⟩) 1 1) (hc : w.cell? ⟨b, 0, none⟩ = some (.int .i64 u)) (hn : n < 17592186044415) (hbase : base ≤ w.heap.size)
    (h : ∀ g' c w', w'.ownsRow base 3 1 (.slice (some ⟨g', 0, none⟩) (n + 1) c) (n + 1) ((xs ++ [u]).map (.int .i64)) → w.grownBy w' (Value.slice A n cap).ownBlock → ((Value.slice A n cap).ownBlock = some g' ∨ w.heap.size ≤ g') → K (a.put o.dst (.slice (some ⟨g', 0, none⟩) (n + 1) c)) w') :
    if Region.wanted o (yielded ops a.tmps) = true then Oper.wp Tryd.prog o a w K Q else E := by
  have hw : Region.wanted o (yielded ops a.tmps) = true := by simp [Region.wanted, hgd]
  rw [if_pos hw]
  obtain ⟨g', c, w', hr, h2, h3, h4⟩ := run_push_any w base A n cap xs hown b u hc hn hbase o.type
  unfold Oper.wp execOp
  simp only [ho, resolve, invoke, builtin, Sem.run_bind, Sem.run_pure, Result.andThen_ok, List.map_toArray, List.map_cons, List.map_nil, hs, hx, hr]
  exact h g' c w' h2 h3 h4

theorem szL_in {L : List Int} (hl : L.Pairwise (· < ·)) (h0 : ∀ x ∈ L, 0 ≤ x ∧ x ≤ 62) {n k : Nat} (hn : n ≤ L.length) {t : Int} (h : t ∈ szL L n k) : 0 ≤ t ∧ t < 9223372036854775808 := by
  rw [← spr_sizW, List.mem_map] at h
  obtain ⟨u, _, rfl⟩ := h
  exact spr_lt hl h0 u n hn

/-- out, when k of more are appended. -/
def upTo (D M : List Int) (m : Nat) (k : Nat) : List Int := D ++ (M.take k).map (fun x => x + pow2 m)
theorem upTo_step {D M : List Int} {m : Nat} {x : Int} {k : Nat} (h : M[k]? = some x) : upTo D M m (k + 1) = upTo D M m k ++ [x + pow2 m] := by
  obtain ⟨h1, h2⟩ := List.getElem?_eq_some_iff.1 h
  unfold upTo
  rw [List.take_succ_eq_append_getElem h1, h2, List.map_append, List.append_assoc]
  rfl
theorem upTo_len (D M : List Int) (m k : Nat) (h : k ≤ M.length) : (upTo D M m k).length = D.length + k := by simp [upTo]; omega

set_option maxRecDepth 100000 in
set_option maxHeartbeats 4000000 in
theorem rsized_any (L : List Int) (A : Option Addr) (c : Nat) (hl : L.Pairwise (· < ·)) (h0 : ∀ x ∈ L, 0 ≤ x ∧ x ≤ 62) : ∀ (n k : Nat), n ≤ L.length → k ≤ 63 → chN n k ≤ 8192 → ∀ (w : World) (B : Nat), B ≤ w.heap.size → Ints w B A L →
    Calls Tryd.prog 32 #[.slice A L.length c, .int .i64 n, .int .i64 k] w (OutInts w (szL L n k))
  | n, 0, hn, hk, hch, w, B, hB, hL => by
    rw [szL_zero]
    go_enter Tryd.func32, Tryd.ntmps32
    go_wp2
    go_ret
    exact ⟨_, 1, rfl, ⟨rfl, .inr ⟨w.heap.size, 1, #[.int .i64 0], rfl, Nat.le_refl _, World.alloc_heap_new w _, Nat.le_refl _, by decide, rfl, rfl⟩⟩, (Below.refl _ _).alloc (Nat.le_refl _) _⟩
  | 0, k + 1, hn, hk, hch, w, B, hB, hL => by
    have hlt : ((0 : Nat) : Int) < ((k + 1 : Nat) : Int) := by omega
    have hne : (((k + 1 : Nat) : Int) == 0) = false := by simp; omega
    show Calls Tryd.prog 32 _ w (OutInts w [])
    obtain ⟨kk, hkk⟩ : ∃ kk, k + 1 = kk := ⟨_, rfl⟩
    rw [hkk] at hlt hne ⊢
    clear hkk
    go_enter Tryd.func32, Tryd.ntmps32
    go_wp2
    go_ret
    exact ⟨none, 0, rfl, World.ownsRow_nil _ _ _ _, Below.refl _ _⟩
  | n + 1, k + 1, hn, hk, hch, w, B, hB, hL => by
    have hch1 : chN n (k + 1) ≤ 8192 := by have e : chN (n + 1) (k + 1) = chN n (k + 1) + chN n k := rfl; omega
    have hch2 : chN n k ≤ 8192 := by have e : chN (n + 1) (k + 1) = chN n (k + 1) + chN n k := rfl; omega
    have ih1 := rsized_any L A c hl h0 n (k + 1) (by omega) (by omega) hch1
    have ih2 := rsized_any L A c hl h0 n k (by omega) (by omega) hch2
    have hlen1 := szL_len L n (k + 1)
    have hlen2 := szL_len L n k
    have hall : ∀ t, t ∈ szL L (n + 1) (k + 1) → 0 ≤ t ∧ t < 9223372036854775808 := fun t ht => szL_in hl h0 hn ht
    have hall2 : ∀ t, t ∈ szL L n k → 0 ≤ t ∧ t < 9223372036854775808 := fun t ht => szL_in hl h0 (by omega) ht
    obtain ⟨ad, x, hA, hadb, hx, hcx⟩ := hL.at_ (k := n) (by omega)
    obtain ⟨m, hm, rfl⟩ : ∃ m : Nat, m ≤ 62 ∧ x = m := by
      obtain ⟨hx0, hx1⟩ := h0 x (List.mem_of_getElem? hx)
      exact ⟨x.toNat, by omega, by omega⟩
    subst hA
    have hsz : szL L (n + 1) (k + 1) = upTo (szL L n (k + 1)) (szL L n k) m (szL L n k).length := by
      show szL L n (k + 1) ++ (szL L n k).map _ = _
      unfold upTo
      rw [List.take_length, hx]
      rfl
    obtain ⟨D, hD⟩ : ∃ D, szL L n (k + 1) = D := ⟨_, rfl⟩
    obtain ⟨M, hM⟩ : ∃ M, szL L n k = M := ⟨_, rfl⟩
    rw [hD] at hsz hlen1 ih1
    rw [hM] at hsz hlen2 ih2 hall2
    have hbd : ∀ (q : Nat) (x' : Int), M[q]? = some x' → 0 ≤ x' ∧ 0 ≤ x' + pow2 m ∧ x' + pow2 m < 9223372036854775808 := by
      intro q x' hq
      have h1 := hall2 x' (List.mem_of_getElem? hq)
      have h2 := hall (x' + pow2 m) (by rw [hsz]; unfold upTo; rw [List.take_length]; exact List.mem_append_right _ (List.mem_map.2 ⟨x', List.mem_of_getElem? hq, rfl⟩))
      exact ⟨h1.1, h2⟩
    rw [hsz]
    clear hsz hall hall2 hx hM hD
    obtain ⟨nn, hnn⟩ : ∃ nn, nn = n + 1 := ⟨_, rfl⟩
    obtain ⟨kk, hkk⟩ : ∃ kk, kk = k + 1 := ⟨_, rfl⟩
    rw [← hnn, ← hkk]
    rw [← hkk] at ih1
    have e1 : (nn : Int) - 1 = (n : Int) := by omega
    have e2 : (kk : Int) - 1 = (k : Int) := by omega
    have e3 : ((kk : Int) == 0) = false := by simp; omega
    have e4 : IntKind.i64.wrap ((nn : Int) - 1) = (n : Int) := by rw [e1]; exact IntWalk.i64_in _ (by have := hL.len; omega)
    have e5 : IntKind.i64.wrap (n : Int) = (n : Int) := IntWalk.i64_in _ (by have := hL.len; omega)
    have hnL : nn ≤ 17592186043904 := by have := hL.len; omega
    have hDl : D.length ≤ 8192 := by omega
    have hMl : M.length ≤ 8192 := by omega
    have HNK := Lib.hid (And.intro hnn hkk)
    have hn0 : (0 : Int) ≤ (n : Int) := by omega
    have hn1 : (n : Int) < (L.length : Int) := by omega
    by_cases hlt : nn < kk
    · have hz1 : D = [] := List.eq_nil_of_length_eq_zero (by rw [hlen1]; exact chN_big _ _ (by omega))
      have hz2 : M = [] := List.eq_nil_of_length_eq_zero (by rw [hlen2]; exact chN_big _ _ (by omega))
      have hz3 : upTo D M m M.length = [] := by rw [hz1, hz2]; rfl
      rw [hz3]
      clear hz1 hz2 hz3 hlen1 hlen2 hnn hkk
      go_enter Tryd.func32, Tryd.ntmps32
      go_wp2
      go_ret
      exact ⟨none, 0, rfl, World.ownsRow_nil _ _ _ _, Below.refl _ _⟩
    clear hlen1 hlen2 hnn hkk
    go_enter Tryd.func32, Tryd.ntmps32
    go_wp2_with fail
    refine (ih1 _ _ hB hL).mono ?_
    rintro e w1 ⟨A1, c1, rfl, hown1, hb1⟩
    have s1 := hb1.size
    go_wp2_with fail
    refine (ih2 w1 w.heap.size s1 ((hL.below (hb1.mono hB)).more hB)).mono ?_
    rintro e w2 ⟨A2, c2, rfl, hown2, hb2⟩
    have s2 := hb2.size
    have hb12 : Below w.heap.size w w2 := hb1.trans (hb2.mono s1)
    have hownD : w2.ownsRow w.heap.size 3 1 (.slice A1 D.length c1) D.length (D.map (.int .i64)) := by
      rcases hown1.2 with ⟨h1, h2⟩ | ⟨g, cap, cur, h1, h2, h3, h4⟩
      · exact ⟨hown1.1, .inl ⟨h1, h2⟩⟩
      · exact ⟨hown1.1, .inr ⟨g, cap, cur, h1, h2, (hb2.block g (Array.getElem?_eq_some_iff.1 h3).1).trans h3, h4⟩⟩
    obtain ⟨gM, hgM1, hgM2, hgM3⟩ : ∃ gM, w1.heap.size ≤ gM ∧ (0 < M.length → A2 = some ⟨gM, 0, none⟩ ∧ gM < w2.heap.size) ∧ ∀ q, q < M.length → w2.cell? ⟨gM, q, none⟩ = some (.int .i64 (M[q]?.getD 0)) := by
      rcases hown2.2 with ⟨h1, h2⟩ | ⟨g, cap, cur, h1, h2, h3, h4⟩
      · exact ⟨w1.heap.size, Nat.le_refl _, fun h => absurd h (by omega), fun q hq => absurd hq (by omega)⟩
      · injection h1 with h1 _ _
        subst h1
        exact ⟨g, h2, fun _ => ⟨rfl, (Array.getElem?_eq_some_iff.1 h3).1⟩, own_cells hown2⟩
    have hneq : (Value.slice A1 D.length c1).ownBlock ≠ some gM := by
      intro e
      have := (hown1.lt gM e).2
      omega
    clear hown1 hown2 hb1 hb2 ih1 ih2
    go_wp2_with fail
    go_loopw [7, 9] (fun v i wr => ∃ (j : Nat) (A3 : Option Addr) (c3 : Nat), j ≤ M.length ∧ i = .int .i64 j ∧ v = .slice A3 (D.length + j) c3 ∧ wr.ownsRow w.heap.size 3 1 (.slice A3 (D.length + j) c3) (D.length + j) ((upTo D M m j).map (.int .i64)) ∧ Hid ((Value.slice A3 (D.length + j) c3).ownBlock ≠ some gM) ∧
      Hid (∀ q, q < M.length → wr.cell? ⟨gM, q, none⟩ = some (.int .i64 (M[q]?.getD 0))) ∧ Below w.heap.size w wr ∧ w2.heap.size ≤ wr.heap.size) (fun _ i _ => M.length - (intOf i).toNat)
    case atStart => exact ⟨0, A1, c1, by omega, rfl, rfl, by simpa [upTo] using hownD, Lib.hid hneq, Lib.hid hgM3, hb12, Nat.le_refl _⟩
    case round =>
      obtain ⟨j, A3, c3, hj, rfl, rfl, hown, hne, hcs, hbw, hsw⟩ := hrel
      by_cases hlt2 : j < M.length
      · obtain ⟨rfl, hgw⟩ := hgM2 (by omega)
        obtain ⟨x', hx'⟩ : ∃ x', M[j]? = some x' := ⟨_, List.getElem?_eq_getElem hlt2⟩
        have hcm : wr.cell? ⟨gM, j, none⟩ = some (.int .i64 x') := by have := hcs.out j hlt2; rw [hx'] at this; exact this
        have hcl : wr.cell? (ad.add n) = some (.int .i64 (m : Int)) := (hbw.cell (by rw [block_of_add]; omega)).trans hcx
        obtain ⟨b0, b1, b2⟩ := hbd j x' hx'
        have hW : IntKind.i64.wrap (x' + pow2 m) = x' + pow2 m := IntWalk.i64_in _ (by generalize pow2 m = p at *; omega)
        have HST := Lib.hid (upTo_step (D := D) (m := m) hx')
        have hz := hbw.size
        have hj0 : (0 : Int) ≤ (j : Int) := by omega
        have hjn : (j : Int) < (M.length : Int) := by omega
        have hadw : (ad.add n).block < wr.heap.size := by rw [block_of_add]; omega
        have hadw2 : (ad.add n).block < w.heap.size := by rw [block_of_add]; omega
        have hgw2 : gM < wr.heap.size := by omega
        have hsx : ∀ o, (wr.alloc o).cell? ⟨gM, j, none⟩ = some (.int .i64 x') := fun o => (World.cell?_alloc_lt wr o _ hgw2).trans hcm
        have hsm : ∀ o, (wr.alloc o).cell? (ad.add n) = some (.int .i64 (m : Int)) := fun o => (World.cell?_alloc_lt wr o _ hadw).trans hcl
        have HBD := Lib.hid (And.intro hcx hbd)
        clear hx' b0 b1 b2 hcx hbd hgM2 hgM3
        go_wp2
        go_region_held3 (fun w' => w'.cell? ⟨gM, j, none⟩ = some (.int .i64 x') ∧ w'.cell? (ad.add n) = some (.int .i64 (m : Int))) (go_keep)
          (first
            | (go_simp; go_at_call 26; refine (bit_any m hm _).mono ?_; rintro e w4 ⟨rfl, rfl⟩)
            | (refine step_push_any (by rfl) _ _ (by rfl) w.heap.size A3 (D.length + j) c3 (upTo D M m j) (by rfl) (by exact (hown.alloc _)) wr.heap.size (x' + pow2 m) (by rfl) (by simp) (by omega) (by simp; omega) ?_; intro g4 c4 w4 hown4 hg4 hd4; have k1 : w4.cell? ⟨gM, j, none⟩ = some (.int .i64 x') := hg4.cell (hsx _) (by intro e; exact hne.out e.symm); have k2 : w4.cell? (ad.add n) = some (.int .i64 (m : Int)) := hg4.cell (hsm _) (by intro e; have := (hown.lt _ e.symm).1; omega)))
        all_goals go_wp2
        all_goals go_roundw
        case rel =>
          refine ⟨j + 1, some ⟨g4, 0, none⟩, c4, by omega, by go_num, rfl, by rw [HST.out]; exact hown4, Lib.hid ?_, Lib.hid ?_, ?_, Nat.le_trans hsw (Nat.le_trans (by simp) hg4.size)⟩
          · rcases hd4 with h | h
            · intro e; rw [show (Value.slice (some ⟨g4, 0, none⟩) (D.length + (j + 1)) c4).ownBlock = some g4 from rfl] at e; rw [← h] at e; exact hne.out e
            · intro e; rw [show (Value.slice (some ⟨g4, 0, none⟩) (D.length + (j + 1)) c4).ownBlock = some g4 from rfl] at e; injection e with e; simp at h; omega
          · intro q hq
            exact hg4.cell ((World.cell?_alloc_lt wr _ _ hgw2).trans (hcs.out q hq)) (by intro e; exact hne.out e.symm)
          · exact ((hbw.alloc hz _).drew).grown hg4 (Nat.le_trans hz (by simp)) (fun q e => (hown.lt q e).1)
        case measure => simp [intOf]; omega
      · have hjn : j = M.length := by omega
        subst hjn
        go_wp2
        go_ret
        exact ⟨A3, c3, by rw [upTo_len _ _ _ _ (Nat.le_refl _)]; rfl, by rw [upTo_len _ _ _ _ (Nat.le_refl _)]; exact hown, hbw⟩
end Go.Proofs.YtdmedphpddhjcaaDoor.sets
