/- The load of a set of orders: the reference. -/
import Derived.Test.YthkbfmbohoclaaaDoorOrdD
import Derived.Test.YthkbfmbohoclaaaDoorOwnR
namespace Go.Proofs.YthkbfmbohoclaaaDoor.ord
open Go.RowKit
open Go.Proofs.YthkbfmbohoclaaaDoor.lib Go.Proofs.YthkbfmbohoclaaaDoor.rd Go.Proofs.YthkbfmbohoclaaaDoor.typ Go.Proofs.YthkbfmbohoclaaaDoor.sumr Go.Proofs.YthkbfmbohoclaaaDoor.loads Go.Proofs.YthkbfmbohoclaaaDoor.sets Go.Proofs.YthkbfmbohoclaaaDoor.app
set_option linter.unusedVariables false
attribute [local go_sem ↓] Go.wp_at_zero Go.wp_at_succ

theorem ints_elem : ElemOf 72 33 (.slice none 0 0) 1 24 := ⟨Tryd.underlying72, by kernel_rfl, rfl, by decide, by decide⟩
def CellsOf (w : World) (B : Nat) (cs : List Value) (rs : List (List Int)) : Prop := cs.length = rs.length ∧ ∀ (i : Nat) (r : List Int), rs[i]? = some r → ∃ Ai ci, cs[i]? = some (.slice Ai r.length ci) ∧ Ints w B Ai r
theorem CellsOf.nil {w : World} {B : Nat} : CellsOf w B [] [] := ⟨rfl, fun i r h => by simp at h⟩
theorem CellsOf.snoc {w : World} {B : Nat} {cs : List Value} {rs : List (List Int)} {Ai : Option Addr} {ci : Nat} {r : List Int} (h : CellsOf w B cs rs) (hI : Ints w B Ai r) : CellsOf w B (cs ++ [.slice Ai r.length ci]) (rs ++ [r]) := by
  obtain ⟨h1, h2⟩ := h
  refine ⟨by simp [h1], fun i x hx => ?_⟩
  rcases Nat.lt_or_ge i rs.length with hi | hi
  · rw [List.getElem?_append_left hi] at hx
    rw [List.getElem?_append_left (by omega)]
    exact h2 i x hx
  · rw [List.getElem?_append_right hi] at hx
    rw [List.getElem?_append_right (by omega), h1]
    rcases Nat.eq_or_lt_of_le hi with rfl | hlt
    · rw [Nat.sub_self] at hx ⊢
      simp at hx
      subst hx
      exact ⟨Ai, ci, rfl, hI⟩
    · rw [List.getElem?_eq_none (by simp; omega)] at hx; cases hx
theorem CellsOf.rows2 {w w' : World} {B base c : Nat} {e : TypeId} {A : Option Addr} {cs : List Value} {rs : List (List Int)} (h : CellsOf w B cs rs) (hb : Below B w w') (hB : B ≤ w'.heap.size) (hown : w'.ownsRow base e 1 (.slice A rs.length c) rs.length cs) (hl : rs.length ≤ 17592186043904) : Rows2 w' w'.heap.size A rs :=
  ⟨hl, cs, Reads.of_own hown, fun i r hr => by
    obtain ⟨Ai, ci, h1, h2⟩ := h.2 i r hr
    exact ⟨Ai, ci, h1, (h2.below hb).more hB⟩⟩
theorem rowsOf_len (l : List Ord) (ms : List Int) : (rowsOf l ms).length = ms.length := by unfold rowsOf; rw [List.length_map]
theorem rowsOf_take {l : List Ord} {ms : List Int} {k i : Nat} {o : Ord} (h : ms[k]? = some (i : Int)) (ho : l[i]? = some o) : (rowsOf l ms).take (k + 1) = (rowsOf l ms).take k ++ [o.load] := by
  obtain ⟨h1, h2⟩ := List.getElem?_eq_some_iff.1 (rowsOf_at h ho)
  rw [List.take_succ_eq_append_getElem h1, h2]

theorem rload_neg (A : Option Addr) (n c : Nat) (s dims : Int) (h : s < 0) (l : List Ord) (w : World) :
    Calls Tryd.prog 27 #[.slice A n c, .int .i64 s, .int .i64 dims] w (OutF w (loadF l s dims)) := by
  have HN := Lib.hid (loadF_neg (l := l) (dims := dims) h)
  go_enter Tryd.func27, Tryd.ntmps27
  go_wp2
  go_ret2
  exact .inr ⟨HN.out, rfl, Below.refl _ _⟩
theorem rload_dims (A : Option Addr) (n c : Nat) (s dims : Int) (h0 : 0 ≤ s) (h : dims < 0 ∨ 3 < dims) (l : List Ord) (w : World) :
    Calls Tryd.prog 27 #[.slice A n c, .int .i64 s, .int .i64 dims] w (OutF w (loadF l s dims)) := by
  have HN := Lib.hid (loadF_dims (l := l) (s := s) h)
  have hq : (decide ((0 : Int) ≤ dims) && decide (dims ≤ 3)) = false := by rcases h with h | h <;> simp <;> omega
  clear h
  go_enter Tryd.func27, Tryd.ntmps27
  go_wp2_with (go_at_call 47; refine (in_any _ _ _ _).mono ?_; rw [hq]; rintro e w1 ⟨rfl, rfl⟩)
  go_ret2
  exact .inr ⟨HN.out, rfl, Below.refl _ _⟩
theorem OutF.low {w w1 : World} {r : Option (List Int)} {e : Ending} {w' : World} (h : OutF w1 r e w') (hb : Below w.heap.size w w1) : OutF w r e w' := by
  have hz := hb.size
  rcases h with ⟨l, h1, A, c, h2, h3, h4⟩ | ⟨h1, h2, h3⟩
  · exact .inl ⟨l, h1, A, c, h2, own_less h3 hz, hb.trans (h4.mono hz)⟩
  · exact .inr ⟨h1, h2, hb.trans (h3.mono hz)⟩

set_option maxHeartbeats 4000000 in
theorem rload_in (A : Option Addr) (c : Nat) (l : List Ord) (s : Int) (h0 : 0 ≤ s) (hs : s ≤ 9223372036854775807) (d : Nat) (hd : d ≤ 3) (hl : l.length ≤ 14) (w : World) (hL : RowAt rOrd w w.heap.size A l) (hi : ∀ o, o ∈ l → InM 1073741824 o.load) :
    Calls Tryd.prog 27 #[.slice A l.length c, .int .i64 s, .int .i64 d] w (OutF w (loadF l s d)) := by
  have hq : (decide ((0 : Int) ≤ (d : Int)) && decide ((d : Int) ≤ 3)) = true := by simp; omega
  obtain ⟨n, hn⟩ : ∃ n, l.length = n := ⟨_, rfl⟩
  have HOUT : Hid (inAll (memL s) n = false → loadF l s d = none) := Lib.hid fun h => loadF_out (by rw [hn]; exact h)
  have HIN : Hid (inAll (memL s) n = true → loadF l s d = foldR (fun x y => x + y) (rowsOf l (memL s)) d) := Lib.hid fun h => loadF_in h0 (by rw [hn]; exact h)
  have HIR : Hid (∀ ms : List Int, ∀ r, r ∈ rowsOf l ms → InM 1073741824 r) := Lib.hid fun ms r hr => by
    obtain ⟨m, _, rfl⟩ := List.mem_map.1 hr
    unfold loadOf
    split
    · rename_i o ho; exact hi o (List.mem_of_getElem? ho)
    · intro x hx; simp at hx
  have HN := Lib.hid hn
  rw [hn] at hl ⊢
  clear hn hi
  obtain ⟨F, hF⟩ : ∃ F, loadF l s d = F := ⟨_, rfl⟩
  rw [hF] at HOUT HIN ⊢
  clear hF
  go_enter Tryd.func27, Tryd.ntmps27
  go_wp2_with (first
    | (go_at_call 47; refine (in_any _ _ _ _).mono ?_; rw [hq]; rintro e w1 ⟨rfl, rfl⟩)
    | (go_at_call 48; refine (rmembers_any _ h0 hs _).mono ?_; rintro e w1 ⟨A1, c1, rfl, hownM, hb1⟩))
  have hmem := Lib.hid (fun x (h : x ∈ memL s) => mem_nonneg h)
  have hml := memL_len s
  have hIM : Ints w1 w1.heap.size A1 (memL s) := Ints.of_own hownM (by omega)
  obtain ⟨ms, hms⟩ : ∃ ms, memL s = ms := ⟨_, rfl⟩
  rw [hms] at hmem hml hIM HOUT HIN
  try rw [hms]
  clear hms hownM
  have hz1 := hb1.size
  go_loopw [9, 10] (fun v i wr => ∃ (k : Nat) (A2 : Option Addr) (c2 : Nat) (cs : List Value), k ≤ ms.length ∧ i = .int .i64 k ∧ v = .slice A2 k c2 ∧ wr.ownsRow w1.heap.size 33 1 (.slice A2 k c2) k cs ∧ Hid (CellsOf w w.heap.size cs ((rowsOf l ms).take k)) ∧ Hid (inTo ms n k) ∧ Below w1.heap.size w1 wr) (fun _ i _ => ms.length - (intOf i).toNat)
  case atStart => exact ⟨0, none, 0, [], by omega, rfl, rfl, World.ownsRow_nil _ _ _ _, Lib.hid (by rw [List.take_zero]; exact CellsOf.nil), Lib.hid (fun j o hj => absurd hj (by omega)), Below.refl _ _⟩
  case round =>
    obtain ⟨k, A2, c2, cs, hk, rfl, rfl, hown, hcs, hr, hbel⟩ := hrel
    have hz := hbel.size
    have hB : Below w.heap.size w wr := hb1.trans (hbel.mono hz1)
    by_cases hlt : k < ms.length
    · obtain ⟨adm, x, rfl, hadb, hx, hcx⟩ := (hIM.below hbel).at_ hlt
      have hx0 := (hmem.out x (List.mem_of_getElem? hx)).1
      by_cases hxn : x < n
      · have HX := Lib.hid (inTo_step hr.out hx hxn)
        obtain ⟨i, rfl⟩ := Int.eq_ofNat_of_zero_le hx0
        have hin : i < n := by omega
        obtain ⟨o, ho⟩ : ∃ o, l[i]? = some o := ⟨_, List.getElem?_eq_getElem (by rw [HN.out]; exact hin)⟩
        obtain ⟨ad, C0, c0, rfl, hado, ⟨m0, m1, _⟩, hIo, hf⟩ := row_Ord (hL.below hB) ho
        have HIo : Hid (Ints w w.heap.size C0 o.load) := Lib.hid (Go.Proofs.YthkbfmbohoclaaaDoor.rd.Ints.keep (fun p hp => (hB.cell hp).symm) hIo)
        have HT := Lib.hid (rowsOf_take hx ho)
        have hi0 : (0 : Int) ≤ (i : Int) := by omega
        have hk0 : (0 : Int) ≤ (k : Int) := by omega
        have hkn : (k : Int) < (ms.length : Int) := by omega
        clear hx ho m0 hf hIo
        go_wp2_with (at_builtin; refine wpList_app ints_elem _ _ rfl w1.heap.size A2 k c2 cs rfl (hown.alloc _) ⟨wr.heap.size, 0, none⟩ 1 [.slice C0 o.load.length c0] rfl rfl (one_new _ _ _) (by simp [Value.oneCell']) (by omega) (by simp; omega) rfl ?_; intro g3 c3 w3 hown3 hg3 hd3)
        go_roundw
        case rel => exact ⟨k + 1, some ⟨g3, 0, none⟩, c3, _, by omega, by go_num, rfl, hown3, Lib.hid (by rw [HT.out]; exact hcs.out.snoc HIo.out), HX, (hbel.alloc hz _).grown hg3 (by simp; omega) (fun q e => (World.ownsRow.lt hown q e).1)⟩
        case measure => simp [intOf]; omega
      · have HX := Lib.hid (HOUT.out (inTo_no hx hxn))
        have hge : (n : Int) ≤ x := by omega
        have hk0 : (0 : Int) ≤ (k : Int) := by omega
        have hkn : (k : Int) < (ms.length : Int) := by omega
        clear hx
        go_wp2
        go_ret2
        exact .inr ⟨HX.out, rfl, hB⟩
    · have hkn : k = ms.length := by omega
      subst hkn
      have HX := Lib.hid (HIN.out (inTo_all hr.out))
      have hlr := rowsOf_len l ms
      have HR2 : Hid (Rows2 wr wr.heap.size A2 (rowsOf l ms)) := by
        have h1 := hcs.out
        rw [List.take_of_length_le (by rw [hlr]; exact Nat.le_refl _)] at h1
        rw [← hlr] at hown
        exact Lib.hid (h1.rows2 hB (by omega) hown (by omega))
      have HSUM := rplus_any A2 c2 (rowsOf l ms) d (by omega) wr wr.heap.size (Nat.le_refl _) HR2.out (HIR.out ms)
      rw [hlr, ← HX.out] at HSUM
      have HS := Lib.hid HSUM
      clear HSUM hlr hlt HX
      go_wp2_with fail
      refine HS.out.mono ?_
      rintro e w2 (⟨L, hF, A3, c3, rfl, hown3, hb3⟩ | ⟨hF, rfl, hb3⟩)
      · go_wp2
        go_ret2
        exact .inl ⟨L, hF, A3, c3, rfl, own_less hown3 (by omega), hB.trans (hb3.mono (by omega))⟩
      · go_wp2
        go_ret2
        exact .inr ⟨hF, rfl, hB.trans (hb3.mono (by omega))⟩
end Go.Proofs.YthkbfmbohoclaaaDoor.ord
