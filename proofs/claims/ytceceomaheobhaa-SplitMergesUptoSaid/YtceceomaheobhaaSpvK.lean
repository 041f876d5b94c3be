/- The law SplitMerges: small, and rows under construction whose elements lead to given blocks. -/
import Derived.Test.YtceceomaheobhaaSpvJ
import Derived.Test.YtceceomaheobhaaSpvH
namespace Go.Proofs.Ytceceomaheobhaa.spl
open Go.RowKit
open Go.Proofs.Ytceceomaheobhaa.lib Go.Proofs.Ytceceomaheobhaa.rd Go.Proofs.Ytceceomaheobhaa.app Go.Proofs.Ytceceomaheobhaa.els Go.Proofs.Ytceceomaheobhaa.loads Go.Proofs.Ytceceomaheobhaa.typ Go.Proofs.Ytceceomaheobhaa.big Go.Proofs.Ytceceomaheobhaa.ins Go.Proofs.Ytceceomaheobhaa.ord Go.Proofs.Ytceceomaheobhaa.flts Go.Proofs.Ytceceomaheobhaa.off
set_option linter.unusedVariables false
set_option linter.unusedSimpArgs false

theorem IntsOff.arg {w : World} {B : Nat} {P : Nat → Prop} {A : Option Addr} {l : List Int} (h : Ints w B A l) (hB : B ≤ w.heap.size) (hP : ∀ b, b < B → P b) : IntsOff w P A l := by
  refine ⟨h.more hB, fun h0 => ?_⟩
  obtain ⟨ad, hA, hb, _⟩ := h.1.2 h0
  exact ⟨ad, hA, hP _ hb⟩
/-- A row under construction; its elements lead to blocks of which Q holds. -/
structure GSt {X : Type} (r : Off X) (e : TypeId) (base : Nat) (Q : Nat → Prop) (W : World) (xs : List X) (wr : World) (B : Option Addr) (d : Nat) (cs : List Value) : Prop where
  own : wr.ownsRow base e r.rd.size (.slice B xs.length d) xs.length cs
  els : EG r wr (fun b => some b ≠ (Value.slice B xs.length d).ownBlock ∧ Q b) cs xs
  bel : Below base W wr
section
variable {X : Type} {r : Off X} {e : TypeId} {base : Nat} {Q : Nat → Prop} {W : World} {xs : List X} {wr wx : World} {B : Option Addr} {d : Nat} {cs : List Value}
theorem GSt.nil (W : World) : GSt r e base Q W [] W none 0 [] := ⟨World.ownsRow_nil _ _ _ _, EG.nil, Below.refl _ _⟩
theorem GSt.below (h : GSt r e base Q W xs wr B d cs) (hb : Below wr.heap.size wr wx) (hz : base ≤ wr.heap.size) : GSt r e base Q W xs wx B d cs := ⟨own_below h.own hb, h.els.below hb, h.bel.trans (hb.mono hz)⟩
theorem GSt.push (h : GSt r e base Q W xs wr B d cs) {x : X} {c : List Value} {g c' : Nat} (hx : r.at_ wr (fun b => some b ≠ (Value.slice B xs.length d).ownBlock ∧ Q b) c x)
    (hown : wx.ownsRow base e r.rd.size (.slice (some ⟨g, 0, none⟩) (xs.length + 1) c') (xs.length + 1) (cs ++ c)) (hg : wr.grownBy wx (Value.slice B xs.length d).ownBlock) (hd : (Value.slice B xs.length d).ownBlock = some g ∨ wr.heap.size ≤ g) (hz : base ≤ wr.heap.size) :
    GSt r e base Q W (xs ++ [x]) wx (some ⟨g, 0, none⟩) c' (cs ++ c) := by
  refine ⟨by rw [List.length_append]; exact hown, ?_, h.bel.grown hg hz (fun q e => (World.ownsRow.lt h.own q e).1)⟩
  exact h.els.push hx hg hd
end
def smallB (rs : List Rou) : Bool := decide (rs.length ≤ 12) && rs.all (fun r => decide (r.visits.length ≤ 40))
theorem small_at {rs : List Rou} {k : Nat} {r : Rou} (h : rs[k]? = some r) : (rs.drop k).all (fun r => decide (r.visits.length ≤ 40)) = (decide (r.visits.length ≤ 40) && (rs.drop (k + 1)).all (fun r => decide (r.visits.length ≤ 40))) := by
  rw [drop_at' h, List.all_cons]
set_option maxRecDepth 20000 in
set_option maxHeartbeats 4000000 in
theorem small_any (AR : Option Addr) (cR : Nat) (rs : List Rou) (A4 : Option Addr) (n4 c4 : Nat) (w : World) (hV : RowAt rRou w w.heap.size AR rs) :
    Calls Try.prog 17 #[.agg #[.slice AR rs.length cR, .slice A4 n4 c4]] w fun e w' => e = .returned (.bool (smallB rs)) ∧ Below w.heap.size w w' := by
  obtain ⟨W0, hW0⟩ : ∃ W0, w.alloc (.cells #[.slice AR rs.length cR, .slice A4 n4 c4] 46) = W0 := ⟨_, rfl⟩
  have hB0 : Below w.heap.size w W0 := by rw [← hW0]; exact (Below.refl _ _).alloc (Nat.le_refl _) _
  have z0 := hB0.size
  have hs0 : w.heap.size < W0.heap.size := by rw [← hW0]; simp
  obtain ⟨m, hm⟩ : ∃ m, rs.length = m := ⟨_, rfl⟩
  have hlm := hV.1
  have v0 : W0.cell? ⟨w.heap.size, 0, none⟩ = some (.slice AR m cR) := by rw [← hW0, ← hm]; exact two_new w _ _ _ 0 _ rfl
  have HV := Lib.hid (fun w' (h' : Below W0.heap.size W0 w') => hV.below (hB0.trans (h'.mono z0)))
  have HM := Lib.hid hm
  have HS : Hid (smallB rs = (decide (m ≤ 12) && (rs.drop 0).all (fun r => decide (r.visits.length ≤ 40)))) := Lib.hid (by rw [← hm]; rfl)
  rw [hm] at hW0 hlm ⊢
  have HW0 := Lib.hid hW0
  clear hW0 hV hm
  go_enter Try.func17, Try.ntmps17
  go_upto_region 1 with fail
  rw [HW0.out]
  clear HW0
  by_cases h12 : m ≤ 12
  · have h12' : ¬ (12 : Int) < (m : Int) := by omega
    have HS2 : Hid (smallB rs = (rs.drop 0).all (fun r => decide (r.visits.length ≤ 40))) := Lib.hid (by rw [HS.out, decide_eq_true h12, Bool.true_and])
    go_wp2_with fail
    clear v0
    go_loopw [4, 12] (fun _ i wr => ∃ j : Nat, j ≤ m ∧ i = .int .i64 j ∧ Hid (smallB rs = (rs.drop j).all (fun r => decide (r.visits.length ≤ 40))) ∧ Hid (Below W0.heap.size W0 wr)) (fun _ i _ => m - (intOf i).toNat)
    case atStart => exact ⟨0, by omega, rfl, HS2, Lib.hid (Below.refl _ _)⟩
    case round =>
      clear HS2
      obtain ⟨j, hj, rfl, hs, HB⟩ := hrel
      by_cases hlt : j < m
      · obtain ⟨r, hr⟩ : ∃ r, rs[j]? = some r := ⟨_, List.getElem?_eq_getElem (by rw [HM.out]; exact hlt)⟩
        obtain ⟨ad, cs0, hA, hadb, hat, hcs⟩ := (HV.out _ HB.out).elem hr
        obtain ⟨v0, C, c, rfl, hvis, hv1⟩ := rRou_at hat
        have HT := Lib.hid (small_at hr)
        have HC := Lib.hid hcs
        have hzr := HB.out.size
        have hj0 : (0 : Int) ≤ (j : Int) := by omega
        have hjn : (j : Int) < (m : Int) := by omega
        rw [hA]
        clear hr hat hcs hvis
        go_upto_region 6 with (first
          | ((with_reducible refine wpList_loadG stRou _ rfl (ad.add (j * 4)) (RouCells r v0 C c) ?_ ?_ ?_ ?_ ?_); exact rfl; exact rfl; exact HC.out; exact rfl)
          | ((with_reducible refine wpList_storeL stRou rfl _ _ rfl wr.heap.size [.int .i64 0, .int .i64 0, .slice none 0 0, .slice none 0 0] (RouCells r v0 C c) ?_ ?_ ?_ ?_ ?_ (rouCells_one _ _ _ hv1) ?_); exact rfl; exact rfl; exact World.alloc_heap_new wr _; exact rfl; exact rfl; intro w4 k1 k2 k3 k4; have K := Lib.hid (And.intro k1 (And.intro k2 (And.intro k3 k4))); clear k1 k2 k3 k4))
        (try simp only [Act.put, List.getElem_toArray, List.getElem_cons_succ, List.getElem_cons_zero, List.setIfInBounds_toArray, List.set_cons_zero, List.set_cons_succ])
        obtain ⟨k1, k2, k3, k4⟩ := K.out
        have b4 : Below wr.heap.size wr w4 := ((Below.refl _ _).alloc (Nat.le_refl _) _).trans k4
        obtain ⟨nv, hnv⟩ : ∃ n, r.visits.length = n := ⟨_, rfl⟩
        have c3 : w4.cell? ⟨wr.heap.size, 3, none⟩ = some (.slice C nv c) := by
          have h := World.news_of_block (w := w4) (B := wr.heap.size) k1 3 (.slice C r.visits.length c) (by simp [RouCells])
          rw [hnv] at h
          exact h
        have HB4 := Lib.hid (HB.out.trans (b4.mono hzr))
        have HNV := Lib.hid hnv
        clear k1 k2 k3 k4 b4 K HC hnv
        by_cases h40 : nv ≤ 40
        · have h40' : ¬ (40 : Int) < (nv : Int) := by omega
          have HN : Hid (smallB rs = (rs.drop (j + 1)).all (fun r => decide (r.visits.length ≤ 40))) := Lib.hid (by rw [hs.out, HT.out, HNV.out, decide_eq_true h40, Bool.true_and])
          go_wp2_with fail
          exact ⟨⟨j + 1, by omega, by go_num, HN, HB4⟩, by simp [intOf]; omega⟩
        · have h40' : (40 : Int) < (nv : Int) := by omega
          have HN : Hid (smallB rs = false) := Lib.hid (by rw [hs.out, HT.out, HNV.out, decide_eq_false h40, Bool.false_and])
          go_wp2_with fail
          go_ret
          exact ⟨by rw [HN.out]; rfl, hB0.trans (HB4.out.mono z0)⟩
      · have hjm : j = m := by omega
        subst hjm
        clear hlt
        have HN : Hid (smallB rs = true) := Lib.hid (by rw [hs.out, List.drop_of_length_le (by rw [HM.out]; exact Nat.le_refl _)]; rfl)
        go_wp2_with fail
        go_ret
        exact ⟨by rw [HN.out]; rfl, hB0.trans (HB.out.mono z0)⟩
  · have h12' : (12 : Int) < (m : Int) := by omega
    have HN : Hid (smallB rs = false) := Lib.hid (by rw [HS.out, decide_eq_false h12, Bool.false_and])
    go_wp2_with fail
    go_ret
    exact ⟨by rw [HN.out]; rfl, hB0⟩
end Go.Proofs.Ytceceomaheobhaa.spl
