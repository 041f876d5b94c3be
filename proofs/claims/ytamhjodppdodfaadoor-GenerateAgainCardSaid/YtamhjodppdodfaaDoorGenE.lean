/- Networks that are drawn: the program. -/
import Derived.Test.YtamhjodppdodfaaDoorGenD
import Derived.Test.YtamhjodppdodfaaDoorGenT
import Derived.Test.YtamhjodppdodfaaDoorBase
import Derived.Deep.RegionHeld3
namespace Go.Proofs.YtamhjodppdodfaaDoor.gen
open Go.RowKit
open Go.Proofs.YtamhjodppdodfaaDoor.lib Go.Proofs.YtamhjodppdodfaaDoor.rd Go.Proofs.YtamhjodppdodfaaDoor.app Go.Proofs.YtamhjodppdodfaaDoor.els Go.Proofs.YtamhjodppdodfaaDoor.typ Go.Proofs.YtamhjodppdodfaaDoor.txt Go.Proofs.YtamhjodppdodfaaDoor.big Go.Proofs.YtamhjodppdodfaaDoor.off
set_option linter.unusedVariables false
set_option linter.unusedSimpArgs false

/-- The blocks of which K holds stay. -/
def Fr (K : Nat → Prop) (w w' : World) : Prop := w.heap.size ≤ w'.heap.size ∧ ∀ b, b < w.heap.size → K b → w'.heap[b]? = w.heap[b]?
theorem Fr.trans {K : Nat → Prop} {a b c : World} (h : Fr K a b) (k : Fr K b c) : Fr K a c := ⟨Nat.le_trans h.1 k.1, fun i hi hK => (k.2 i (Nat.lt_of_lt_of_le hi h.1) hK).trans (h.2 i hi hK)⟩
theorem Fr.below {K : Nat → Prop} {w w' : World} (h : Below w.heap.size w w') : Fr K w w' := ⟨h.size, fun b hb _ => h.block b hb⟩
theorem Fr.grown {K : Nat → Prop} {w w' : World} {row : Option Nat} (h : w.grownBy w' row) (hn : ∀ b, K b → some b ≠ row) : Fr K w w' := ⟨h.size, fun b hb hK => h.block b hb (hn b hK)⟩
theorem Fr.set {K : Nat → Prop} (w : World) {q : Nat} (i : Nat) (u : Value) (hn : ∀ b, K b → b ≠ q) : Fr K w (w.setCell ⟨q, i, none⟩ u) := ⟨by simp [World.setCell], fun b _ hK => Below.heap_setCell w ⟨q, i, none⟩ u b (hn b hK)⟩
theorem Fr.drew {K : Nat → Prop} (w : World) : Fr K w w.drew := ⟨Nat.le_refl _, fun _ _ _ => rfl⟩
theorem Fr.weak {K K' : Nat → Prop} {w w' : World} (h : Fr K w w') (hk : ∀ b, K' b → K b) : Fr K' w w' := ⟨h.1, fun b hb hK => h.2 b hb (hk b hK)⟩
theorem Blk.fr {K : Nat → Prop} {w w' : World} {b : Nat} {t : TypeId} {cs : List Value} (h : Blk w b t cs) (hf : Fr K w w') (hb : K b) : Blk w' b t cs := (hf.2 b h.lt hb).trans h
theorem rowOff_fr {X : Type} {r : Off X} {w w' : World} {P : Nat → Prop} {A : Option Addr} {l : List X} (h : RowOff r w P A l) (hf : Fr P w w') : RowOff r w' P A l := h.keep hf.1 (fun b hb hp => ⟨hp, hf.2 b hb hp⟩)
theorem own_fr {w w' : World} {base : Nat} {e : TypeId} {size n : Nat} {v : Value} {xs : List Value} (h : w.ownsRow base e size v n xs) (hf : Fr (fun b => base ≤ b) w w') : w'.ownsRow base e size v n xs := by
  rcases h.2 with ⟨h6, h7⟩ | ⟨g, cap, cur, h6, h7, h8, h9⟩
  · exact ⟨h.1, .inl ⟨h6, h7⟩⟩
  · exact ⟨h.1, .inr ⟨g, cap, cur, h6, h7, (hf.2 g (Array.getElem?_eq_some_iff.1 h8).1 h7).trans h8, h9⟩⟩
/-- A row of the call's own under construction, whose elements lead to blocks from base on. -/
structure Row {X : Type} (r : Off X) (e : TypeId) (base : Nat) (wr : World) (xs : List X) (A : Option Addr) (c : Nat) (cs : List Value) : Prop where
  own : wr.ownsRow base e r.rd.size (.slice A xs.length c) xs.length cs
  els : EG r wr (fun b => some b ≠ (Value.slice A xs.length c).ownBlock ∧ base ≤ b) cs xs
section
variable {X : Type} {r : Off X} {e : TypeId} {base : Nat} {wr wx : World} {xs : List X} {A : Option Addr} {c : Nat} {cs : List Value}
theorem Row.nil : Row r e base wr [] none 0 [] := ⟨World.ownsRow_nil _ _ _ _, EG.nil⟩
theorem Row.fr (h : Row r e base wr xs A c cs) (hf : Fr (fun b => base ≤ b) wr wx) : Row r e base wx xs A c cs := ⟨own_fr h.own hf, h.els.keep hf.1 (fun b hb hp => ⟨hp, hf.2 b hb hp.2⟩)⟩
theorem Row.push (h : Row r e base wr xs A c cs) {x : X} {cx : List Value} {g c' : Nat} (hx : r.at_ wr (fun b => some b ≠ (Value.slice A xs.length c).ownBlock ∧ base ≤ b) cx x)
    (hown : wx.ownsRow base e r.rd.size (.slice (some ⟨g, 0, none⟩) (xs.length + 1) c') (xs.length + 1) (cs ++ cx)) (hg : wr.grownBy wx (Value.slice A xs.length c).ownBlock) (hd : (Value.slice A xs.length c).ownBlock = some g ∨ wr.heap.size ≤ g) :
    Row r e base wx (xs ++ [x]) (some ⟨g, 0, none⟩) c' (cs ++ cx) := ⟨by rw [List.length_append]; exact hown, h.els.push hx hg hd⟩
theorem Row.off (h : Row r e base wr xs A c cs) (hl : xs.length ≤ 17592186043904) : RowOff r wr (fun b => base ≤ b) A xs := h.els.off h.own hl (fun b _ hb => hb.2) (fun b hb => hb)
theorem Row.lo (h : Row r e base wr xs A c cs) {q : Nat} (e' : (Value.slice A xs.length c).ownBlock = some q) : base ≤ q := (World.ownsRow.lt h.own q e').1
end
theorem str_elem : ElemOf 22 9 (.string ⟨#[]⟩) 1 16 := ⟨Tryd.underlying22, by kernel_rfl, rfl, by decide, by decide⟩
theorem arc_elem : ElemOf 23 68 (.agg #[.int .i64 0, .int .i64 0, .int .i64 0, .int .i64 0, .slice none 0 0, .slice none 0 0]) 6 80 := ⟨Tryd.underlying23, by kernel_rfl, rfl, by decide, by decide⟩
theorem plcs_len' (n : Nat) : (plcs n).length = n := by unfold plcs; simp
theorem plcs_succ (n : Nat) : plcs (n + 1) = plcs n ++ [plcN n] := by unfold plcs; rw [List.range_succ, List.map_append]; rfl
theorem plcN_size (i : Nat) : (plcN i).size ≤ 100 := by
  unfold plcN
  rw [ByteArray.size_append]
  have := decS_size i
  show 1 + _ ≤ _
  omega
theorem pts_all (p : Pt) (s : Int) (hp : 0 ≤ p.t ∧ p.t ≤ 50 ∧ 0 ≤ p.a ∧ p.a ≤ 110) : ∀ k : Nat, k ≤ 10 → ∀ q ∈ (ptsTo p s k).1, 0 ≤ q.t ∧ q.t ≤ 2000 ∧ 0 ≤ q.a ∧ q.a ≤ 2000
  | 0, _, q, hq => by
    have hq' : q = p := by simpa [ptsTo] using hq
    subst hq'
    omega
  | k + 1, hk, q, hq => by
    have h := pts_bd p s hp (k + 1)
    rw [ptsTo] at hq h
    rcases List.mem_append.1 hq with hq | hq
    · exact pts_all p s hp k (by omega) q hq
    · rw [List.mem_singleton] at hq
      subst hq
      simp only at h
      push_cast at h
      omega
theorem trv_fits (s : Int) : (trvF s).1.length ≤ 3 ∧ ∀ q ∈ (trvF s).1, PtFits q := by
  have f0 := frm_bd (s := s) (a := 1) (b := 3) (by omega)
  have f1 := frm_bd (s := nx 1 s) (a := 0) (b := 50) (by omega)
  have f2 := frm_bd (s := nx 2 s) (a := 1) (b := 60) (by omega)
  have hn : trvN s ≤ 2 := by unfold trvN; omega
  refine ⟨by unfold trvF; rw [pts_len]; omega, fun q hq => ?_⟩
  have h := pts_all (pt0 s) (nx 3 s) (by unfold pt0; simp only; omega) (trvN s) (by omega) q hq
  unfold PtFits
  omega
theorem rowOff_pts {w : World} {base c : Nat} {A : Option Addr} {l : List Pt} {P : Nat → Prop} (h : w.ownsRow base 80 2 (.slice A l.length c) l.length (pcs l)) (hl : l.length ≤ 1000) (hf : ∀ q ∈ l, PtFits q) (hP : ∀ g, base ≤ g → g < w.heap.size → P g) : RowOff oPt w P A l := by
  refine ⟨by omega, fun i x hi => ?_⟩
  rcases h.2 with ⟨h6, h7⟩ | ⟨g, cap, cur, h6, h7, h8, h9⟩
  · have := (List.getElem?_eq_some_iff.1 hi).1
    omega
  · injection h6 with h6 _ _
    subst h6
    have hlt := (Array.getElem?_eq_some_iff.1 h8).1
    refine ⟨⟨g, 0, none⟩, PtCells x, rfl, hP g h7 hlt, hlt, oPt_mk (hf x (List.mem_of_getElem? hi)), fun j u hu => h.cells (g := g) rfl _ _ ?_⟩
    have hj : j < 2 := (List.getElem?_eq_some_iff.1 hu).1
    rw [show oPt.rd.size = 2 from rfl, pcs_at hi j hj]
    exact hu
theorem row_bd (i : Nat) (st : List Arc × Int) : ∀ j, (rowTo i st j).1.length ≤ st.1.length + j
  | 0 => by simp [rowTo]
  | j + 1 => by
    have ih := row_bd i st j
    rw [rowTo]
    split
    · omega
    · simp only [List.length_append, List.length_cons, List.length_nil]; omega
theorem arcs_bd (n : Nat) (s : Int) : ∀ i, (arcsTo n s i).1.length ≤ i * n
  | 0 => by simp [arcsTo]
  | i + 1 => by
    have ih := arcs_bd n s i
    have := row_bd i (arcsTo n s i) n
    rw [arcsTo, Nat.succ_mul]
    omega
theorem stNet : StructOf 25 2 := ⟨⟨_, Tryd.underlying25⟩, by kernel_rfl⟩
def netC (A0 : Option Addr) (n0 c0 : Nat) (A1 : Option Addr) (n1 c1 : Nat) : List Value := [.slice A0 n0 c0, .slice A1 n1 c1]
theorem netC_one (A0 : Option Addr) (n0 c0 : Nat) (A1 : Option Addr) (n1 c1 : Nat) : ∀ u ∈ netC A0 n0 c0 A1 n1 c1, u.oneCell' = true := fun u hu => by
  simp only [netC, List.mem_cons, List.not_mem_nil, or_false] at hu
  rcases hu with rfl | rfl <;> rfl
/-- A network that was drawn, handed back. -/
def NetOut (T : TypeId) (p : Nat) (N : Net) (s' : Int) (w : World) (e : Ending) (w' : World) : Prop := ∃ A0 c0 A1 c1, e = .returned (.agg #[.slice A0 N.places.length c0, .slice A1 N.arcs.length c1]) ∧ RowOff oStr w' (fun b => w.heap.size ≤ b) A0 N.places ∧ RowOff oArc w' (fun b => w.heap.size ≤ b) A1 N.arcs ∧ Boxed w' p T (.int .i64 s') ∧ w.grownBy w' (some p)
set_option maxRecDepth 20000 in
set_option maxHeartbeats 8000000 in
theorem network_any (p : Nat) (s : Int) (n : Nat) (w : World) (h : Boxed w p 48 (.int .i64 s)) (hn : n ≤ 100) :
    Calls Tryd.prog 8 #[.pointer (some ⟨p, 0, none⟩), .int .i64 n] w (NetOut 48 p (netF n s) (arcsTo n s n).2 w) := by
  have hp := h.lt
  have HG0 := Lib.hid (GS.start h)
  clear h
  go_enter Tryd.func8, Tryd.ntmps8
  go_upto_region 2 with fail
  have hG2 := (HG0.out.alloc (.cells #[.slice none 0 0, .slice none 0 0] 25)).alloc (.cells #[.slice none 0 0, .slice none 0 0] 25)
  have hR2 : Blk ((w.alloc (.cells #[.slice none 0 0, .slice none 0 0] 25)).alloc (.cells #[.slice none 0 0, .slice none 0 0] 25)) w.heap.size 25 (netC none 0 0 none 0 0) := (Blk.new w _ (netC none 0 0 none 0 0)).kept (World.grownBy_alloc (w.alloc (.cells #[.slice none 0 0, .slice none 0 0] 25)) (.cells #[.slice none 0 0, .slice none 0 0] 25) none) (by simp)
  have hB2 : Blk ((w.alloc (.cells #[.slice none 0 0, .slice none 0 0] 25)).alloc (.cells #[.slice none 0 0, .slice none 0 0] 25)) (w.heap.size + 1) 25 (netC none 0 0 none 0 0) := by
    have h := Blk.new (w.alloc (.cells #[.slice none 0 0, .slice none 0 0] 25)) 25 (netC none 0 0 none 0 0)
    rw [show (w.alloc (.cells #[.slice none 0 0, .slice none 0 0] 25)).heap.size = w.heap.size + 1 by simp] at h
    exact h
  obtain ⟨W2, hW2⟩ : ∃ W, (w.alloc (.cells #[.slice none 0 0, .slice none 0 0] 25)).alloc (.cells #[.slice none 0 0, .slice none 0 0] 25) = W := ⟨_, rfl⟩
  have hsz2 : W2.heap.size = w.heap.size + 2 := by rw [← hW2]; simp
  rw [hW2] at hG2 hR2 hB2 ⊢
  obtain ⟨b, hb⟩ : ∃ b, w.heap.size + 1 = b := ⟨_, rfl⟩
  obtain ⟨B0, hB0⟩ : ∃ B, W2.heap.size = B := ⟨_, rfl⟩
  rw [hb] at hB2 ⊢
  have hlo : w.heap.size < b ∧ b < B0 := ⟨by omega, by omega⟩
  have HG2 := Lib.hid hG2
  have HR2 := Lib.hid hR2
  have HB2 := Lib.hid hB2
  have HZ2 : Hid (B0 ≤ W2.heap.size) := Lib.hid (by omega)
  have hlb : w.heap.size < b := hlo.1
  have hbB : b < B0 := hlo.2
  clear hG2 hR2 hB2 hW2 hb hB0 hsz2 hlo HG0
  go_upto_region 3 with fail
  go_loopw [6, 11] (fun _ i wr => ∃ (k : Nat) (A : Option Addr) (c : Nat) (cs : List Value), k ≤ n ∧ i = .int .i64 k ∧ Hid (GS w p 48 s wr) ∧ Hid (Blk wr w.heap.size 25 (netC none 0 0 none 0 0)) ∧ Hid (Blk wr b 25 (netC A k c none 0 0)) ∧ Hid (Row oStr 9 B0 wr (plcs k) A c cs) ∧ Hid (B0 ≤ wr.heap.size)) (fun _ i _ => n - (intOf i).toNat)
  case atStart => exact ⟨0, none, 0, [], by omega, rfl, HG2, HR2, HB2, Lib.hid Row.nil, HZ2⟩
  case round =>
    clear HG2 HR2 HB2 HZ2
    obtain ⟨k, A, c, cs, hk, rfl, HG, HR, HB, HW, HZ⟩ := hrel
    have hBz := HZ.out
    by_cases hlt : k < n
    · have hk0 : (0 : Int) ≤ (k : Int) := by omega
      have hkn : (k : Int) < (n : Int) := by omega
      have hds := decS_size k
      go_upto_region 5 with fail
      have ci : wr.drew.cell? ⟨b, 0, none⟩ = some (.slice A k c) := HB.out.cell (j := 0) rfl
      (refine wp_region_held_drew (S := (fun _ => True)) (by kernel_rfl) ?_ (fun hHeld => ?_))
      · trivial
      (refine wpAnyH_take (i := 0) (v := ?_) rfl (by kernel_rfl) (by kernel_rfl) (by kernel_rfl) (fun _ _ _ h => h) (Or.inl ⟨by kernel_rfl, ?_⟩) (by assumption) ?_; rotate_left; (focus (intro w hSw; (try dsimp only at hSw); go_simp; all_goals with_reducible rfl)); (try simp only [Act.put, List.getElem_toArray, List.getElem_cons_succ, List.getElem_cons_zero, List.setIfInBounds_toArray, List.set_cons_zero, List.set_cons_succ]))
      (refine wpAnyH_take (i := 2) (v := ?_) rfl (by kernel_rfl) (by kernel_rfl) (by kernel_rfl) (fun _ _ _ h => h) (Or.inl ⟨by kernel_rfl, ?_⟩) (by assumption) ?_; rotate_left; (focus (intro w hSw; (try dsimp only at hSw); go_simp; all_goals with_reducible rfl)); (try simp only [Act.put, List.getElem_toArray, List.getElem_cons_succ, List.getElem_cons_zero, List.setIfInBounds_toArray, List.set_cons_zero, List.set_cons_succ]))
      refine wpAnyH_ready (rs := [1, 3]) (by kernel_rfl) (by simp) ?_
      refine AllReadyH.cons rfl (fun K hK => ?_) (AllReadyH.cons rfl (fun K hK => ?_) AllReadyH.nil)
      · go_simp
        refine hK.out _ _ (trivial) (fun hHeld => ?_)
        clear hK K
        (try simp only [Act.put, List.getElem_toArray, List.getElem_cons_succ, List.getElem_cons_zero, List.setIfInBounds_toArray, List.set_cons_zero, List.set_cons_succ])
        (refine wpAnyH_ready (rs := [3]) (by kernel_rfl) (by simp) ?_; refine AllReadyH.cons rfl (fun K hK => ?_) AllReadyH.nil)
        go_simp
        refine (dec_any k (by omega) wr.drew).mono ?_
        rintro e w1 ⟨rfl, rfl⟩
        refine hK.out _ _ (trivial) (fun hHeld => ?_)
        clear hK K
        (try simp only [Act.put, List.getElem_toArray, List.getElem_cons_succ, List.getElem_cons_zero, List.setIfInBounds_toArray, List.set_cons_zero, List.set_cons_succ])
        (refine wpAnyH_take (i := 4) (v := ?_) rfl (by kernel_rfl) (by kernel_rfl) (by kernel_rfl) (fun _ _ _ h => h) (Or.inl ⟨by kernel_rfl, ?_⟩) (by assumption) ?_; rotate_left; (focus (intro w hSw; (try dsimp only at hSw); go_simp; rw [if_neg (show ¬ 9223372036854775807 < 1 + (decS k).size by omega)]; try with_reducible rfl)); (try simp only [Act.put, List.getElem_toArray, List.getElem_cons_succ, List.getElem_cons_zero, List.setIfInBounds_toArray, List.set_cons_zero, List.set_cons_succ]))
        rw [show (⟨#[112]⟩ : ByteArray) ++ decS k = plcN k from rfl]
        have bl : Below wr.heap.size wr (wr.drew.alloc (.cells #[.string (plcN k)] 9)) := ((Below.refl _ _).drew).alloc (Nat.le_refl _) _
        have HGa := Lib.hid (HG.out.below bl)
        have HRa := Lib.hid (HR.out.fr (K := fun _ => True) (Fr.below bl) trivial)
        have HBa := Lib.hid (HB.out.fr (K := fun _ => True) (Fr.below bl) trivial)
        have HWa := Lib.hid (HW.out.fr (Fr.below bl))
        have HOa : Hid ((wr.drew.alloc (.cells #[.string (plcN k)] 9)).ownsRow B0 9 1 (.slice A k c) k cs) := Lib.hid (by have h := HWa.out.own; rw [plcs_len'] at h; exact h)
        have hza : B0 ≤ (wr.drew.alloc (.cells #[.string (plcN k)] 9)).heap.size := Nat.le_trans hBz bl.size
        clear HG HR HB HW HZ
        clear ci
        (refine wpAnyH_ready (rs := [5]) (by kernel_rfl) (by simp) ?_; refine AllReadyH.cons rfl (fun K hK => ?_) AllReadyH.nil)
        go_simp
        refine hK.out _ _ (trivial) (fun hHeld => ?_)
        clear hK K
        (try simp only [Act.put, List.getElem_toArray, List.getElem_cons_succ, List.getElem_cons_zero, List.setIfInBounds_toArray, List.set_cons_zero, List.set_cons_succ])
        (refine wpAnyH_ready (rs := [6]) (by kernel_rfl) (by simp) ?_; refine AllReadyH.cons rfl (fun K hK => ?_) AllReadyH.nil)
        refine step_app str_elem _ _ rfl B0 A k c cs rfl HOa.out ⟨wr.drew.heap.size, 0, none⟩ 1 [.string (plcN k)] rfl rfl (cell_one_new _ _ _) (fun u hu => by rw [List.mem_singleton] at hu; rw [hu]; rfl) (by omega) hza rfl ?_
        intro g7 c7 w7 hown7 hg7 hx7
        have HG7 := Lib.hid (HGa.out.grow hg7 (fun q e => by have := (World.ownsRow.lt HOa.out q e).1; omega))
        have hne : ∀ q, q < B0 → some q ≠ (Value.slice A k c).ownBlock := fun q hq e => by have := (World.ownsRow.lt HOa.out q e.symm).1; omega
        have HR7 := Lib.hid (HRa.out.kept hg7 (hne _ (by omega)))
        have HB7 := Lib.hid (HBa.out.kept hg7 (hne _ (by omega)))
        have HW7 : Hid (Row oStr 9 B0 w7 (plcs (k + 1)) (some ⟨g7, 0, none⟩) c7 (cs ++ [.string (plcN k)])) := Lib.hid (by rw [plcs_succ]; exact HWa.out.push (x := plcN k) (cx := [.string (plcN k)]) ⟨rfl, by have := plcN_size k; omega⟩ (by rw [plcs_len']; exact hown7) (by rw [plcs_len']; exact hg7) (by rw [plcs_len']; exact hx7))
        have hz7 := hg7.size
        clear hown7 hg7 hx7 hne
        refine hK.out _ _ (trivial) (fun hHeld => ?_)
        clear hK K
        (try simp only [Act.put, List.getElem_toArray, List.getElem_cons_succ, List.getElem_cons_zero, List.setIfInBounds_toArray, List.set_cons_zero, List.set_cons_succ])
        (refine wpAnyH_take (i := 7) (v := ?_) rfl (by kernel_rfl) (by kernel_rfl) (by kernel_rfl) (fun _ _ _ h => h) (Or.inl ⟨by kernel_rfl, ?_⟩) (by assumption) ?_; rotate_left; (focus (intro w hSw; (try dsimp only at hSw); go_simp; all_goals with_reducible rfl)); (try simp only [Act.put, List.getElem_toArray, List.getElem_cons_succ, List.getElem_cons_zero, List.setIfInBounds_toArray, List.set_cons_zero, List.set_cons_succ]))
        have ci := HB7.out.cell (j := 0) rfl
        have fi := HB7.out.frozen 0
        (refine wpAnyH_ready (rs := [8]) (by kernel_rfl) (by simp) ?_; refine AllReadyH.cons rfl (fun K hK => ?_) AllReadyH.nil)
        go_simp
        clear ci fi
        have hzz : B0 ≤ (w7.setCell ⟨b, 0, none⟩ (.slice (some ⟨g7, 0, none⟩) (k + 1) c7)).heap.size := by simp [World.setCell]; omega
        have HG8 := Lib.hid (HG7.out.set (b := b) (by omega) 0 (.slice (some ⟨g7, 0, none⟩) (k + 1) c7))
        have HB8 : Hid (Blk (w7.setCell ⟨b, 0, none⟩ (.slice (some ⟨g7, 0, none⟩) (k + 1) c7)) b 25 (netC (some ⟨g7, 0, none⟩) (k + 1) c7 none 0 0)) := Lib.hid (HB7.out.set 0 _)
        have HR8 := Lib.hid (HR7.out.fr (Fr.set (K := fun q => q ≠ b) w7 0 (.slice (some ⟨g7, 0, none⟩) (k + 1) c7) (fun q h => h)) (by omega))
        have HW8 : Hid (Row oStr 9 B0 (w7.setCell ⟨b, 0, none⟩ (.slice (some ⟨g7, 0, none⟩) (k + 1) c7)) (plcs (k + 1)) (some ⟨g7, 0, none⟩) c7 (cs ++ [.string (plcN k)])) := Lib.hid (HW7.out.fr (Fr.set w7 0 (.slice (some ⟨g7, 0, none⟩) (k + 1) c7) (fun q h => by have h' : B0 ≤ q := h; omega)))
        have HZ8 := Lib.hid hzz
        clear hzz
        refine hK.out _ _ (trivial) (fun hHeld => ?_)
        clear hK K
        (try simp only [Act.put, List.getElem_toArray, List.getElem_cons_succ, List.getElem_cons_zero, List.setIfInBounds_toArray, List.set_cons_zero, List.set_cons_succ])
        (refine wpAnyH_done (by kernel_rfl) ?_ _)
        go_wp2
        exact ⟨⟨k + 1, some ⟨g7, 0, none⟩, c7, _, by omega, by go_num, HG8, HR8, HB8, HW8, HZ8⟩, by simp [intOf]; omega⟩
      · go_simp
        refine (dec_any k (by omega) wr.drew).mono ?_
        rintro e w1 ⟨rfl, rfl⟩
        refine hK.out _ _ (trivial) (fun hHeld => ?_)
        clear hK K
        (try simp only [Act.put, List.getElem_toArray, List.getElem_cons_succ, List.getElem_cons_zero, List.setIfInBounds_toArray, List.set_cons_zero, List.set_cons_succ])
        (refine wpAnyH_take (i := 4) (v := ?_) rfl (by kernel_rfl) (by kernel_rfl) (by kernel_rfl) (fun _ _ _ h => h) (Or.inl ⟨by kernel_rfl, ?_⟩) (by assumption) ?_; rotate_left; (focus (intro w hSw; (try dsimp only at hSw); go_simp; rw [if_neg (show ¬ 9223372036854775807 < 1 + (decS k).size by omega)]; try with_reducible rfl)); (try simp only [Act.put, List.getElem_toArray, List.getElem_cons_succ, List.getElem_cons_zero, List.setIfInBounds_toArray, List.set_cons_zero, List.set_cons_succ]))
        rw [show (⟨#[112]⟩ : ByteArray) ++ decS k = plcN k from rfl]
        refine wpAnyH_ready (rs := [1, 5]) (by kernel_rfl) (by simp) ?_
        refine AllReadyH.cons rfl (fun K hK => ?_) (AllReadyH.cons rfl (fun K hK => ?_) AllReadyH.nil)
        · go_simp
          refine hK.out _ _ (trivial) (fun hHeld => ?_)
          clear hK K
          (try simp only [Act.put, List.getElem_toArray, List.getElem_cons_succ, List.getElem_cons_zero, List.setIfInBounds_toArray, List.set_cons_zero, List.set_cons_succ])
          have bl : Below wr.heap.size wr (wr.drew.alloc (.cells #[.string (plcN k)] 9)) := ((Below.refl _ _).drew).alloc (Nat.le_refl _) _
          have HGa := Lib.hid (HG.out.below bl)
          have HRa := Lib.hid (HR.out.fr (K := fun _ => True) (Fr.below bl) trivial)
          have HBa := Lib.hid (HB.out.fr (K := fun _ => True) (Fr.below bl) trivial)
          have HWa := Lib.hid (HW.out.fr (Fr.below bl))
          have HOa : Hid ((wr.drew.alloc (.cells #[.string (plcN k)] 9)).ownsRow B0 9 1 (.slice A k c) k cs) := Lib.hid (by have h := HWa.out.own; rw [plcs_len'] at h; exact h)
          have hza : B0 ≤ (wr.drew.alloc (.cells #[.string (plcN k)] 9)).heap.size := Nat.le_trans hBz bl.size
          clear HG HR HB HW HZ
          clear ci
          (refine wpAnyH_ready (rs := [5]) (by kernel_rfl) (by simp) ?_; refine AllReadyH.cons rfl (fun K hK => ?_) AllReadyH.nil)
          go_simp
          refine hK.out _ _ (trivial) (fun hHeld => ?_)
          clear hK K
          (try simp only [Act.put, List.getElem_toArray, List.getElem_cons_succ, List.getElem_cons_zero, List.setIfInBounds_toArray, List.set_cons_zero, List.set_cons_succ])
          (refine wpAnyH_ready (rs := [6]) (by kernel_rfl) (by simp) ?_; refine AllReadyH.cons rfl (fun K hK => ?_) AllReadyH.nil)
          refine step_app str_elem _ _ rfl B0 A k c cs rfl HOa.out ⟨wr.drew.heap.size, 0, none⟩ 1 [.string (plcN k)] rfl rfl (cell_one_new _ _ _) (fun u hu => by rw [List.mem_singleton] at hu; rw [hu]; rfl) (by omega) hza rfl ?_
          intro g7 c7 w7 hown7 hg7 hx7
          have HG7 := Lib.hid (HGa.out.grow hg7 (fun q e => by have := (World.ownsRow.lt HOa.out q e).1; omega))
          have hne : ∀ q, q < B0 → some q ≠ (Value.slice A k c).ownBlock := fun q hq e => by have := (World.ownsRow.lt HOa.out q e.symm).1; omega
          have HR7 := Lib.hid (HRa.out.kept hg7 (hne _ (by omega)))
          have HB7 := Lib.hid (HBa.out.kept hg7 (hne _ (by omega)))
          have HW7 : Hid (Row oStr 9 B0 w7 (plcs (k + 1)) (some ⟨g7, 0, none⟩) c7 (cs ++ [.string (plcN k)])) := Lib.hid (by rw [plcs_succ]; exact HWa.out.push (x := plcN k) (cx := [.string (plcN k)]) ⟨rfl, by have := plcN_size k; omega⟩ (by rw [plcs_len']; exact hown7) (by rw [plcs_len']; exact hg7) (by rw [plcs_len']; exact hx7))
          have hz7 := hg7.size
          clear hown7 hg7 hx7 hne
          refine hK.out _ _ (trivial) (fun hHeld => ?_)
          clear hK K
          (try simp only [Act.put, List.getElem_toArray, List.getElem_cons_succ, List.getElem_cons_zero, List.setIfInBounds_toArray, List.set_cons_zero, List.set_cons_succ])
          (refine wpAnyH_take (i := 7) (v := ?_) rfl (by kernel_rfl) (by kernel_rfl) (by kernel_rfl) (fun _ _ _ h => h) (Or.inl ⟨by kernel_rfl, ?_⟩) (by assumption) ?_; rotate_left; (focus (intro w hSw; (try dsimp only at hSw); go_simp; all_goals with_reducible rfl)); (try simp only [Act.put, List.getElem_toArray, List.getElem_cons_succ, List.getElem_cons_zero, List.setIfInBounds_toArray, List.set_cons_zero, List.set_cons_succ]))
          have ci := HB7.out.cell (j := 0) rfl
          have fi := HB7.out.frozen 0
          (refine wpAnyH_ready (rs := [8]) (by kernel_rfl) (by simp) ?_; refine AllReadyH.cons rfl (fun K hK => ?_) AllReadyH.nil)
          go_simp
          clear ci fi
          have hzz : B0 ≤ (w7.setCell ⟨b, 0, none⟩ (.slice (some ⟨g7, 0, none⟩) (k + 1) c7)).heap.size := by simp [World.setCell]; omega
          have HG8 := Lib.hid (HG7.out.set (b := b) (by omega) 0 (.slice (some ⟨g7, 0, none⟩) (k + 1) c7))
          have HB8 : Hid (Blk (w7.setCell ⟨b, 0, none⟩ (.slice (some ⟨g7, 0, none⟩) (k + 1) c7)) b 25 (netC (some ⟨g7, 0, none⟩) (k + 1) c7 none 0 0)) := Lib.hid (HB7.out.set 0 _)
          have HR8 := Lib.hid (HR7.out.fr (Fr.set (K := fun q => q ≠ b) w7 0 (.slice (some ⟨g7, 0, none⟩) (k + 1) c7) (fun q h => h)) (by omega))
          have HW8 : Hid (Row oStr 9 B0 (w7.setCell ⟨b, 0, none⟩ (.slice (some ⟨g7, 0, none⟩) (k + 1) c7)) (plcs (k + 1)) (some ⟨g7, 0, none⟩) c7 (cs ++ [.string (plcN k)])) := Lib.hid (HW7.out.fr (Fr.set w7 0 (.slice (some ⟨g7, 0, none⟩) (k + 1) c7) (fun q h => by have h' : B0 ≤ q := h; omega)))
          have HZ8 := Lib.hid hzz
          clear hzz
          refine hK.out _ _ (trivial) (fun hHeld => ?_)
          clear hK K
          (try simp only [Act.put, List.getElem_toArray, List.getElem_cons_succ, List.getElem_cons_zero, List.setIfInBounds_toArray, List.set_cons_zero, List.set_cons_succ])
          (refine wpAnyH_done (by kernel_rfl) ?_ _)
          go_wp2
          exact ⟨⟨k + 1, some ⟨g7, 0, none⟩, c7, _, by omega, by go_num, HG8, HR8, HB8, HW8, HZ8⟩, by simp [intOf]; omega⟩
        · skip
          have bl : Below wr.heap.size wr (wr.drew.alloc (.cells #[.string (plcN k)] 9)) := ((Below.refl _ _).drew).alloc (Nat.le_refl _) _
          have HGa := Lib.hid (HG.out.below bl)
          have HRa := Lib.hid (HR.out.fr (K := fun _ => True) (Fr.below bl) trivial)
          have HBa := Lib.hid (HB.out.fr (K := fun _ => True) (Fr.below bl) trivial)
          have HWa := Lib.hid (HW.out.fr (Fr.below bl))
          have HOa : Hid ((wr.drew.alloc (.cells #[.string (plcN k)] 9)).ownsRow B0 9 1 (.slice A k c) k cs) := Lib.hid (by have h := HWa.out.own; rw [plcs_len'] at h; exact h)
          have hza : B0 ≤ (wr.drew.alloc (.cells #[.string (plcN k)] 9)).heap.size := Nat.le_trans hBz bl.size
          clear HG HR HB HW HZ
          clear ci
          have ci : (wr.alloc (.cells #[.string (plcN k)] 9)).cell? ⟨b, 0, none⟩ = some (.slice A k c) := HBa.out.cell (j := 0) rfl
          go_simp
          refine hK.out _ _ (trivial) (fun hHeld => ?_)
          clear hK K
          (try simp only [Act.put, List.getElem_toArray, List.getElem_cons_succ, List.getElem_cons_zero, List.setIfInBounds_toArray, List.set_cons_zero, List.set_cons_succ])
          (refine wpAnyH_ready (rs := [1]) (by kernel_rfl) (by simp) ?_; refine AllReadyH.cons rfl (fun K hK => ?_) AllReadyH.nil)
          go_simp
          clear ci
          refine hK.out _ _ (trivial) (fun hHeld => ?_)
          clear hK K
          (try simp only [Act.put, List.getElem_toArray, List.getElem_cons_succ, List.getElem_cons_zero, List.setIfInBounds_toArray, List.set_cons_zero, List.set_cons_succ])
          (refine wpAnyH_ready (rs := [6]) (by kernel_rfl) (by simp) ?_; refine AllReadyH.cons rfl (fun K hK => ?_) AllReadyH.nil)
          refine step_app str_elem _ _ rfl B0 A k c cs rfl HOa.out ⟨wr.drew.heap.size, 0, none⟩ 1 [.string (plcN k)] rfl rfl (cell_one_new _ _ _) (fun u hu => by rw [List.mem_singleton] at hu; rw [hu]; rfl) (by omega) hza rfl ?_
          intro g7 c7 w7 hown7 hg7 hx7
          have HG7 := Lib.hid (HGa.out.grow hg7 (fun q e => by have := (World.ownsRow.lt HOa.out q e).1; omega))
          have hne : ∀ q, q < B0 → some q ≠ (Value.slice A k c).ownBlock := fun q hq e => by have := (World.ownsRow.lt HOa.out q e.symm).1; omega
          have HR7 := Lib.hid (HRa.out.kept hg7 (hne _ (by omega)))
          have HB7 := Lib.hid (HBa.out.kept hg7 (hne _ (by omega)))
          have HW7 : Hid (Row oStr 9 B0 w7 (plcs (k + 1)) (some ⟨g7, 0, none⟩) c7 (cs ++ [.string (plcN k)])) := Lib.hid (by rw [plcs_succ]; exact HWa.out.push (x := plcN k) (cx := [.string (plcN k)]) ⟨rfl, by have := plcN_size k; omega⟩ (by rw [plcs_len']; exact hown7) (by rw [plcs_len']; exact hg7) (by rw [plcs_len']; exact hx7))
          have hz7 := hg7.size
          clear hown7 hg7 hx7 hne
          refine hK.out _ _ (trivial) (fun hHeld => ?_)
          clear hK K
          (try simp only [Act.put, List.getElem_toArray, List.getElem_cons_succ, List.getElem_cons_zero, List.setIfInBounds_toArray, List.set_cons_zero, List.set_cons_succ])
          (refine wpAnyH_take (i := 7) (v := ?_) rfl (by kernel_rfl) (by kernel_rfl) (by kernel_rfl) (fun _ _ _ h => h) (Or.inl ⟨by kernel_rfl, ?_⟩) (by assumption) ?_; rotate_left; (focus (intro w hSw; (try dsimp only at hSw); go_simp; all_goals with_reducible rfl)); (try simp only [Act.put, List.getElem_toArray, List.getElem_cons_succ, List.getElem_cons_zero, List.setIfInBounds_toArray, List.set_cons_zero, List.set_cons_succ]))
          have ci := HB7.out.cell (j := 0) rfl
          have fi := HB7.out.frozen 0
          (refine wpAnyH_ready (rs := [8]) (by kernel_rfl) (by simp) ?_; refine AllReadyH.cons rfl (fun K hK => ?_) AllReadyH.nil)
          go_simp
          clear ci fi
          have hzz : B0 ≤ (w7.setCell ⟨b, 0, none⟩ (.slice (some ⟨g7, 0, none⟩) (k + 1) c7)).heap.size := by simp [World.setCell]; omega
          have HG8 := Lib.hid (HG7.out.set (b := b) (by omega) 0 (.slice (some ⟨g7, 0, none⟩) (k + 1) c7))
          have HB8 : Hid (Blk (w7.setCell ⟨b, 0, none⟩ (.slice (some ⟨g7, 0, none⟩) (k + 1) c7)) b 25 (netC (some ⟨g7, 0, none⟩) (k + 1) c7 none 0 0)) := Lib.hid (HB7.out.set 0 _)
          have HR8 := Lib.hid (HR7.out.fr (Fr.set (K := fun q => q ≠ b) w7 0 (.slice (some ⟨g7, 0, none⟩) (k + 1) c7) (fun q h => h)) (by omega))
          have HW8 : Hid (Row oStr 9 B0 (w7.setCell ⟨b, 0, none⟩ (.slice (some ⟨g7, 0, none⟩) (k + 1) c7)) (plcs (k + 1)) (some ⟨g7, 0, none⟩) c7 (cs ++ [.string (plcN k)])) := Lib.hid (HW7.out.fr (Fr.set w7 0 (.slice (some ⟨g7, 0, none⟩) (k + 1) c7) (fun q h => by have h' : B0 ≤ q := h; omega)))
          have HZ8 := Lib.hid hzz
          clear hzz
          refine hK.out _ _ (trivial) (fun hHeld => ?_)
          clear hK K
          (try simp only [Act.put, List.getElem_toArray, List.getElem_cons_succ, List.getElem_cons_zero, List.setIfInBounds_toArray, List.set_cons_zero, List.set_cons_succ])
          (refine wpAnyH_done (by kernel_rfl) ?_ _)
          go_wp2
          exact ⟨⟨k + 1, some ⟨g7, 0, none⟩, c7, _, by omega, by go_num, HG8, HR8, HB8, HW8, HZ8⟩, by simp [intOf]; omega⟩
    · have hkn : k = n := by omega
      subst hkn
      clear hlt
      obtain ⟨B1, hB1⟩ : ∃ B, wr.heap.size = B := ⟨_, rfl⟩
      have HPO : Hid (RowOff oStr wr (fun q => B0 ≤ q ∧ q < B1) A (plcs k)) := Lib.hid ((HW.out.off (by rw [plcs_len']; omega)).weak (fun q hq h => ⟨h, by omega⟩))
      have hBB : B0 ≤ B1 := by omega
      have HZ1 : Hid (B1 ≤ wr.heap.size) := Lib.hid (by omega)
      clear HW HZ hBz hB1
      go_wp2_with fail
      go_loopw [7, 8, 9, 24] (fun _ _ _ i wr => ∃ (q : Nat) (A1 : Option Addr) (c1 : Nat) (cs1 : List Value), q ≤ k ∧ i = .int .i64 q ∧ Hid (GS w p 48 (arcsTo k s q).2 wr) ∧ Hid (Blk wr w.heap.size 25 (netC none 0 0 none 0 0)) ∧ Hid (Blk wr b 25 (netC A k c A1 (arcsTo k s q).1.length c1)) ∧ Hid (RowOff oStr wr (fun q => B0 ≤ q ∧ q < B1) A (plcs k)) ∧ Hid (Row oArc 68 B1 wr (arcsTo k s q).1 A1 c1 cs1) ∧ Hid (B1 ≤ wr.heap.size)) (fun _ _ _ i _ => k - (intOf i).toNat)
      case atStart => exact ⟨0, none, 0, [], by omega, rfl, HG, HR, HB, HPO, Lib.hid Row.nil, HZ1⟩
      case round =>
        clear HG HR HB HPO HZ1
        obtain ⟨i, A1, c1, cs1, hi, rfl, HG, HR, HB, HPO, HW, HZ⟩ := hrel
        by_cases hik : i < k
        · have hi0 : (0 : Int) ≤ (i : Int) := by omega
          have hik' : (i : Int) < (k : Int) := by omega
          go_wp2_with fail
          obtain ⟨st, hst⟩ : ∃ st, arcsTo k s i = st := ⟨_, rfl⟩
          have HST := Lib.hid hst
          rw [hst] at HG HB HW
          clear hst
          go_loopw [8, 9, 28] (fun _ _ i' wr => ∃ (j : Nat) (A1 : Option Addr) (c1 : Nat) (cs2 : List Value), j ≤ k ∧ i' = .int .i64 j ∧ Hid (GS w p 48 (rowTo i st j).2 wr) ∧ Hid (Blk wr w.heap.size 25 (netC none 0 0 none 0 0)) ∧ Hid (Blk wr b 25 (netC A k c A1 (rowTo i st j).1.length c1)) ∧ Hid (RowOff oStr wr (fun q => B0 ≤ q ∧ q < B1) A (plcs k)) ∧ Hid (Row oArc 68 B1 wr (rowTo i st j).1 A1 c1 cs2) ∧ Hid (B1 ≤ wr.heap.size)) (fun _ _ i' _ => k - (intOf i').toNat)
          case atStart => exact ⟨0, A1, c1, cs1, by omega, rfl, HG, HR, HB, HPO, HW, HZ⟩
          case round =>
            clear HG HR HB HPO HW HZ
            obtain ⟨j, A1, c1, cs2, hj, rfl, HG, HR, HB, HPO, HW, HZ⟩ := hrel
            by_cases hjk : j < k
            · have hj0 : (0 : Int) ≤ (j : Int) := by omega
              have hjk' : (j : Int) < (k : Int) := by omega
              by_cases hij : i = j
              · have hib : ((i : Int) == (j : Int)) = true := by rw [hij]; simp
                have HNX : Hid (rowTo i st (j + 1) = rowTo i st j) := Lib.hid (by rw [rowTo, if_pos hij])
                go_wp2_with fail
                exact ⟨⟨j + 1, A1, c1, cs2, by omega, by go_num, by rw [HNX.out]; exact HG, HR, by rw [HNX.out]; exact HB, HPO, by rw [HNX.out]; exact HW, HZ⟩, by simp [intOf]; omega⟩
              · have hib : ((i : Int) == (j : Int)) = false := by rw [beq_eq_false_iff_ne]; omega
                obtain ⟨z, hz⟩ : ∃ z, (rowTo i st j).2 = z := ⟨_, rfl⟩
                obtain ⟨L, hL⟩ : ∃ L, (rowTo i st j).1 = L := ⟨_, rfl⟩
                obtain ⟨m, hm⟩ : ∃ m, L.length = m := ⟨_, rfl⟩
                have HNX : Hid (rowTo i st (j + 1) = (L ++ [arcF z i j], arcN z)) := Lib.hid (by rw [rowTo, if_neg hij, hz, hL])
                have HM := Lib.hid hm
                have hmb : m ≤ 100000 := by
                  have h1 := row_bd i st j
                  have h2 := arcs_bd k s i
                  have h3 : i * k ≤ 100 * 100 := Nat.mul_le_mul (by omega) hn
                  rw [hL, hm] at h1
                  rw [HST.out] at h2
                  omega
                rw [hz] at HG
                rw [hL] at HB HW
                rw [hm] at HB
                clear hz hL hm
                have hBz := HZ.out
                go_wp2_with fail
                refine (from_any p z 1 50 _ HG.out.box (by omega) (by omega) (by omega)).mono ?_
                rintro e wd ⟨rfl, hbx, hgr⟩
                obtain ⟨v, hv⟩ : ∃ v, frm z 1 50 = v := ⟨_, rfl⟩
                have Bv := frm_bd (s := z) (a := 1) (b := 50) (by omega)
                rw [hv] at Bv ⊢
                have Hv := Lib.hid hv
                have HGd := Lib.hid (HG.out.draw hbx hgr)
                have HRd := Lib.hid (HR.out.kept hgr (fun e => by injection e; omega))
                have HBd := Lib.hid (HB.out.kept hgr (fun e => by injection e; omega))
                have HPd := Lib.hid (rowOff_fr HPO.out (Fr.grown hgr (fun q h e => by injection e; omega)))
                have HWd := Lib.hid (HW.out.fr (Fr.grown hgr (fun q h e => by have h' : B1 ≤ q := h; injection e; omega)))
                have hzd : B1 ≤ wd.heap.size := Nat.le_trans hBz hgr.size
                clear hbx hgr hv HG HR HB HPO HW HZ hBz
                go_upto_region 15 with fail
                have HGe := Lib.hid HGd.out.drew
                have ci : wd.drew.cell? ⟨b, 1, none⟩ = some (.slice A1 m c1) := HBd.out.cell (j := 1) rfl
                (refine wp_region_held_drew (S := (fun _ => True)) (by kernel_rfl) ?_ (fun hHeld => ?_))
                · trivial
                (refine wpAnyH_take (i := 0) (v := ?_) rfl (by kernel_rfl) (by kernel_rfl) (by kernel_rfl) (fun _ _ _ h => h) (Or.inl ⟨by kernel_rfl, ?_⟩) (by assumption) ?_; rotate_left; (focus (intro w hSw; (try dsimp only at hSw); go_simp; all_goals with_reducible rfl)); (try simp only [Act.put, List.getElem_toArray, List.getElem_cons_succ, List.getElem_cons_zero, List.setIfInBounds_toArray, List.set_cons_zero, List.set_cons_succ]))
                (refine wpAnyH_take (i := 2) (v := ?_) rfl (by kernel_rfl) (by kernel_rfl) (by kernel_rfl) (fun _ _ _ h => h) (Or.inl ⟨by kernel_rfl, ?_⟩) (by assumption) ?_; rotate_left; (focus (intro w hSw; (try dsimp only at hSw); go_simp; all_goals with_reducible rfl)); (try simp only [Act.put, List.getElem_toArray, List.getElem_cons_succ, List.getElem_cons_zero, List.setIfInBounds_toArray, List.set_cons_zero, List.set_cons_succ]))
                (refine wpAnyH_take (i := 3) (v := ?_) rfl (by kernel_rfl) (by kernel_rfl) (by kernel_rfl) (fun _ _ _ h => h) (Or.inl ⟨by kernel_rfl, ?_⟩) (by assumption) ?_; rotate_left; (focus (intro w hSw; (try dsimp only at hSw); go_simp; all_goals with_reducible rfl)); (try simp only [Act.put, List.getElem_toArray, List.getElem_cons_succ, List.getElem_cons_zero, List.setIfInBounds_toArray, List.set_cons_zero, List.set_cons_succ]))
                (refine wpAnyH_take (i := 4) (v := ?_) rfl (by kernel_rfl) (by kernel_rfl) (by kernel_rfl) (fun _ _ _ h => h) (Or.inl ⟨by kernel_rfl, ?_⟩) (by assumption) ?_; rotate_left; (focus (intro w hSw; (try dsimp only at hSw); go_simp; all_goals with_reducible rfl)); (try simp only [Act.put, List.getElem_toArray, List.getElem_cons_succ, List.getElem_cons_zero, List.setIfInBounds_toArray, List.set_cons_zero, List.set_cons_succ]))
                (refine wpAnyH_take (i := 5) (v := ?_) rfl (by kernel_rfl) (by kernel_rfl) (by kernel_rfl) (fun _ _ _ h => h) (Or.inl ⟨by kernel_rfl, ?_⟩) (by assumption) ?_; rotate_left; (focus (intro w hSw; (try dsimp only at hSw); go_simp; all_goals with_reducible rfl)); (try simp only [Act.put, List.getElem_toArray, List.getElem_cons_succ, List.getElem_cons_zero, List.setIfInBounds_toArray, List.set_cons_zero, List.set_cons_succ]))
                refine wpAnyH_ready (rs := [1, 6]) (by kernel_rfl) (by simp) ?_
                refine AllReadyH.cons rfl (fun K hK => ?_) (AllReadyH.cons rfl (fun K hK => ?_) AllReadyH.nil)
                · go_simp
                  clear ci
                  refine hK.out _ _ (trivial) (fun hHeld => ?_)
                  clear hK K
                  (try simp only [Act.put, List.getElem_toArray, List.getElem_cons_succ, List.getElem_cons_zero, List.setIfInBounds_toArray, List.set_cons_zero, List.set_cons_succ])
                  (refine wpAnyH_ready (rs := [6]) (by kernel_rfl) (by simp) ?_; refine AllReadyH.cons rfl (fun K hK => ?_) AllReadyH.nil)
                  go_simp
                  refine (travel_any p (nx 1 z) wd.drew HGe.out.box).mono ?_
                  rintro e w9 ⟨A7, c7, rfl, hown7, hbx7, hgr0⟩
                  have hgr7 : wd.grownBy w9 (some p) := ⟨hgr0.os, hgr0.tape, hgr0.output, hgr0.size, hgr0.block⟩
                  have HG9 := Lib.hid (HGd.out.draw hbx7 hgr7)
                  have HR9 := Lib.hid (HRd.out.kept hgr7 (fun e => by injection e; omega))
                  have HB9 := Lib.hid (HBd.out.kept hgr7 (fun e => by injection e; omega))
                  have HP9 := Lib.hid (rowOff_fr HPd.out (Fr.grown hgr7 (fun q h e => by injection e; omega)))
                  have HW9 := Lib.hid (HWd.out.fr (Fr.grown hgr7 (fun q h e => by have h' : B1 ≤ q := h; injection e; omega)))
                  have hz9 : B1 ≤ w9.heap.size := Nat.le_trans hzd hgr7.size
                  have HT9 : Hid (RowOff oPt w9 (fun q => some q ≠ (Value.slice A1 m c1).ownBlock ∧ B1 ≤ q) A7 (trvF (nx 1 z)).1) := Lib.hid (rowOff_pts hown7 (by have := (trv_fits (nx 1 z)).1; omega) (trv_fits (nx 1 z)).2 (fun g hg _ => ⟨fun e => by
                    have h := HWd.out.own
                    rw [HM.out] at h
                    have h1 := (World.ownsRow.lt h g e.symm).2
                    have h2 : wd.heap.size ≤ g := hg
                    omega, by have h2 : wd.heap.size ≤ g := hg; omega⟩))
                  obtain ⟨L7, hL7⟩ : ∃ n, (trvF (nx 1 z)).1.length = n := ⟨_, rfl⟩
                  have HL7 := Lib.hid hL7
                  rw [hL7]
                  clear hL7 hown7 hbx7 hgr7 hgr0
                  refine hK.out _ _ (trivial) (fun hHeld => ?_)
                  clear hK K
                  (try simp only [Act.put, List.getElem_toArray, List.getElem_cons_succ, List.getElem_cons_zero, List.setIfInBounds_toArray, List.set_cons_zero, List.set_cons_succ])
                  (refine wpAnyH_take (i := 7) (v := ?_) rfl (by kernel_rfl) (by kernel_rfl) (by kernel_rfl) (fun _ _ _ h => h) (Or.inl ⟨by kernel_rfl, ?_⟩) (by assumption) ?_; rotate_left; (focus (intro w hSw; (try dsimp only at hSw); go_simp; all_goals with_reducible rfl)); (try simp only [Act.put, List.getElem_toArray, List.getElem_cons_succ, List.getElem_cons_zero, List.setIfInBounds_toArray, List.set_cons_zero, List.set_cons_succ]))
                  -- what stands behind the travel function: worlds w9 (before the literal); facts for the literal's world
                  have hAX : Blk w9 b 25 (netC A k c A1 m c1) := HB9.out
                  obtain ⟨x, hx⟩ : ∃ x, arcF z i j = x := ⟨_, rfl⟩
                  have hxf : ArcFits x := by
                    rw [← hx]
                    have hv := Hv.out
                    unfold ArcFits arcF
                    simp only
                    rw [hv]
                    omega
                  have hxc : ArcCells x A7 c7 none 0 = [.int .i64 i, .int .i64 j, .int .i64 0, .int .i64 v, .slice A7 L7 c7, .slice none 0 0] := by
                    rw [← hx]
                    show [Value.int .i64 (i : Int), .int .i64 (j : Int), .int .i64 0, .int .i64 (frm z 1 50), .slice A7 (trvF (nx 1 z)).1.length c7, .slice none 0 0] = _
                    rw [Hv.out, HL7.out]
                  have hxo : oArc.at_ w9 (fun q => some q ≠ (Value.slice A1 m c1).ownBlock ∧ B1 ≤ q) (ArcCells x A7 c7 none 0) x := oArc_mk (by rw [← hx]; exact HT9.out) (by rw [← hx]; exact RowOff.nil) hxf
                  have HXX := Lib.hid (And.intro hx (And.intro hxc hxo))
                  have bl : Below w9.heap.size w9 (w9.alloc (.cells #[.int .i64 i, .int .i64 j, .int .i64 0, .int .i64 v, .slice A7 L7 c7, .slice none 0 0] 68)) := (Below.refl _ _).alloc (Nat.le_refl _) _
                  have HGa := Lib.hid (HG9.out.below bl)
                  have HRa := Lib.hid (HR9.out.fr (K := fun _ => True) (Fr.below bl) trivial)
                  have HBa := Lib.hid (HB9.out.fr (K := fun _ => True) (Fr.below bl) trivial)
                  have HPa := Lib.hid (rowOff_fr HP9.out (Fr.below bl))
                  have HWa := Lib.hid (HW9.out.fr (Fr.below bl))
                  have HXa : Hid (oArc.at_ (w9.alloc (.cells #[.int .i64 i, .int .i64 j, .int .i64 0, .int .i64 v, .slice A7 L7 c7, .slice none 0 0] 68)) (fun q => some q ≠ (Value.slice A1 m c1).ownBlock ∧ B1 ≤ q) (ArcCells x A7 c7 none 0) x) := Lib.hid (oArc.keep hxo bl.size (fun q hq hp' => ⟨hp', bl.block q hq⟩))
                  have HOa : Hid ((w9.alloc (.cells #[.int .i64 i, .int .i64 j, .int .i64 0, .int .i64 v, .slice A7 L7 c7, .slice none 0 0] 68)).ownsRow B1 68 6 (.slice A1 m c1) m cs2) := Lib.hid (by have h := HWa.out.own; rw [HM.out] at h; exact h)
                  have hza : B1 ≤ (w9.alloc (.cells #[.int .i64 i, .int .i64 j, .int .i64 0, .int .i64 v, .slice A7 L7 c7, .slice none 0 0] 68)).heap.size := Nat.le_trans hz9 bl.size
                  clear hAX hx hxf hxc hxo HG9 HR9 HB9 HP9 HW9
                  (refine wpAnyH_ready (rs := [8]) (by kernel_rfl) (by simp) ?_; refine AllReadyH.cons rfl (fun K hK => ?_) AllReadyH.nil)
                  go_simp
                  refine hK.out _ _ (trivial) (fun hHeld => ?_)
                  clear hK K
                  (try simp only [Act.put, List.getElem_toArray, List.getElem_cons_succ, List.getElem_cons_zero, List.setIfInBounds_toArray, List.set_cons_zero, List.set_cons_succ])
                  (refine wpAnyH_ready (rs := [9]) (by kernel_rfl) (by simp) ?_; refine AllReadyH.cons rfl (fun K hK => ?_) AllReadyH.nil)
                  refine step_app arc_elem _ _ rfl B1 A1 m c1 cs2 rfl HOa.out ⟨w9.heap.size, 0, none⟩ 1 [.int .i64 i, .int .i64 j, .int .i64 0, .int .i64 v, .slice A7 L7 c7, .slice none 0 0] rfl rfl (fun q u hu => World.news_of_block (w := w9.alloc (.cells #[.int .i64 i, .int .i64 j, .int .i64 0, .int .i64 v, .slice A7 L7 c7, .slice none 0 0] 68)) (B := w9.heap.size) (World.alloc_heap_new w9 _) q u (by simpa using hu)) (fun u hu => by simp only [List.mem_cons, List.not_mem_nil, or_false] at hu; rcases hu with rfl | rfl | rfl | rfl | rfl | rfl <;> rfl) (by omega) hza rfl ?_
                  intro g8 c8 w8 hown8 hg8 hx8
                  have HG8 := Lib.hid (HGa.out.grow hg8 (fun q e => by have := (World.ownsRow.lt HOa.out q e).1; omega))
                  have hne : ∀ q, q < B1 → some q ≠ (Value.slice A1 m c1).ownBlock := fun q hq e => by have := (World.ownsRow.lt HOa.out q e.symm).1; omega
                  have HR8 := Lib.hid (HRa.out.kept hg8 (hne _ (by omega)))
                  have HB8 := Lib.hid (HBa.out.kept hg8 (hne _ (by omega)))
                  have HP8 := Lib.hid (rowOff_fr HPa.out (Fr.grown hg8 (fun q h => hne q h.2)))
                  have HW8 : Hid (Row oArc 68 B1 w8 (L ++ [arcF z i j]) (some ⟨g8, 0, none⟩) c8 (cs2 ++ [.int .i64 i, .int .i64 j, .int .i64 0, .int .i64 v, .slice A7 L7 c7, .slice none 0 0])) := Lib.hid (by
                    have hxa := HXa.out
                    rw [HXX.out.1, ← HXX.out.2.1]
                    exact HWa.out.push (by rw [HM.out]; exact hxa) (by rw [HM.out, HXX.out.2.1]; exact hown8) (by rw [HM.out]; exact hg8) (by rw [HM.out]; exact hx8))
                  have hz8 := hg8.size
                  clear hown8 hg8 hx8 hne
                  refine hK.out _ _ (trivial) (fun hHeld => ?_)
                  clear hK K
                  (try simp only [Act.put, List.getElem_toArray, List.getElem_cons_succ, List.getElem_cons_zero, List.setIfInBounds_toArray, List.set_cons_zero, List.set_cons_succ])
                  (refine wpAnyH_take (i := 10) (v := ?_) rfl (by kernel_rfl) (by kernel_rfl) (by kernel_rfl) (fun _ _ _ h => h) (Or.inl ⟨by kernel_rfl, ?_⟩) (by assumption) ?_; rotate_left; (focus (intro w hSw; (try dsimp only at hSw); go_simp; all_goals with_reducible rfl)); (try simp only [Act.put, List.getElem_toArray, List.getElem_cons_succ, List.getElem_cons_zero, List.setIfInBounds_toArray, List.set_cons_zero, List.set_cons_succ]))
                  have ci := HB8.out.cell (j := 1) rfl
                  have fi := HB8.out.frozen 1
                  (refine wpAnyH_ready (rs := [11]) (by kernel_rfl) (by simp) ?_; refine AllReadyH.cons rfl (fun K hK => ?_) AllReadyH.nil)
                  go_simp
                  clear ci fi
                  have hzz : B1 ≤ (w8.setCell ⟨b, 1, none⟩ (.slice (some ⟨g8, 0, none⟩) (m + 1) c8)).heap.size := by simp [World.setCell]; omega
                  have HGb := Lib.hid (HG8.out.set (b := b) (by omega) 1 (.slice (some ⟨g8, 0, none⟩) (m + 1) c8))
                  have HBb : Hid (Blk (w8.setCell ⟨b, 1, none⟩ (.slice (some ⟨g8, 0, none⟩) (m + 1) c8)) b 25 (netC A k c (some ⟨g8, 0, none⟩) (m + 1) c8)) := Lib.hid (HB8.out.set 1 _)
                  have HRb := Lib.hid (HR8.out.fr (Fr.set (K := fun q => q ≠ b) w8 1 (.slice (some ⟨g8, 0, none⟩) (m + 1) c8) (fun q h => h)) (by omega))
                  have HPb := Lib.hid (rowOff_fr HP8.out (Fr.set (q := b) w8 1 (.slice (some ⟨g8, 0, none⟩) (m + 1) c8) (fun q h => by have := h.1; omega)))
                  have HWb : Hid (Row oArc 68 B1 (w8.setCell ⟨b, 1, none⟩ (.slice (some ⟨g8, 0, none⟩) (m + 1) c8)) (L ++ [arcF z i j]) (some ⟨g8, 0, none⟩) c8 (cs2 ++ [.int .i64 i, .int .i64 j, .int .i64 0, .int .i64 v, .slice A7 L7 c7, .slice none 0 0])) := Lib.hid (HW8.out.fr (Fr.set (q := b) w8 1 (.slice (some ⟨g8, 0, none⟩) (m + 1) c8) (fun q h => by have h' : B1 ≤ q := h; omega)))
                  have HZb := Lib.hid hzz
                  clear hzz
                  refine hK.out _ _ (trivial) (fun hHeld => ?_)
                  clear hK K
                  (try simp only [Act.put, List.getElem_toArray, List.getElem_cons_succ, List.getElem_cons_zero, List.setIfInBounds_toArray, List.set_cons_zero, List.set_cons_succ])
                  (refine wpAnyH_done (by kernel_rfl) ?_ _)
                  go_wp2
                  exact ⟨⟨j + 1, some ⟨g8, 0, none⟩, c8, _, by omega, by go_num, by rw [HNX.out]; exact HGb, HRb, by rw [HNX.out, List.length_append, HM.out]; exact HBb, HPb, by rw [HNX.out]; exact HWb, HZb⟩, by simp [intOf]; omega⟩
                · clear ci
                  go_simp
                  refine (travel_any p (nx 1 z) wd.drew HGe.out.box).mono ?_
                  rintro e w9 ⟨A7, c7, rfl, hown7, hbx7, hgr0⟩
                  have hgr7 : wd.grownBy w9 (some p) := ⟨hgr0.os, hgr0.tape, hgr0.output, hgr0.size, hgr0.block⟩
                  have HG9 := Lib.hid (HGd.out.draw hbx7 hgr7)
                  have HR9 := Lib.hid (HRd.out.kept hgr7 (fun e => by injection e; omega))
                  have HB9 := Lib.hid (HBd.out.kept hgr7 (fun e => by injection e; omega))
                  have HP9 := Lib.hid (rowOff_fr HPd.out (Fr.grown hgr7 (fun q h e => by injection e; omega)))
                  have HW9 := Lib.hid (HWd.out.fr (Fr.grown hgr7 (fun q h e => by have h' : B1 ≤ q := h; injection e; omega)))
                  have hz9 : B1 ≤ w9.heap.size := Nat.le_trans hzd hgr7.size
                  have HT9 : Hid (RowOff oPt w9 (fun q => some q ≠ (Value.slice A1 m c1).ownBlock ∧ B1 ≤ q) A7 (trvF (nx 1 z)).1) := Lib.hid (rowOff_pts hown7 (by have := (trv_fits (nx 1 z)).1; omega) (trv_fits (nx 1 z)).2 (fun g hg _ => ⟨fun e => by
                    have h := HWd.out.own
                    rw [HM.out] at h
                    have h1 := (World.ownsRow.lt h g e.symm).2
                    have h2 : wd.heap.size ≤ g := hg
                    omega, by have h2 : wd.heap.size ≤ g := hg; omega⟩))
                  obtain ⟨L7, hL7⟩ : ∃ n, (trvF (nx 1 z)).1.length = n := ⟨_, rfl⟩
                  have HL7 := Lib.hid hL7
                  rw [hL7]
                  clear hL7 hown7 hbx7 hgr7 hgr0
                  refine hK.out _ _ (trivial) (fun hHeld => ?_)
                  clear hK K
                  (try simp only [Act.put, List.getElem_toArray, List.getElem_cons_succ, List.getElem_cons_zero, List.setIfInBounds_toArray, List.set_cons_zero, List.set_cons_succ])
                  (refine wpAnyH_take (i := 7) (v := ?_) rfl (by kernel_rfl) (by kernel_rfl) (by kernel_rfl) (fun _ _ _ h => h) (Or.inl ⟨by kernel_rfl, ?_⟩) (by assumption) ?_; rotate_left; (focus (intro w hSw; (try dsimp only at hSw); go_simp; all_goals with_reducible rfl)); (try simp only [Act.put, List.getElem_toArray, List.getElem_cons_succ, List.getElem_cons_zero, List.setIfInBounds_toArray, List.set_cons_zero, List.set_cons_succ]))
                  refine wpAnyH_ready (rs := [1, 8]) (by kernel_rfl) (by simp) ?_
                  refine AllReadyH.cons rfl (fun K hK => ?_) (AllReadyH.cons rfl (fun K hK => ?_) AllReadyH.nil)
                  · have ci := HB9.out.cell (j := 1) rfl
                    go_simp
                    clear ci
                    refine hK.out _ _ (trivial) (fun hHeld => ?_)
                    clear hK K
                    (try simp only [Act.put, List.getElem_toArray, List.getElem_cons_succ, List.getElem_cons_zero, List.setIfInBounds_toArray, List.set_cons_zero, List.set_cons_succ])
                    -- what stands behind the travel function: worlds w9 (before the literal); facts for the literal's world
                    have hAX : Blk w9 b 25 (netC A k c A1 m c1) := HB9.out
                    obtain ⟨x, hx⟩ : ∃ x, arcF z i j = x := ⟨_, rfl⟩
                    have hxf : ArcFits x := by
                      rw [← hx]
                      have hv := Hv.out
                      unfold ArcFits arcF
                      simp only
                      rw [hv]
                      omega
                    have hxc : ArcCells x A7 c7 none 0 = [.int .i64 i, .int .i64 j, .int .i64 0, .int .i64 v, .slice A7 L7 c7, .slice none 0 0] := by
                      rw [← hx]
                      show [Value.int .i64 (i : Int), .int .i64 (j : Int), .int .i64 0, .int .i64 (frm z 1 50), .slice A7 (trvF (nx 1 z)).1.length c7, .slice none 0 0] = _
                      rw [Hv.out, HL7.out]
                    have hxo : oArc.at_ w9 (fun q => some q ≠ (Value.slice A1 m c1).ownBlock ∧ B1 ≤ q) (ArcCells x A7 c7 none 0) x := oArc_mk (by rw [← hx]; exact HT9.out) (by rw [← hx]; exact RowOff.nil) hxf
                    have HXX := Lib.hid (And.intro hx (And.intro hxc hxo))
                    have bl : Below w9.heap.size w9 (w9.alloc (.cells #[.int .i64 i, .int .i64 j, .int .i64 0, .int .i64 v, .slice A7 L7 c7, .slice none 0 0] 68)) := (Below.refl _ _).alloc (Nat.le_refl _) _
                    have HGa := Lib.hid (HG9.out.below bl)
                    have HRa := Lib.hid (HR9.out.fr (K := fun _ => True) (Fr.below bl) trivial)
                    have HBa := Lib.hid (HB9.out.fr (K := fun _ => True) (Fr.below bl) trivial)
                    have HPa := Lib.hid (rowOff_fr HP9.out (Fr.below bl))
                    have HWa := Lib.hid (HW9.out.fr (Fr.below bl))
                    have HXa : Hid (oArc.at_ (w9.alloc (.cells #[.int .i64 i, .int .i64 j, .int .i64 0, .int .i64 v, .slice A7 L7 c7, .slice none 0 0] 68)) (fun q => some q ≠ (Value.slice A1 m c1).ownBlock ∧ B1 ≤ q) (ArcCells x A7 c7 none 0) x) := Lib.hid (oArc.keep hxo bl.size (fun q hq hp' => ⟨hp', bl.block q hq⟩))
                    have HOa : Hid ((w9.alloc (.cells #[.int .i64 i, .int .i64 j, .int .i64 0, .int .i64 v, .slice A7 L7 c7, .slice none 0 0] 68)).ownsRow B1 68 6 (.slice A1 m c1) m cs2) := Lib.hid (by have h := HWa.out.own; rw [HM.out] at h; exact h)
                    have hza : B1 ≤ (w9.alloc (.cells #[.int .i64 i, .int .i64 j, .int .i64 0, .int .i64 v, .slice A7 L7 c7, .slice none 0 0] 68)).heap.size := Nat.le_trans hz9 bl.size
                    clear hAX hx hxf hxc hxo HG9 HR9 HB9 HP9 HW9
                    (refine wpAnyH_ready (rs := [8]) (by kernel_rfl) (by simp) ?_; refine AllReadyH.cons rfl (fun K hK => ?_) AllReadyH.nil)
                    go_simp
                    refine hK.out _ _ (trivial) (fun hHeld => ?_)
                    clear hK K
                    (try simp only [Act.put, List.getElem_toArray, List.getElem_cons_succ, List.getElem_cons_zero, List.setIfInBounds_toArray, List.set_cons_zero, List.set_cons_succ])
                    (refine wpAnyH_ready (rs := [9]) (by kernel_rfl) (by simp) ?_; refine AllReadyH.cons rfl (fun K hK => ?_) AllReadyH.nil)
                    refine step_app arc_elem _ _ rfl B1 A1 m c1 cs2 rfl HOa.out ⟨w9.heap.size, 0, none⟩ 1 [.int .i64 i, .int .i64 j, .int .i64 0, .int .i64 v, .slice A7 L7 c7, .slice none 0 0] rfl rfl (fun q u hu => World.news_of_block (w := w9.alloc (.cells #[.int .i64 i, .int .i64 j, .int .i64 0, .int .i64 v, .slice A7 L7 c7, .slice none 0 0] 68)) (B := w9.heap.size) (World.alloc_heap_new w9 _) q u (by simpa using hu)) (fun u hu => by simp only [List.mem_cons, List.not_mem_nil, or_false] at hu; rcases hu with rfl | rfl | rfl | rfl | rfl | rfl <;> rfl) (by omega) hza rfl ?_
                    intro g8 c8 w8 hown8 hg8 hx8
                    have HG8 := Lib.hid (HGa.out.grow hg8 (fun q e => by have := (World.ownsRow.lt HOa.out q e).1; omega))
                    have hne : ∀ q, q < B1 → some q ≠ (Value.slice A1 m c1).ownBlock := fun q hq e => by have := (World.ownsRow.lt HOa.out q e.symm).1; omega
                    have HR8 := Lib.hid (HRa.out.kept hg8 (hne _ (by omega)))
                    have HB8 := Lib.hid (HBa.out.kept hg8 (hne _ (by omega)))
                    have HP8 := Lib.hid (rowOff_fr HPa.out (Fr.grown hg8 (fun q h => hne q h.2)))
                    have HW8 : Hid (Row oArc 68 B1 w8 (L ++ [arcF z i j]) (some ⟨g8, 0, none⟩) c8 (cs2 ++ [.int .i64 i, .int .i64 j, .int .i64 0, .int .i64 v, .slice A7 L7 c7, .slice none 0 0])) := Lib.hid (by
                      have hxa := HXa.out
                      rw [HXX.out.1, ← HXX.out.2.1]
                      exact HWa.out.push (by rw [HM.out]; exact hxa) (by rw [HM.out, HXX.out.2.1]; exact hown8) (by rw [HM.out]; exact hg8) (by rw [HM.out]; exact hx8))
                    have hz8 := hg8.size
                    clear hown8 hg8 hx8 hne
                    refine hK.out _ _ (trivial) (fun hHeld => ?_)
                    clear hK K
                    (try simp only [Act.put, List.getElem_toArray, List.getElem_cons_succ, List.getElem_cons_zero, List.setIfInBounds_toArray, List.set_cons_zero, List.set_cons_succ])
                    (refine wpAnyH_take (i := 10) (v := ?_) rfl (by kernel_rfl) (by kernel_rfl) (by kernel_rfl) (fun _ _ _ h => h) (Or.inl ⟨by kernel_rfl, ?_⟩) (by assumption) ?_; rotate_left; (focus (intro w hSw; (try dsimp only at hSw); go_simp; all_goals with_reducible rfl)); (try simp only [Act.put, List.getElem_toArray, List.getElem_cons_succ, List.getElem_cons_zero, List.setIfInBounds_toArray, List.set_cons_zero, List.set_cons_succ]))
                    have ci := HB8.out.cell (j := 1) rfl
                    have fi := HB8.out.frozen 1
                    (refine wpAnyH_ready (rs := [11]) (by kernel_rfl) (by simp) ?_; refine AllReadyH.cons rfl (fun K hK => ?_) AllReadyH.nil)
                    go_simp
                    clear ci fi
                    have hzz : B1 ≤ (w8.setCell ⟨b, 1, none⟩ (.slice (some ⟨g8, 0, none⟩) (m + 1) c8)).heap.size := by simp [World.setCell]; omega
                    have HGb := Lib.hid (HG8.out.set (b := b) (by omega) 1 (.slice (some ⟨g8, 0, none⟩) (m + 1) c8))
                    have HBb : Hid (Blk (w8.setCell ⟨b, 1, none⟩ (.slice (some ⟨g8, 0, none⟩) (m + 1) c8)) b 25 (netC A k c (some ⟨g8, 0, none⟩) (m + 1) c8)) := Lib.hid (HB8.out.set 1 _)
                    have HRb := Lib.hid (HR8.out.fr (Fr.set (K := fun q => q ≠ b) w8 1 (.slice (some ⟨g8, 0, none⟩) (m + 1) c8) (fun q h => h)) (by omega))
                    have HPb := Lib.hid (rowOff_fr HP8.out (Fr.set (q := b) w8 1 (.slice (some ⟨g8, 0, none⟩) (m + 1) c8) (fun q h => by have := h.1; omega)))
                    have HWb : Hid (Row oArc 68 B1 (w8.setCell ⟨b, 1, none⟩ (.slice (some ⟨g8, 0, none⟩) (m + 1) c8)) (L ++ [arcF z i j]) (some ⟨g8, 0, none⟩) c8 (cs2 ++ [.int .i64 i, .int .i64 j, .int .i64 0, .int .i64 v, .slice A7 L7 c7, .slice none 0 0])) := Lib.hid (HW8.out.fr (Fr.set (q := b) w8 1 (.slice (some ⟨g8, 0, none⟩) (m + 1) c8) (fun q h => by have h' : B1 ≤ q := h; omega)))
                    have HZb := Lib.hid hzz
                    clear hzz
                    refine hK.out _ _ (trivial) (fun hHeld => ?_)
                    clear hK K
                    (try simp only [Act.put, List.getElem_toArray, List.getElem_cons_succ, List.getElem_cons_zero, List.setIfInBounds_toArray, List.set_cons_zero, List.set_cons_succ])
                    (refine wpAnyH_done (by kernel_rfl) ?_ _)
                    go_wp2
                    exact ⟨⟨j + 1, some ⟨g8, 0, none⟩, c8, _, by omega, by go_num, by rw [HNX.out]; exact HGb, HRb, by rw [HNX.out, List.length_append, HM.out]; exact HBb, HPb, by rw [HNX.out]; exact HWb, HZb⟩, by simp [intOf]; omega⟩
                  · skip
                    -- what stands behind the travel function: worlds w9 (before the literal); facts for the literal's world
                    have hAX : Blk w9 b 25 (netC A k c A1 m c1) := HB9.out
                    obtain ⟨x, hx⟩ : ∃ x, arcF z i j = x := ⟨_, rfl⟩
                    have hxf : ArcFits x := by
                      rw [← hx]
                      have hv := Hv.out
                      unfold ArcFits arcF
                      simp only
                      rw [hv]
                      omega
                    have hxc : ArcCells x A7 c7 none 0 = [.int .i64 i, .int .i64 j, .int .i64 0, .int .i64 v, .slice A7 L7 c7, .slice none 0 0] := by
                      rw [← hx]
                      show [Value.int .i64 (i : Int), .int .i64 (j : Int), .int .i64 0, .int .i64 (frm z 1 50), .slice A7 (trvF (nx 1 z)).1.length c7, .slice none 0 0] = _
                      rw [Hv.out, HL7.out]
                    have hxo : oArc.at_ w9 (fun q => some q ≠ (Value.slice A1 m c1).ownBlock ∧ B1 ≤ q) (ArcCells x A7 c7 none 0) x := oArc_mk (by rw [← hx]; exact HT9.out) (by rw [← hx]; exact RowOff.nil) hxf
                    have HXX := Lib.hid (And.intro hx (And.intro hxc hxo))
                    have bl : Below w9.heap.size w9 (w9.alloc (.cells #[.int .i64 i, .int .i64 j, .int .i64 0, .int .i64 v, .slice A7 L7 c7, .slice none 0 0] 68)) := (Below.refl _ _).alloc (Nat.le_refl _) _
                    have HGa := Lib.hid (HG9.out.below bl)
                    have HRa := Lib.hid (HR9.out.fr (K := fun _ => True) (Fr.below bl) trivial)
                    have HBa := Lib.hid (HB9.out.fr (K := fun _ => True) (Fr.below bl) trivial)
                    have HPa := Lib.hid (rowOff_fr HP9.out (Fr.below bl))
                    have HWa := Lib.hid (HW9.out.fr (Fr.below bl))
                    have HXa : Hid (oArc.at_ (w9.alloc (.cells #[.int .i64 i, .int .i64 j, .int .i64 0, .int .i64 v, .slice A7 L7 c7, .slice none 0 0] 68)) (fun q => some q ≠ (Value.slice A1 m c1).ownBlock ∧ B1 ≤ q) (ArcCells x A7 c7 none 0) x) := Lib.hid (oArc.keep hxo bl.size (fun q hq hp' => ⟨hp', bl.block q hq⟩))
                    have HOa : Hid ((w9.alloc (.cells #[.int .i64 i, .int .i64 j, .int .i64 0, .int .i64 v, .slice A7 L7 c7, .slice none 0 0] 68)).ownsRow B1 68 6 (.slice A1 m c1) m cs2) := Lib.hid (by have h := HWa.out.own; rw [HM.out] at h; exact h)
                    have hza : B1 ≤ (w9.alloc (.cells #[.int .i64 i, .int .i64 j, .int .i64 0, .int .i64 v, .slice A7 L7 c7, .slice none 0 0] 68)).heap.size := Nat.le_trans hz9 bl.size
                    clear hAX hx hxf hxc hxo HG9 HR9 HB9 HP9 HW9
                    have ci := HBa.out.cell (j := 1) rfl
                    go_simp
                    refine hK.out _ _ (trivial) (fun hHeld => ?_)
                    clear hK K
                    (try simp only [Act.put, List.getElem_toArray, List.getElem_cons_succ, List.getElem_cons_zero, List.setIfInBounds_toArray, List.set_cons_zero, List.set_cons_succ])
                    (refine wpAnyH_ready (rs := [1]) (by kernel_rfl) (by simp) ?_; refine AllReadyH.cons rfl (fun K hK => ?_) AllReadyH.nil)
                    go_simp
                    clear ci
                    refine hK.out _ _ (trivial) (fun hHeld => ?_)
                    clear hK K
                    (try simp only [Act.put, List.getElem_toArray, List.getElem_cons_succ, List.getElem_cons_zero, List.setIfInBounds_toArray, List.set_cons_zero, List.set_cons_succ])
                    (refine wpAnyH_ready (rs := [9]) (by kernel_rfl) (by simp) ?_; refine AllReadyH.cons rfl (fun K hK => ?_) AllReadyH.nil)
                    refine step_app arc_elem _ _ rfl B1 A1 m c1 cs2 rfl HOa.out ⟨w9.heap.size, 0, none⟩ 1 [.int .i64 i, .int .i64 j, .int .i64 0, .int .i64 v, .slice A7 L7 c7, .slice none 0 0] rfl rfl (fun q u hu => World.news_of_block (w := w9.alloc (.cells #[.int .i64 i, .int .i64 j, .int .i64 0, .int .i64 v, .slice A7 L7 c7, .slice none 0 0] 68)) (B := w9.heap.size) (World.alloc_heap_new w9 _) q u (by simpa using hu)) (fun u hu => by simp only [List.mem_cons, List.not_mem_nil, or_false] at hu; rcases hu with rfl | rfl | rfl | rfl | rfl | rfl <;> rfl) (by omega) hza rfl ?_
                    intro g8 c8 w8 hown8 hg8 hx8
                    have HG8 := Lib.hid (HGa.out.grow hg8 (fun q e => by have := (World.ownsRow.lt HOa.out q e).1; omega))
                    have hne : ∀ q, q < B1 → some q ≠ (Value.slice A1 m c1).ownBlock := fun q hq e => by have := (World.ownsRow.lt HOa.out q e.symm).1; omega
                    have HR8 := Lib.hid (HRa.out.kept hg8 (hne _ (by omega)))
                    have HB8 := Lib.hid (HBa.out.kept hg8 (hne _ (by omega)))
                    have HP8 := Lib.hid (rowOff_fr HPa.out (Fr.grown hg8 (fun q h => hne q h.2)))
                    have HW8 : Hid (Row oArc 68 B1 w8 (L ++ [arcF z i j]) (some ⟨g8, 0, none⟩) c8 (cs2 ++ [.int .i64 i, .int .i64 j, .int .i64 0, .int .i64 v, .slice A7 L7 c7, .slice none 0 0])) := Lib.hid (by
                      have hxa := HXa.out
                      rw [HXX.out.1, ← HXX.out.2.1]
                      exact HWa.out.push (by rw [HM.out]; exact hxa) (by rw [HM.out, HXX.out.2.1]; exact hown8) (by rw [HM.out]; exact hg8) (by rw [HM.out]; exact hx8))
                    have hz8 := hg8.size
                    clear hown8 hg8 hx8 hne
                    refine hK.out _ _ (trivial) (fun hHeld => ?_)
                    clear hK K
                    (try simp only [Act.put, List.getElem_toArray, List.getElem_cons_succ, List.getElem_cons_zero, List.setIfInBounds_toArray, List.set_cons_zero, List.set_cons_succ])
                    (refine wpAnyH_take (i := 10) (v := ?_) rfl (by kernel_rfl) (by kernel_rfl) (by kernel_rfl) (fun _ _ _ h => h) (Or.inl ⟨by kernel_rfl, ?_⟩) (by assumption) ?_; rotate_left; (focus (intro w hSw; (try dsimp only at hSw); go_simp; all_goals with_reducible rfl)); (try simp only [Act.put, List.getElem_toArray, List.getElem_cons_succ, List.getElem_cons_zero, List.setIfInBounds_toArray, List.set_cons_zero, List.set_cons_succ]))
                    have ci := HB8.out.cell (j := 1) rfl
                    have fi := HB8.out.frozen 1
                    (refine wpAnyH_ready (rs := [11]) (by kernel_rfl) (by simp) ?_; refine AllReadyH.cons rfl (fun K hK => ?_) AllReadyH.nil)
                    go_simp
                    clear ci fi
                    have hzz : B1 ≤ (w8.setCell ⟨b, 1, none⟩ (.slice (some ⟨g8, 0, none⟩) (m + 1) c8)).heap.size := by simp [World.setCell]; omega
                    have HGb := Lib.hid (HG8.out.set (b := b) (by omega) 1 (.slice (some ⟨g8, 0, none⟩) (m + 1) c8))
                    have HBb : Hid (Blk (w8.setCell ⟨b, 1, none⟩ (.slice (some ⟨g8, 0, none⟩) (m + 1) c8)) b 25 (netC A k c (some ⟨g8, 0, none⟩) (m + 1) c8)) := Lib.hid (HB8.out.set 1 _)
                    have HRb := Lib.hid (HR8.out.fr (Fr.set (K := fun q => q ≠ b) w8 1 (.slice (some ⟨g8, 0, none⟩) (m + 1) c8) (fun q h => h)) (by omega))
                    have HPb := Lib.hid (rowOff_fr HP8.out (Fr.set (q := b) w8 1 (.slice (some ⟨g8, 0, none⟩) (m + 1) c8) (fun q h => by have := h.1; omega)))
                    have HWb : Hid (Row oArc 68 B1 (w8.setCell ⟨b, 1, none⟩ (.slice (some ⟨g8, 0, none⟩) (m + 1) c8)) (L ++ [arcF z i j]) (some ⟨g8, 0, none⟩) c8 (cs2 ++ [.int .i64 i, .int .i64 j, .int .i64 0, .int .i64 v, .slice A7 L7 c7, .slice none 0 0])) := Lib.hid (HW8.out.fr (Fr.set (q := b) w8 1 (.slice (some ⟨g8, 0, none⟩) (m + 1) c8) (fun q h => by have h' : B1 ≤ q := h; omega)))
                    have HZb := Lib.hid hzz
                    clear hzz
                    refine hK.out _ _ (trivial) (fun hHeld => ?_)
                    clear hK K
                    (try simp only [Act.put, List.getElem_toArray, List.getElem_cons_succ, List.getElem_cons_zero, List.setIfInBounds_toArray, List.set_cons_zero, List.set_cons_succ])
                    (refine wpAnyH_done (by kernel_rfl) ?_ _)
                    go_wp2
                    exact ⟨⟨j + 1, some ⟨g8, 0, none⟩, c8, _, by omega, by go_num, by rw [HNX.out]; exact HGb, HRb, by rw [HNX.out, List.length_append, HM.out]; exact HBb, HPb, by rw [HNX.out]; exact HWb, HZb⟩, by simp [intOf]; omega⟩
            · have hjk' : j = k := by omega
              subst hjk'
              clear hjk
              have HNX : Hid (arcsTo j s (i + 1) = rowTo i st j) := Lib.hid (by rw [arcsTo, HST.out])
              go_wp2_with fail
              exact ⟨⟨i + 1, A1, c1, cs2, by omega, by go_num, by rw [HNX.out]; exact HG, HR, by rw [HNX.out]; exact HB, HPO, by rw [HNX.out]; exact HW, HZ⟩, by simp [intOf]; omega⟩
        · have hik' : i = k := by omega
          subst hik'
          clear hik
          have hBz := HZ.out
          have hab := arcs_bd i s i
          have h3 : i * i ≤ 100 * 100 := Nat.mul_le_mul hn hn
          have HAO : Hid (RowOff oArc wr (fun q => B1 ≤ q) A1 (arcsTo i s i).1) := Lib.hid (HW.out.off (by omega))
          obtain ⟨m, hm⟩ : ∃ m, (arcsTo i s i).1.length = m := ⟨_, rfl⟩
          have HM := Lib.hid hm
          rw [hm] at HB
          clear hm HW hab h3
          go_wp2_with (first
            | ((with_reducible refine wpList_loadG stNet _ rfl ⟨b, 0, none⟩ (netC A i c A1 m c1) ?_ ?_ ?_ ?_ ?_); exact rfl; exact rfl; exact HB.out.cells; exact rfl)
            | ((with_reducible refine wpList_storeL stNet rfl _ _ rfl w.heap.size (netC none 0 0 none 0 0) (netC A i c A1 m c1) ?_ ?_ ?_ ?_ ?_ (netC_one _ _ _ _ _ _) ?_); exact rfl; exact rfl; exact HR.out; exact rfl; exact rfl; intro wz k1 k2 k3 k4; have K := Lib.hid (And.intro k1 (And.intro k2 (And.intro k3 k4))); clear k1 k2 k3 k4))
          have HRz : Blk wz w.heap.size 25 (netC A i c A1 m c1) := K.out.1
          have r0 := HRz.cell (j := 0) rfl
          have r1 := HRz.cell (j := 1) rfl
          have hG := HG.out.store (Nat.le_refl _) K.out.2.1 K.out.2.2.2
          have hfr : ∀ K' : Nat → Prop, (∀ q, K' q → q ≠ w.heap.size) → Fr K' wr wz := fun K' hk' => ⟨by rw [K.out.2.2.1]; exact Nat.le_refl _, fun q _ hq => K.out.2.1 q (hk' q hq)⟩
          have hP := rowOff_fr HPO.out (hfr _ (fun q h => by have := h.1; omega))
          have hA := rowOff_fr HAO.out (hfr _ (fun q h => by have h' : B1 ≤ q := h; omega))
          refine bodyPost_ret (v := .agg #[.slice A i c, .slice A1 m c1]) (by simp [results, Tryd.results8, go_sem, r0, r1]) rfl ?_
          exact ⟨A, c, A1, c1, by rw [show (netF i s).places.length = i from plcs_len' i, show (netF i s).arcs.length = m from HM.out], hP.weak (fun q _ h => by have := h.1; omega), hA.weak (fun q _ h => by have h' : B1 ≤ q := h; omega), hG.box, hG.grown⟩
end Go.Proofs.YtamhjodppdodfaaDoor.gen
