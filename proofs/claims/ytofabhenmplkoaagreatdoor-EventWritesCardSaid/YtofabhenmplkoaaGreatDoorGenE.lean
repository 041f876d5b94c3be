/- Networks that are drawn: the program. -/
import Derived.Test.YtofabhenmplkoaaGreatDoorGenD
import Derived.Test.YtofabhenmplkoaaGreatDoorGenT
import Derived.Test.YtofabhenmplkoaaGreatDoorBase
import Derived.Deep.RegionHeld3
namespace Go.Proofs.YtofabhenmplkoaaGreatDoor.gen
open Go.RowKit
open Go.Proofs.YtofabhenmplkoaaGreatDoor.lib Go.Proofs.YtofabhenmplkoaaGreatDoor.rd Go.Proofs.YtofabhenmplkoaaGreatDoor.app Go.Proofs.YtofabhenmplkoaaGreatDoor.els Go.Proofs.YtofabhenmplkoaaGreatDoor.typ Go.Proofs.YtofabhenmplkoaaGreatDoor.txt Go.Proofs.YtofabhenmplkoaaGreatDoor.big Go.Proofs.YtofabhenmplkoaaGreatDoor.off
set_option linter.unusedVariables false
set_option linter.unusedSimpArgs false

/-- The blocks of which K holds stay. -/
def Fr (K : Nat → Prop) (w w' : World) : Prop := w.heap.size ≤ w'.heap.size ∧ ∀ b, b < w.heap.size → K b → w'.heap[b]? = w.heap[b]?
theorem Fr.trans {K : Nat → Prop} {a b c : World} (h : Fr K a b) (k : Fr K b c) : Fr K a c := ⟨Nat.le_trans h.1 k.1, fun i hi hK => (k.2 i (Nat.lt_of_lt_of_le hi h.1) hK).trans (h.2 i hi hK)⟩
theorem Fr.below {K : Nat → Prop} {w w' : World} (h : Below w.heap.size w w') : Fr K w w' := ⟨h.size, fun b hb _ => h.block b hb⟩
theorem Fr.grown {K : Nat → Prop} {w w' : World} {row : Option Nat} (h : w.grownBy w' row) (hn : ∀ b, K b → some b ≠ row) : Fr K w w' := ⟨h.size, fun b hb hK => h.block b hb (hn b hK)⟩
theorem Fr.set {K : Nat → Prop} (w : World) {q : Nat} (i : Nat) (u : Value) (hn : ∀ b, K b → b ≠ q) : Fr K w (w.setCell ⟨q, i, none⟩ u) := ⟨by simp [World.setCell], fun b _ hK => Below.heap_setCell w ⟨q, i, none⟩ u b (hn b hK)⟩
theorem Fr.drew {K : Nat → Prop} (w : World) : Fr K w w.drew := ⟨Nat.le_refl _, fun _ _ _ => rfl⟩
theorem Fr.weak {K K' : Nat → Prop} {w w' : World} (h : Fr K w w') (hk : ∀ b, K' b → K b) : Fr K' w w' := ⟨h.1, fun b hb hK => h.2 b hb (hk b hK)⟩
theorem Blk.fr {K : Nat → Prop} {w w' : World} {b : Nat} {t : TypeId} {cs : List Value} (h : Blk w b t cs) (hf : Fr K w w') (hb : K b) : Blk w' b t cs := (hf.2 b h.lt hb).trans h
theorem rowOff_fr {X : Type} {r : Off X} {w w' : World} {P : Nat → Prop} {A : Option Addr} {l : List X} (h : RowOff r w P A l) (hf : Fr P w w') : RowOff r w' P A l := h.keep hf.1 (fun b hb hp => ⟨hp, hf.2 b hb hp⟩)
theorem own_fr {w w' : World} {base : Nat} {e : TypeId} {size n : Nat} {v : Value} {xs : List Value} (h : w.ownsRow base e size v n xs) (hf : Fr (fun b => base ≤ b) w w') : w'.ownsRow base e size v n xs := by
  rcases h.2 with ⟨h6, h7⟩ | ⟨g, cap, cur, h6, h7, h8, h9⟩
  · exact ⟨h.1, .inl ⟨h6, h7⟩⟩
  · exact ⟨h.1, .inr ⟨g, cap, cur, h6, h7, (hf.2 g (Array.getElem?_eq_some_iff.1 h8).1 h7).trans h8, h9⟩⟩
/-- A row of the call's own under construction, whose elements lead to blocks from base on. -/
structure Row {X : Type} (r : Off X) (e : TypeId) (base : Nat) (wr : World) (xs : List X) (A : Option Addr) (c : Nat) (cs : List Value) : Prop where
  own : wr.ownsRow base e r.rd.size (.slice A xs.length c) xs.length cs
  els : EG r wr (fun b => some b ≠ (Value.slice A xs.length c).ownBlock ∧ base ≤ b) cs xs
section
variable {X : Type} {r : Off X} {e : TypeId} {base : Nat} {wr wx : World} {xs : List X} {A : Option Addr} {c : Nat} {cs : List Value}
theorem Row.nil : Row r e base wr [] none 0 [] := ⟨World.ownsRow_nil _ _ _ _, EG.nil⟩
theorem Row.fr (h : Row r e base wr xs A c cs) (hf : Fr (fun b => base ≤ b) wr wx) : Row r e base wx xs A c cs := ⟨own_fr h.own hf, h.els.keep hf.1 (fun b hb hp => ⟨hp, hf.2 b hb hp.2⟩)⟩
theorem Row.push (h : Row r e base wr xs A c cs) {x : X} {cx : List Value} {g c' : Nat} (hx : r.at_ wr (fun b => some b ≠ (Value.slice A xs.length c).ownBlock ∧ base ≤ b) cx x)
    (hown : wx.ownsRow base e r.rd.size (.slice (some ⟨g, 0, none⟩) (xs.length + 1) c') (xs.length + 1) (cs ++ cx)) (hg : wr.grownBy wx (Value.slice A xs.length c).ownBlock) (hd : (Value.slice A xs.length c).ownBlock = some g ∨ wr.heap.size ≤ g) :
    Row r e base wx (xs ++ [x]) (some ⟨g, 0, none⟩) c' (cs ++ cx) := ⟨by rw [List.length_append]; exact hown, h.els.push hx hg hd⟩
theorem Row.off (h : Row r e base wr xs A c cs) (hl : xs.length ≤ 17592186043904) : RowOff r wr (fun b => base ≤ b) A xs := h.els.off h.own hl (fun b _ hb => hb.2) (fun b hb => hb)
theorem Row.lo (h : Row r e base wr xs A c cs) {q : Nat} (e' : (Value.slice A xs.length c).ownBlock = some q) : base ≤ q := (World.ownsRow.lt h.own q e').1
end
theorem str_elem : ElemOf 22 9 (.string ⟨#[]⟩) 1 16 := ⟨Tryz.underlying22, by kernel_rfl, rfl, by decide, by decide⟩
theorem arc_elem : ElemOf 23 59 (.agg #[.int .i64 0, .int .i64 0, .int .i64 0, .int .i64 0, .slice none 0 0, .slice none 0 0]) 6 80 := ⟨Tryz.underlying23, by kernel_rfl, rfl, by decide, by decide⟩
theorem plcs_len' (n : Nat) : (plcs n).length = n := by unfold plcs; simp
theorem plcs_succ (n : Nat) : plcs (n + 1) = plcs n ++ [plcN n] := by unfold plcs; rw [List.range_succ, List.map_append]; rfl
theorem plcN_size (i : Nat) : (plcN i).size ≤ 100 := by
  unfold plcN
  rw [ByteArray.size_append]
  have := decS_size i
  show 1 + _ ≤ _
  omega
theorem pts_all (p : Pt) (s : Int) (hp : 0 ≤ p.t ∧ p.t ≤ 50 ∧ 0 ≤ p.a ∧ p.a ≤ 110) : ∀ k : Nat, k ≤ 10 → ∀ q ∈ (ptsTo p s k).1, 0 ≤ q.t ∧ q.t ≤ 2000 ∧ 0 ≤ q.a ∧ q.a ≤ 2000
  | 0, _, q, hq => by
    have hq' : q = p := by simpa [ptsTo] using hq
    subst hq'
    omega
  | k + 1, hk, q, hq => by
    have h := pts_bd p s hp (k + 1)
    rw [ptsTo] at hq h
    rcases List.mem_append.1 hq with hq | hq
    · exact pts_all p s hp k (by omega) q hq
    · rw [List.mem_singleton] at hq
      subst hq
      simp only at h
      push_cast at h
      omega
theorem trv_fits (s : Int) : (trvF s).1.length ≤ 3 ∧ ∀ q ∈ (trvF s).1, PtFits q := by
  have f0 := frm_bd (s := s) (a := 1) (b := 3) (by omega)
  have f1 := frm_bd (s := nx 1 s) (a := 0) (b := 50) (by omega)
  have f2 := frm_bd (s := nx 2 s) (a := 1) (b := 60) (by omega)
  have hn : trvN s ≤ 2 := by unfold trvN; omega
  refine ⟨by unfold trvF; rw [pts_len]; omega, fun q hq => ?_⟩
  have h := pts_all (pt0 s) (nx 3 s) (by unfold pt0; simp only; omega) (trvN s) (by omega) q hq
  unfold PtFits
  omega
theorem rowOff_pts {w : World} {base c : Nat} {A : Option Addr} {l : List Pt} {P : Nat → Prop} (h : w.ownsRow base 140 2 (.slice A l.length c) l.length (pcs l)) (hl : l.length ≤ 1000) (hf : ∀ q ∈ l, PtFits q) (hP : ∀ g, base ≤ g → g < w.heap.size → P g) : RowOff oPt w P A l := by
  refine ⟨by omega, fun i x hi => ?_⟩
  rcases h.2 with ⟨h6, h7⟩ | ⟨g, cap, cur, h6, h7, h8, h9⟩
  · have := (List.getElem?_eq_some_iff.1 hi).1
    omega
  · injection h6 with h6 _ _
    subst h6
    have hlt := (Array.getElem?_eq_some_iff.1 h8).1
    refine ⟨⟨g, 0, none⟩, PtCells x, rfl, hP g h7 hlt, hlt, oPt_mk (hf x (List.mem_of_getElem? hi)), fun j u hu => h.cells (g := g) rfl _ _ ?_⟩
    have hj : j < 2 := (List.getElem?_eq_some_iff.1 hu).1
    rw [show oPt.rd.size = 2 from rfl, pcs_at hi j hj]
    exact hu
theorem row_bd (i : Nat) (st : List Arc × Int) : ∀ j, (rowTo i st j).1.length ≤ st.1.length + j
  | 0 => by simp [rowTo]
  | j + 1 => by
    have ih := row_bd i st j
    rw [rowTo]
    split
    · omega
    · simp only [List.length_append, List.length_cons, List.length_nil]; omega
theorem arcs_bd (n : Nat) (s : Int) : ∀ i, (arcsTo n s i).1.length ≤ i * n
  | 0 => by simp [arcsTo]
  | i + 1 => by
    have ih := arcs_bd n s i
    have := row_bd i (arcsTo n s i) n
    rw [arcsTo, Nat.succ_mul]
    omega
theorem stNet : StructOf 25 2 := ⟨⟨_, Tryz.underlying25⟩, by kernel_rfl⟩
def netC (A0 : Option Addr) (n0 c0 : Nat) (A1 : Option Addr) (n1 c1 : Nat) : List Value := [.slice A0 n0 c0, .slice A1 n1 c1]
theorem netC_one (A0 : Option Addr) (n0 c0 : Nat) (A1 : Option Addr) (n1 c1 : Nat) : ∀ u ∈ netC A0 n0 c0 A1 n1 c1, u.oneCell' = true := fun u hu => by
  simp only [netC, List.mem_cons, List.not_mem_nil, or_false] at hu
  rcases hu with rfl | rfl <;> rfl
/-- A network that was drawn, handed back. -/
def NetOut (T : TypeId) (p : Nat) (N : Net) (s' : Int) (w : World) (e : Ending) (w' : World) : Prop := ∃ A0 c0 A1 c1, e = .returned (.agg #[.slice A0 N.places.length c0, .slice A1 N.arcs.length c1]) ∧ RowOff oStr w' (fun b => w.heap.size ≤ b) A0 N.places ∧ RowOff oArc w' (fun b => w.heap.size ≤ b) A1 N.arcs ∧ Boxed w' p T (.int .i64 s') ∧ w.grownBy w' (some p)
end Go.Proofs.YtofabhenmplkoaaGreatDoor.gen
