/- The reference's rules of a type. -/
import Derived.Test.YtamhjodppdodfaaDoorZ2
import Derived.Test.YtamhjodppdodfaaDoorFltX
import Derived.Deep.QuietTactic
import Derived.BigQuiet
namespace Go.Proofs.YtamhjodppdodfaaDoor.flt
open Go.RowKit
open Go.Proofs.YtamhjodppdodfaaDoor.lib Go.Proofs.YtamhjodppdodfaaDoor.rd Go.Proofs.YtamhjodppdodfaaDoor.typ Go.Proofs.YtamhjodppdodfaaDoor.txt
set_option linter.unusedVariables false
set_option linter.unusedSimpArgs false

/-- Where the walk of rules stands between two questions. -/
structure Sr (H : Nat) (w : World) (A0 : Option Addr) (n0 d0 : Nat) (t : Ty) (C : Option Addr) (c : Nat) (xs : List Int) (v : Value) (wx : World) : Prop where
  row : ∃ A d, v = .slice A xs.length d ∧ wx.ownsRow (H + 1 + 1) 31 1 (.slice A xs.length d) xs.length (xs.map (.int .i64))
  blk : TyBlk wx (H + 1) t C c
  net : wx.cell? ⟨H, 0, none⟩ = some (.slice A0 n0 d0)
  bel : Below H w wx
  size : H + 1 + 1 ≤ wx.heap.size
  len : xs.length < 50
theorem Sr.keep {H : Nat} {w : World} {A0 : Option Addr} {n0 d0 : Nat} {t : Ty} {C : Option Addr} {c : Nat} {xs ys : List Int} {v v' : Value} {wx wy : World} (h : Sr H w A0 n0 d0 t C c xs v wx) (hb : Below (H + 1 + 1) wx wy)
    (hr : ∃ A d, v' = .slice A ys.length d ∧ wy.ownsRow (H + 1 + 1) 31 1 (.slice A ys.length d) ys.length (ys.map (.int .i64))) (hl : ys.length < 50) : Sr H w A0 n0 d0 t C c ys v' wy :=
  ⟨hr, (hb.block _ (by omega)).trans h.blk, (hb.cell (p := ⟨H, 0, none⟩) (show H < H + 1 + 1 by omega)).trans h.net, h.bel.trans (hb.mono (by omega)), Nat.le_trans h.size hb.size, hl⟩
theorem Sr.drewN {H : Nat} {w : World} {A0 : Option Addr} {n0 d0 : Nat} {t : Ty} {C : Option Addr} {c : Nat} {xs : List Int} {v : Value} {wx : World} (h : Sr H w A0 n0 d0 t C c xs v wx) (k : Nat) : Sr H w A0 n0 d0 t C c xs v (wx.drewN k) := by
  obtain ⟨A, d, h1, h2⟩ := h.row
  exact ⟨⟨A, d, h1, h2⟩, h.blk, h.net, bel_drewN h.bel _, h.size, h.len⟩

end Go.Proofs.YtamhjodppdodfaaDoor.flt
