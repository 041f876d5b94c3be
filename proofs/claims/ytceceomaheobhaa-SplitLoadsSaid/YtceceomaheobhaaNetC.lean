/- network.arc: the errors of an arc. -/
import Derived.Test.YtceceomaheobhaaNetB
import Derived.Test.YtceceomaheobhaaTrv
import Derived.Test.YtceceomaheobhaaBase
namespace Go.Proofs.Ytceceomaheobhaa.net
open Go.RowKit
open Go.Proofs.Ytceceomaheobhaa.lib Go.Proofs.Ytceceomaheobhaa.rd Go.Proofs.Ytceceomaheobhaa.typ Go.Proofs.Ytceceomaheobhaa.app Go.Proofs.Ytceceomaheobhaa.note Go.Proofs.Ytceceomaheobhaa.mrk Go.Proofs.Ytceceomaheobhaa.trv Go.Proofs.Ytceceomaheobhaa.flts Go.Proofs.Ytceceomaheobhaa.txt
set_option linter.unusedVariables false
set_option linter.unusedSimpArgs false

theorem errno_elem : ElemOf 116 24 (.int .i64 0) 1 8 := ⟨Try.underlying116, by kernel_rfl, rfl, by decide, by decide⟩
theorem flt_place {w : World} {base c : Nat} {A : Option Addr} {fs : List Flt} (h : Fown w base A c fs) :
    ∃ g, base ≤ g ∧ (0 < fs.length → A = some ⟨g, 0, none⟩ ∧ g < w.heap.size) ∧ ∀ (q : Nat) f, fs[q]? = some f → w.cell? ⟨g, q * 2, none⟩ = some (.int .i64 f.err) ∧ w.cell? ⟨g, q * 2 + 1, none⟩ = some (.string f.at_) := by
  unfold Fown at h
  rcases h.2 with ⟨h1, h2⟩ | ⟨g, cap, cur, h1, h2, h3, h4⟩
  · exact ⟨base, Nat.le_refl _, fun hh => absurd hh (by omega), fun q f hq => absurd (List.getElem?_eq_some_iff.1 hq).1 (by omega)⟩
  · injection h1 with h1 _ _
    subst h1
    refine ⟨g, h2, fun _ => ⟨rfl, (Array.getElem?_eq_some_iff.1 h3).1⟩, fun q f hq => ?_⟩
    have hlt := (List.getElem?_eq_some_iff.1 hq).1
    have hf := fun j hj => flat_at (g := fun f : Flt => [Value.int .i64 f.err, Value.string f.at_]) (s := 2) (fun _ => rfl) fs q f hq j hj
    have h0 := hf 0 (by decide)
    have h1' := hf 1 (by decide)
    refine ⟨?_, ?_⟩
    · rw [h.cellAt (q * 2) (by omega)]
      exact h0
    · rw [h.cellAt (q * 2 + 1) (by omega)]
      exact h1'
def arcOk (P : Int) (x : Arc) : Bool := placeB P x.frm && placeB P x.to
def arcBad (x : Arc) : Bool := decide (x.profile < 0) || (decide (7 < x.profile) || (decide (x.miles < 0) || (decide (10000 < x.miles) || (x.frm == x.to))))
def wayK (x : Arc) : Int × Int × Int := (x.frm, x.to, x.profile)
/-- The errors of an arc; ks: the ways before it. -/
def arcE (P : Int) (ks : List (Int × Int × Int)) (x : Arc) : List Int :=
  ((pushIf (pushIf (pushIf [] (arcOk P x) 11) (!arcBad x) 2) (!hasB ks (wayK x)) 6) ++ (tvTo x.travel x.travel.length).map (·.err)) ++ slTo x.slow x.slow.length
theorem pushIf_own {w w' : World} {base : Nat} {A : Option Addr} {c : Nat} {xs : List Int} {u : Int} (h : EOwn w base A c xs) (hb : Below w.heap.size w w') : EOwn w' base A c (pushIf xs true u) := own_below h hb
theorem wayOk_of {x : Arc} (h : ArcFits x) : wayOk (wayK x) := by
  unfold ArcFits at h
  exact ⟨h.1, h.2.1, h.2.2.1⟩

end Go.Proofs.Ytceceomaheobhaa.net
