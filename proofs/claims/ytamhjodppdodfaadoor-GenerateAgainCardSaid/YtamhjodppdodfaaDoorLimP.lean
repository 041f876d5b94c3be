/- An instance that is accepted is small. -/
import Derived.Test.YtamhjodppdodfaaDoorZ4
import Derived.Test.YtamhjodppdodfaaDoorParP
namespace Go.Proofs.YtamhjodppdodfaaDoor.lim
open Go.RowKit
open Go.Proofs.YtamhjodppdodfaaDoor.lib Go.Proofs.YtamhjodppdodfaaDoor.loads Go.Proofs.YtamhjodppdodfaaDoor.typ Go.Proofs.YtamhjodppdodfaaDoor.ins Go.Proofs.YtamhjodppdodfaaDoor.note Go.Proofs.YtamhjodppdodfaaDoor.txt Go.Proofs.YtamhjodppdodfaaDoor.ren Go.Proofs.YtamhjodppdodfaaDoor.rul Go.Proofs.YtamhjodppdodfaaDoor.par Go.Proofs.YtamhjodppdodfaaDoor.eqg Go.Proofs.YtamhjodppdodfaaDoor.net Go.Proofs.YtamhjodppdodfaaDoor.trv
set_option linter.unusedVariables false
set_option linter.unusedSimpArgs false

theorem netTo_nil {n : Net} : ∀ k, netTo n k = [] → (n.places.length ≤ 24 ∧ n.arcs.length ≤ 1024) ∧ ∀ (j : Nat) a, j < k → n.arcs[j]? = some a → arcE n.places.length ((n.arcs.take j).map wayK) a = []
  | 0, h => by
    rw [netTo, List.append_eq_nil_iff] at h
    refine ⟨⟨?_, ?_⟩, fun j a hj => absurd hj (by omega)⟩
    · have hp : ∀ k, plTo n.places k = [] → n.places.length ≤ 24 := by
        intro k
        induction k with
        | zero =>
          intro h
          unfold plTo at h
          split at h
          · cases h
          · omega
        | succ k ih =>
          intro h
          rw [plTo, List.append_eq_nil_iff] at h
          exact ih h.1
      exact hp _ h.1
    · have h2 := h.2
      split at h2
      · cases h2
      · omega
  | k + 1, h => by
    rw [netTo, List.append_eq_nil_iff] at h
    obtain ⟨h1, h2⟩ := netTo_nil k h.1
    refine ⟨h1, fun j a hj ha => ?_⟩
    rcases Nat.lt_or_ge j k with hlt | hge
    · exact h2 j a hlt ha
    · obtain rfl : j = k := by omega
      have h3 := h.2
      unfold arAt at h3
      rw [ha] at h3
      exact List.map_eq_nil_iff.1 h3
theorem slTo_nil {l : List Pt} : ∀ k, slTo l k = [] → l.length ≤ 16
  | 0, h => by
    unfold slTo at h
    split at h
    · cases h
    · omega
  | k + 1, h => by
    rw [slTo, List.append_eq_nil_iff] at h
    exact slTo_nil k h.1
theorem tvTo_nil {l : List Pt} : ∀ k, tvTo l k = [] → szB l.length = false
  | 0, h => by
    unfold tvTo at h
    split at h
    · cases h
    · rename_i h'
      simpa using h'
  | k + 1, h => by
    rw [tvTo, List.append_eq_nil_iff] at h
    exact tvTo_nil k h.1
theorem arcE_nil {P : Int} {ks : List (Int × Int × Int)} {a : Arc} (h : arcE P ks a = []) : a.travel.length ≤ 100 ∧ a.slow.length ≤ 1000 := by
  unfold arcE at h
  rw [List.append_eq_nil_iff, List.append_eq_nil_iff, List.map_eq_nil_iff] at h
  have h1 := tvTo_nil _ h.1.2
  have h2 := slTo_nil _ h.2
  refine ⟨?_, by omega⟩
  unfold szB at h1
  simp at h1
  omega
/-- An instance that is accepted is small. -/
theorem lim_of {x : Ins} (h : insF x = []) : Lim x := by
  obtain ⟨hN, hT, hO, hR⟩ := par.insF_nil.1 h
  have ho : x.orders.length ≤ 10 := by
    unfold insO at hO
    exact ((par.ofltsTo_nil x.orders.length).1 hO).1
  unfold insR rul.rulesF at hR
  rw [List.append_eq_nil_iff] at hR
  have ha := (par.pairs_nil.1 hR.1).1
  have hb := (par.pairs_nil.1 hR.2).1
  unfold insN at hN
  obtain ⟨⟨h1, h2⟩, h3⟩ := netTo_nil _ hN
  have hpt : ∀ a ∈ x.net.arcs, a.travel.length ≤ 100 ∧ a.slow.length ≤ 1000 := fun a ha => by
    obtain ⟨j, hj⟩ := List.mem_iff_getElem?.1 ha
    exact arcE_nil (h3 j a (List.getElem?_eq_some_iff.1 hj).1 hj)
  have ht : ∀ k, flt.fltsTo ((x.net.places.length : Int) - 1) x.types k = [] → x.types.length ≤ 6 := by
    intro k
    induction k with
    | zero =>
      intro h
      unfold flt.fltsTo at h
      split at h
      · rename_i hb
        unfold flt.inB at hb
        simp only [Bool.and_eq_true, decide_eq_true_eq] at hb
        omega
      · cases h
    | succ k ih =>
      intro h
      rw [flt.fltsTo, List.append_eq_nil_iff] at h
      exact ih h.1
  refine ⟨by omega, by omega, hpt, fun j a hj hne => absurd (h3 j a (List.getElem?_eq_some_iff.1 hj).1 hj) hne, ?_, ?_, by omega, by omega, by omega⟩
  · unfold insN
    rw [hN]
    simp
  · have := ht _ hT
    omega
theorem dims_few {P : Int} {l : List Ty} (h : flt.fltsTo P l l.length = []) : flt.dimsN l ≤ 3 := by
  have key : ∀ k, flt.fltsTo P l k = [] → ∀ (j : Nat) t, j < k → l[j]? = some t → flt.errsL P l j t (flt.dimsN l) = [] := by
    intro k
    induction k with
    | zero => intro _ j t hj; omega
    | succ k ih =>
      intro hk j t hj ht
      rw [flt.fltsTo, List.append_eq_nil_iff] at hk
      rcases Nat.lt_or_ge j k with h | h
      · exact ih hk.1 j t h ht
      · obtain rfl : j = k := by omega
        have h3 := hk.2
        unfold flt.fltsAt at h3
        rw [ht] at h3
        exact List.map_eq_nil_iff.1 h3
  rcases l with _ | ⟨t, l⟩
  · simp [flt.dimsN]
  · have h0 := key _ h 0 t (by simp) rfl
    unfold flt.errsL at h0
    have hp : ∀ {xs : List Int} {r : Bool} {u : Int}, flt.pushIf xs r u = [] → xs = [] ∧ r = true := fun {xs r u} h => by
      unfold flt.pushIf at h
      cases r
      · simp at h
      · exact ⟨by simpa using h, rfl⟩
    have h5 := (hp (hp (hp (hp (hp h0).1).1).1).1).2
    unfold flt.capB at h5
    simp only [Bool.and_eq_true, decide_eq_true_eq] at h5
    show t.cap.length ≤ 3
    exact h5.1.2.1
end Go.Proofs.YtamhjodppdodfaaDoor.lim
