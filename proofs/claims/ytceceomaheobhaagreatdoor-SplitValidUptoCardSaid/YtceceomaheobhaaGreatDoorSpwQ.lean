/- What is known of an instance that is accepted, and of what Expand gives then. -/
import Derived.Test.YtceceomaheobhaaGreatDoorSpwP
import Derived.Test.YtceceomaheobhaaGreatDoorParP
import Derived.Test.YtceceomaheobhaaGreatDoorSplF
import Derived.Test.YtceceomaheobhaaGreatDoorSplK
namespace Go.Proofs.YtceceomaheobhaaGreatDoor.spl
open Go.RowKit
open Go.Proofs.YtceceomaheobhaaGreatDoor.lib Go.Proofs.YtceceomaheobhaaGreatDoor.loads Go.Proofs.YtceceomaheobhaaGreatDoor.typ Go.Proofs.YtceceomaheobhaaGreatDoor.ins
set_option linter.unusedVariables false
set_option linter.unusedSimpArgs false

structure Acc (x : Ins) : Prop where
  orders : x.orders.length ≤ 10
  name : ∀ o ∈ x.orders, o.name.size ≤ 16
  split : ∀ o ∈ x.orders, 1 ≤ o.split ∧ o.split ≤ 4
  load : ∀ o ∈ x.orders, okLd o.load = true
  apart : x.apart.length ≤ 16
  before : x.before.length ≤ 16
theorem dims_few {P : Int} {l : List Ty} (h : flt.fltsTo P l l.length = []) : flt.dimsN l ≤ 3 := by
  have key : ∀ k, flt.fltsTo P l k = [] → ∀ (j : Nat) t, j < k → l[j]? = some t → flt.errsL P l j t (flt.dimsN l) = [] := by
    intro k
    induction k with
    | zero => intro _ j t hj; omega
    | succ k ih =>
      intro hk j t hj ht
      rw [flt.fltsTo, List.append_eq_nil_iff] at hk
      rcases Nat.lt_or_ge j k with h | h
      · exact ih hk.1 j t h ht
      · obtain rfl : j = k := by omega
        have h3 := hk.2
        unfold flt.fltsAt at h3
        rw [ht] at h3
        exact List.map_eq_nil_iff.1 h3
  rcases l with _ | ⟨t, l⟩
  · simp [flt.dimsN]
  · have h0 := key _ h 0 t (by simp) rfl
    unfold flt.errsL at h0
    have hp : ∀ {xs : List Int} {r : Bool} {u : Int}, flt.pushIf xs r u = [] → xs = [] ∧ r = true := fun {xs r u} h => by
      unfold flt.pushIf at h
      cases r
      · simp at h
      · exact ⟨by simpa using h, rfl⟩
    have h5 := (hp (hp (hp (hp (hp h0).1).1).1).1).2
    unfold flt.capB at h5
    simp only [Bool.and_eq_true, decide_eq_true_eq] at h5
    show t.cap.length ≤ 3
    exact h5.1.2.1
theorem acc_of {x : Ins} (h : insF x = []) : Acc x := by
  obtain ⟨hN, hT, hO, hR⟩ := par.insF_nil.1 h
  have hd : flt.dimsN x.types ≤ 3 := dims_few hT
  unfold insO at hO
  obtain ⟨h1, h2⟩ := (par.ofltsTo_nil x.orders.length).1 hO
  unfold insR rul.rulesF at hR
  rw [List.append_eq_nil_iff] at hR
  have ha := (par.pairs_nil.1 hR.1).1
  have hb := (par.pairs_nil.1 hR.2).1
  have key : ∀ o ∈ x.orders, txt.nameB o.name = true ∧ rightB o.load (flt.dimsN x.types) = true ∧ ord.numB o x.types.length = true := fun o ho => by
    obtain ⟨j, hj⟩ := List.mem_iff_getElem?.1 ho
    have he := h2 j o (List.getElem?_eq_some_iff.1 hj).1 hj
    unfold ord.errsO at he
    have e8 := par.pushIf_nil.1 he
    have e7 := par.pushIf_nil.1 e8.1
    have e6 := par.pushIf_nil.1 e7.1
    have e5 := par.pushIf_nil.1 e6.1
    have e4 := par.pushIf_nil.1 e5.1
    have e3 := par.pushIf_nil.1 e4.1
    have e2 := par.pushIf_nil.1 e3.1
    have e1 := par.pushIf_nil.1 e2.1
    exact ⟨e1.2, e3.2, e8.2⟩
  refine ⟨h1, fun o ho => ?_, fun o ho => ?_, fun o ho => ?_, ha, hb⟩
  · have := (key o ho).1
    unfold txt.nameB at this
    simp only [Bool.and_eq_true, decide_eq_true_eq] at this
    exact this.1.1.2
  · have := (key o ho).2.2
    unfold ord.numB note.inB at this
    simp only [Bool.and_eq_true, decide_eq_true_eq] at this
    exact this.1.1.1.1.1.2
  · have := (key o ho).2.1
    unfold okLd
    unfold rightB at this ⊢
    simp only [Bool.and_eq_true, decide_eq_true_eq] at this ⊢
    refine ⟨by omega, this.1, by first | rfl | trivial⟩
theorem Acc.lim {x : Ins} (h : Acc x) : ExpLim x := by
  refine ⟨by have := h.orders; omega, fun o ho => ?_, by have := h.apart; omega, by have := h.before; omega⟩
  have h1 := h.name o ho
  have h2 := h.split o ho
  omega
theorem Acc.bd {x : Ins} (h : Acc x) {o : Ord} (ho : o ∈ x.orders) : ∀ u ∈ o.load, 0 ≤ u ∧ u ≤ 1000 := fun u hu => okLd_at (h.load o ho) hu
theorem Acc.good {x y : Ins} {want : List Int} (h : Acc x) (he : expF x = .ok (y, want)) : ExpGood y want := by
  obtain ⟨_, _, h3, h4, h5, h6, _⟩ := expF_ok he
  have hlen : want.length = y.orders.length := by rw [h3, h4]; exact orgO_len _ _
  have hmem : ∀ q ∈ y.orders, ∃ o ∈ x.orders, ∃ ps, partsF o = some ps ∧ q ∈ ps := fun q hq => by
    rw [h3, List.mem_flatMap] at hq
    obtain ⟨o, ho, hq⟩ := hq
    obtain ⟨ps, hps⟩ := h5 o ho
    unfold partsO at hq
    rw [hps] at hq
    exact ⟨o, ho, ps, hps, hq⟩
  refine ⟨hlen, ?_, fun q hq v hv => ?_, fun q hq => ?_, fun g hg => ?_⟩
  · have hl : ∀ os : List Ord, (∀ o ∈ os, ∃ ps, partsF o = some ps) → ((os.flatMap partsO).length : Int) = totalO os := by
      intro os
      induction os with
      | nil => intro _; rfl
      | cons o os ih =>
        intro hos
        obtain ⟨ps, hps⟩ := hos o (List.mem_cons_self ..)
        have e : partsO o = ps := by unfold partsO; rw [hps]; rfl
        have h1 := parts_len hps
        have h2 := ih (fun a ha => hos a (List.mem_cons_of_mem _ ha))
        unfold totalO at h2 ⊢
        rw [List.flatMap_cons, List.length_append, List.map_cons, List.sum_cons, e]
        push_cast
        omega
    have := hl x.orders h5
    rw [h3]
    omega
  · obtain ⟨o, ho, ps, hps, hq'⟩ := hmem q hq
    obtain ⟨_, h8⟩ := parts_load hps hq'
    have hb := h.bd ho
    exact ⟨(h8 v hv).1 (fun u hu => (hb u hu).1), (h8 v hv).2 hb⟩
  · obtain ⟨o, ho, ps, hps, hq'⟩ := hmem q hq
    have h7 := (parts_load hps hq').1
    have := okLd_len (h.load o ho)
    omega
  · rw [h4] at hg
    obtain ⟨j, rfl, _, h8⟩ := orgO_mem hg
    have := h.orders
    omega
end Go.Proofs.YtceceomaheobhaaGreatDoor.spl
