/- Small instances are within the limits. -/
import Derived.Test.YtceceomaheobhaaGreatDoorInsC
import Derived.Test.YtceceomaheobhaaGreatDoorInsJ
namespace Go.Proofs.YtceceomaheobhaaGreatDoor.ins
open Go.RowKit
open Go.Proofs.YtceceomaheobhaaGreatDoor.lib Go.Proofs.YtceceomaheobhaaGreatDoor.rd Go.Proofs.YtceceomaheobhaaGreatDoor.typ
set_option linter.unusedVariables false

theorem small_lim {x : Ins} (h : SmallI x) : Lim x where
  places := by have := h.places; omega
  arcs := by have := h.arcs; omega
  points := fun a ha => by have := h.arc a ha; omega
  few := fun j a hj _ => by have := h.arcs; have := (List.getElem?_eq_some_iff.1 hj).1; omega
  net := by
    have := net.netTo_len x.net (fun a ha => by have := h.arc a ha; omega) x.net.arcs.length
    have := h.places
    have := h.arcs
    unfold insN
    omega
  types := by have := h.types; omega
  orders := by have := h.orders; omega
  apart := h.apart
  before := h.before
end Go.Proofs.YtceceomaheobhaaGreatDoor.ins
