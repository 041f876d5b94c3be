/- Instances with few rows: within the limits of Check; those that are accepted are within the limits of Print. Plain. -/
import Derived.Test.YthefooacfcagbaaGreatDoorPrnA
import Derived.Test.YthefooacfcagbaaGreatDoorLgtA
import Derived.Test.YthefooacfcagbaaGreatDoorC3
namespace Go.Proofs.YthefooacfcagbaaGreatDoor.spc
open Go.RowKit
open lib rd typ note und cat flts
open ins (InP InAt InV Lim insF insN insT insO insR)
open txt (in64 By joinS nameB chrB letB digB wordB isW)
set_option linter.unusedVariables false
set_option linter.unusedSimpArgs false
theorem lgt_lim {x : Ins} (h : Lgt x) : Lim x where
 places := by have := h.places; omega
 arcs := by have := h.arcs; omega
 points := fun a ha => by have := h.points a ha; omega
 few := fun j a hj _ => by have := h.arcs; have := (List.getElem?_eq_some_iff.1 hj).1; omega
 net := by
  have := net.netTo_len x.net (fun a ha => by have := h.points a ha; omega) x.net.arcs.length
  have := h.places
  have := h.arcs
  unfold insN
  omega
 types := by have := h.types; omega
 orders := by have := h.orders; omega
 apart := by have := h.apart; omega
 before := by have := h.before; omega
theorem push_nil {xs : List Int} {r : Bool} {u : Int} : pushIf xs r u = [] ↔ xs = [] ∧ r = true := by
 unfold pushIf
 cases r <;> simp
theorem push_nil' {xs : List Int} {r : Bool} {u : Int} : flt.pushIf xs r u = [] ↔ xs = [] ∧ r = true := by
 unfold flt.pushIf
 cases r <;> simp
theorem und_nil {word : ByteArray} {fs : List Flt} : undL word fs = [] ↔ fs = [] := by unfold undL; exact List.map_eq_nil_iff
theorem acc_nil {x : Ins} : insF x = [] ↔ insN x = [] ∧ insT x = [] ∧ insO x = [] ∧ insR x = [] := by
 have e : insF x = undL ins.netS (insN x) ++ (undL ins.typesS (insT x) ++ (undL ins.ordersS (insO x) ++ (undL ins.rulesS (insR x) ++ []))) := rfl
 rw [e]
 simp only [List.append_eq_nil_iff, und_nil, and_true]
theorem pl_names {l : List ByteArray} : ∀ k, net.plTo l k = [] → ∀ (j : Nat) s, j < k → l[j]? = some s → nameB s = true
 | 0, _ => fun j s hj => absurd hj (by omega)
 | k + 1, h => fun j s hj hs => by
  rw [net.plTo, List.append_eq_nil_iff] at h
  rcases Nat.lt_or_ge j k with hlt | hge
  ·exact pl_names k h.1 j s hlt hs
  ·obtain rfl : j = k := by omega
   have h3 := h.2
   unfold net.plAt at h3
   rw [hs] at h3
   unfold net.plP at h3
   dsimp only at h3
   split at h3
   ·assumption
   ·cases h3
theorem net_pl {n : Net} : ∀ k, net.netTo n k = [] → net.plTo n.places n.places.length = []
 | 0, h => by
  rw [net.netTo, List.append_eq_nil_iff] at h
  exact h.1
 | k + 1, h => by
  rw [net.netTo, List.append_eq_nil_iff] at h
  exact net_pl k h.1
theorem ty_acc {P : Int} {l : List Ty} : ∀ k, flt.fltsTo P l k = [] → ∀ (j : Nat) t, j < k → l[j]? = some t → nameB t.name = true ∧ t.cap.length ≤ 3 ∧ ∀ z ∈ t.cap, 0 ≤ z ∧ z ≤ 1000
 | 0, _ => fun j s hj => absurd hj (by omega)
 | k + 1, h => fun j t hj ht => by
  rw [flt.fltsTo, List.append_eq_nil_iff] at h
  rcases Nat.lt_or_ge j k with hlt | hge
  ·exact ty_acc k h.1 j t hlt ht
  ·obtain rfl : j = k := by omega
   have h3 := h.2
   unfold flt.fltsAt at h3
   rw [ht] at h3
   have h4 := List.map_eq_nil_iff.1 h3
   unfold flt.errsL at h4
   simp only [push_nil'] at h4
   have hn : nameB t.name = true := by simp only [h4]
   have hc : flt.capB t.cap (flt.dimsN l) = true := by simp only [h4]
   unfold flt.capB at hc
   rw [Bool.and_eq_true, decide_eq_true_eq, List.all_eq_true] at hc
   refine ⟨hn, by omega, fun z hz => ?_⟩
   have h5 := hc.2 z hz
   unfold flt.inB at h5
   exact of_decide_eq_true h5
theorem or_acc {P dims types : Int} {l : List Ord} : ∀ k, ord.ofltsTo P dims types l k = [] → ∀ (j : Nat) o, j < k → l[j]? = some o → nameB o.name = true ∧ (o.load.length : Int) = dims ∧ ∀ z ∈ o.load, 0 ≤ z ∧ z ≤ 1000
 | 0, _ => fun j s hj => absurd hj (by omega)
 | k + 1, h => fun j t hj ht => by
  rw [ord.ofltsTo, List.append_eq_nil_iff] at h
  rcases Nat.lt_or_ge j k with hlt | hge
  ·exact or_acc k h.1 j t hlt ht
  ·obtain rfl : j = k := by omega
   have h3 := h.2
   unfold ord.ofltsAt at h3
   rw [ht] at h3
   unfold flts.mkF at h3
   have h4 := List.map_eq_nil_iff.1 h3
   unfold ord.errsO at h4
   simp only [push_nil] at h4
   have hn : nameB t.name = true := by simp only [h4]
   have hc : loads.rightB t.load dims = true := by simp only [h4]
   unfold loads.rightB at hc
   rw [Bool.and_eq_true, decide_eq_true_eq, List.all_eq_true] at hc
   exact ⟨hn, hc.2, fun z hz => of_decide_eq_true (hc.1 z hz)⟩
theorem all_mono' {p q : UInt8 → Bool} (h : ∀ c, p c = true → q c = true) : ∀ {l : By}, l.all p = true → l.all q = true := fun {l} hl => by
 rw [List.all_eq_true] at hl ⊢
 exact fun c hc => h c (hl c hc)
theorem name_word {s : ByteArray} (h : nameB s = true) : wordB s.data.toList = true ∧ s.size ≤ 16 := by
 unfold nameB at h
 rw [Bool.and_eq_true, Bool.and_eq_true, decide_eq_true_eq] at h
 refine ⟨?_, h.1.1.2⟩
 unfold wordB
 rw [Bool.and_eq_true, decide_eq_true_eq]
 refine ⟨fun e => ?_, all_mono' (fun c hc => ?_) h.2⟩
 ·have h1 := h.1.1.1
  have h2 := toList_len s
  rw [e, show ([] : By).length = 0 from rfl] at h2
  omega
 ·unfold chrB letB digB at hc
  unfold isW
  rw [Bool.or_eq_true, decide_eq_true_eq, decide_eq_true_eq] at hc
  rw [decide_eq_true_eq]
  omega
structure Acc (x : Ins) : Prop where
 place : ∀ s ∈ x.net.places, nameB s = true
 arc : ∀ a ∈ x.net.arcs, arcOk a
 type : ∀ t ∈ x.types, nameB t.name = true ∧ t.cap.length ≤ 3 ∧ (∀ z ∈ t.cap, 0 ≤ z ∧ z ≤ 1000) ∧ TyFits t
 order : ∀ o ∈ x.orders, nameB o.name = true ∧ o.load.length ≤ 3 ∧ (∀ z ∈ o.load, 0 ≤ z ∧ z ≤ 1000) ∧ OrdFits o
 apart : ∀ p ∈ x.apart, pairOk p
 before : ∀ p ∈ x.before, pairOk p
theorem pts_ok {w : World} {B : Nat} {A : Option Addr} {l : List Pt} (h : RowAt rPt w B A l) : ∀ p ∈ l, PtFits p := fun p hp => by
 obtain ⟨i, hi⟩ := List.getElem?_of_mem hp
 obtain ⟨ad, hA, hb, hc, hf⟩ := row_Pt h hi
 exact hf
theorem two_ok {w : World} {B : Nat} {A : Option Addr} {l : List (Int × Int)} (h : RowAt (rPair rInt rInt) w B A l) : ∀ p ∈ l, pairOk p := fun p hp => by
 obtain ⟨i, hi⟩ := List.getElem?_of_mem hp
 obtain ⟨ad, cs, hA, hb, ⟨_, _, rfl, ⟨rfl, h1⟩, ⟨rfl, h2⟩⟩, hc⟩ := h.2 i p hi
 exact ⟨h1, h2⟩
theorem dims_le {P : Int} {l : List Ty} : ∀ k, k = l.length → flt.fltsTo P l k = [] → flt.dimsN l ≤ 3 := by
 intro k hk h
 subst hk
 unfold flt.dimsN
 cases l with
 | nil => simp
 | cons t r =>
  have := (ty_acc _ h 0 t (by simp) rfl).2.1
  simpa using this
theorem acc_of {x : Ins} {w : World} {B : Nat} {P : InP} (hI : InAt w B x P) (hF : insF x = []) : Acc x := by
 obtain ⟨hN, hT, hO, -⟩ := acc_nil.1 hF
 refine ⟨fun s hs => ?_, fun a ha => ?_, fun t ht => ?_, fun o ho => ?_, two_ok hI.apart, two_ok hI.before⟩
 ·obtain ⟨i, hi⟩ := List.getElem?_of_mem hs
  exact pl_names _ (net_pl _ hN) i s (List.getElem?_eq_some_iff.1 hi).1 hi
 ·obtain ⟨i, hi⟩ := List.getElem?_of_mem ha
  obtain ⟨ad, C0, c0, C1, c1, -, -, -, h0, h1, hf⟩ := row_Arc hI.arcs hi
  exact ⟨hf, pts_ok h0, pts_ok h1⟩
 ·obtain ⟨i, hi⟩ := List.getElem?_of_mem ht
  obtain ⟨ad, C0, c0, -, -, -, -, hf⟩ := row_Ty hI.types hi
  obtain ⟨h1, h2, h3⟩ := ty_acc _ hT i t (List.getElem?_eq_some_iff.1 hi).1 hi
  exact ⟨h1, h2, h3, hf⟩
 ·obtain ⟨i, hi⟩ := List.getElem?_of_mem ho
  obtain ⟨ad, C0, c0, -, -, -, -, hf⟩ := row_Ord hI.orders hi
  obtain ⟨h1, h2, h3⟩ := or_acc _ hO i o (List.getElem?_eq_some_iff.1 hi).1 hi
  have := dims_le _ rfl hT
  exact ⟨h1, by omega, h3, hf⟩
theorem in1000 {l : List Int} (h : ∀ z ∈ l, 0 ≤ z ∧ z ≤ 1000) : ∀ z ∈ l, in64 z := fun z hz => by
 have := h z hz
 exact ⟨by omega, by omega⟩
theorem Acc.ok {x : Ins} (h : Acc x) : insOk x := by
 intro r hr
 simp only [rowsI, List.mem_append, List.mem_map] at hr
 rcases hr with ⟨s, hs, rfl⟩ | ⟨s, hs, rfl⟩ | ⟨s, hs, rfl⟩ | ⟨s, hs, rfl⟩ | ⟨s, hs, rfl⟩ | ⟨s, hs, rfl⟩
 ·have := name_word (h.place s hs)
  exact ⟨this.1, by omega⟩
 ·exact h.arc s hs
 ·obtain ⟨h1, h2, h3, h4⟩ := h.type s hs
  exact ⟨(name_word h1).1, h4, in1000 h3⟩
 ·obtain ⟨h1, h2, h3, h4⟩ := h.order s hs
  exact ⟨(name_word h1).1, h4, in1000 h3⟩
 ·exact h.apart s hs
 ·exact h.before s hs
theorem lens_le {m : Nat} : ∀ {L : List By}, (∀ u ∈ L, u.length ≤ m) → Lib.lens L ≤ m * L.length
 | [], _ => by simp [Lib.lens]
 | y :: L, hL => by
  have h1 := lens_le (m := m) (L := L) fun z hz => hL z (List.mem_cons_of_mem _ hz)
  have h2 := hL y (List.mem_cons_self ..)
  simp only [Lib.lens, List.map_cons, List.sum_cons, List.length_cons] at h1 ⊢
  rw [Nat.mul_succ]
  omega
theorem join_le {c : UInt8} {m : Nat} {L : List By} (h : ∀ u ∈ L, u.length ≤ m) : (Lib.join L [c]).length ≤ (m + 1) * L.length := by
 cases L with
 | nil => simp [Lib.join_nil]
 | cons x r =>
  rw [Lib.join_length]
  have := lens_le h
  rw [List.length_cons] at this ⊢
  have e : (m + 1) * (r.length + 1) = m * (r.length + 1) + (r.length + 1) := by rw [Nat.add_mul, Nat.one_mul]
  simp only [List.length_cons, List.length_nil]
  rw [e]
  omega
theorem listF_le {l : List Int} (h : ∀ z ∈ l, in64 z) : (listF l).length ≤ 1 + 21 * l.length := by
 unfold listF
 split
 ·simp
 ·have := join_le (c := 44) (m := 20) (L := l.map Lib.itoa) (fun u hu => by
   obtain ⟨z, hz, rfl⟩ := List.mem_map.1 hu
   exact itoa_len (h z hz))
  rw [List.length_map] at this
  omega
theorem stopF_le {s : Stp} (h : StpFits s) : (stopF s).length ≤ 84 := by
 unfold stopF
 split
 ·simp
 ·have := join_le (c := 58) (m := 20) (L := (stpN s).map Lib.itoa) (fun u hu => by
   obtain ⟨z, hz, rfl⟩ := List.mem_map.1 hu
   obtain ⟨h1, h2, h3, h4⟩ := h
   simp only [stpN, List.mem_cons, List.not_mem_nil, or_false] at hz
   rcases hz with rfl | rfl | rfl | rfl <;> first | exact itoa_len h1 | exact itoa_len h2 | exact itoa_len h3 | exact itoa_len h4)
  rw [List.length_map] at this
  have e : (stpN s).length = 4 := rfl
  omega
theorem trvF_le {l : List Pt} (h : ∀ p ∈ l, PtFits p) : (trvF l).length ≤ 1 + 61 * l.length := by
 unfold trvF
 split
 ·simp
 ·have := join_le (c := 44) (m := 60) (L := l.map ptF) (fun u hu => by
   obtain ⟨z, hz, rfl⟩ := List.mem_map.1 hu
   exact ptF_len (h z hz).1 (h z hz).2)
  rw [List.length_map] at this
  omega
theorem words_le {x : Ins} (h : Acc x) (hl : Lgt x) {r : Lin} (hr : r ∈ rowsI x) : r.words.length ≤ 20 ∧ ∀ u ∈ r.words, u.length ≤ 2000 := by
 simp only [rowsI, List.mem_append, List.mem_map] at hr
 have hI : ∀ {z : Int}, in64 z → (Lib.itoa z).length ≤ 2000 := fun hz => Nat.le_trans (itoa_len hz) (by decide)
 rcases hr with ⟨s, hs, rfl⟩ | ⟨s, hs, rfl⟩ | ⟨s, hs, rfl⟩ | ⟨s, hs, rfl⟩ | ⟨s, hs, rfl⟩ | ⟨s, hs, rfl⟩
 ·have h1 := (name_word (h.place s hs)).2
  refine ⟨by simp [Lin.words], fun u hu => ?_⟩
  simp only [Lin.words, List.mem_cons, List.not_mem_nil, or_false] at hu
  rcases hu with rfl | rfl
  ·decide
  ·rw [toList_len]; omega
 ·obtain ⟨⟨h1, h2, h3, h4⟩, h5, h6⟩ := h.arc s hs
  obtain ⟨p1, p2⟩ := hl.points s hs
  have q1 := trvF_le h5
  have q2 := trvF_le h6
  refine ⟨by simp [Lin.words, arcW], fun u hu => ?_⟩
  simp only [Lin.words, arcW, List.mem_cons, List.not_mem_nil, or_false] at hu
  rcases hu with rfl | rfl | rfl | rfl | rfl | rfl | rfl
  ·decide
  ·exact hI h1
  ·exact hI h2
  ·exact hI h3
  ·exact hI h4
  ·omega
  ·omega
 ·obtain ⟨h1, h2, h3, h4⟩ := h.type s hs
  have hn := (name_word h1).2
  have hc := listF_le (in1000 h3)
  obtain ⟨-, k1, k2, k3, k4, k5, k6, k7, k8, k9, k10, k11, k12⟩ := h4
  refine ⟨by simp [Lin.words, typeW], fun u hu => ?_⟩
  simp only [Lin.words, typeW, List.mem_cons, List.not_mem_nil, or_false] at hu
  rcases hu with rfl | rfl | rfl | rfl | rfl | rfl | rfl | rfl | rfl | rfl | rfl | rfl | rfl | rfl | rfl <;>
   first | (exact hI (by assumption)) | decide | (rw [toList_len]; omega) | omega
 ·obtain ⟨h1, h2, h3, h4⟩ := h.order s hs
  have hn := (name_word h1).2
  have hc := listF_le (in1000 h3)
  obtain ⟨-, kp, kd, k1, k2, k3, k4, k5⟩ := h4
  have hp := stopF_le kp
  have hd := stopF_le kd
  have ho : (stateW s.off).length ≤ 2000 := by cases s.off <;> decide
  refine ⟨by simp [Lin.words, orderW], fun u hu => ?_⟩
  simp only [Lin.words, orderW, List.mem_cons, List.not_mem_nil, or_false] at hu
  rcases hu with rfl | rfl | rfl | rfl | rfl | rfl | rfl | rfl | rfl | rfl | rfl <;>
   first | (exact hI (by assumption)) | exact ho | decide | (rw [toList_len]; omega) | omega
 ·have h1 := h.apart s hs
  refine ⟨by simp [Lin.words, pairW], fun u hu => ?_⟩
  simp only [Lin.words, pairW, List.mem_cons, List.not_mem_nil, or_false] at hu
  rcases hu with rfl | rfl | rfl
  ·decide
  ·exact hI h1.1
  ·exact hI h1.2
 ·have h1 := h.before s hs
  refine ⟨by simp [Lin.words, pairW], fun u hu => ?_⟩
  simp only [Lin.words, pairW, List.mem_cons, List.not_mem_nil, or_false] at hu
  rcases hu with rfl | rfl | rfl
  ·decide
  ·exact hI h1.1
  ·exact hI h1.2
theorem linesB_len {m : Nat} : ∀ {L : List Lin}, (∀ r ∈ L, (lineB r).length ≤ m) → (linesB L).length ≤ m * L.length
 | [], _ => by simp [linesB]
 | y :: L, hL => by
  have h1 := linesB_len (m := m) (L := L) fun z hz => hL z (List.mem_cons_of_mem _ hz)
  have h2 := hL y (List.mem_cons_self ..)
  have e : linesB (y :: L) = lineB y ++ linesB L := by simp [linesB]
  rw [e, List.length_append, List.length_cons, Nat.mul_succ]
  omega
theorem prOk_of {x : Ins} (h : Acc x) (hl : Lgt x) : PrOk x where
 ok := h.ok
 arcs := fun a ha => by have := hl.points a ha; omega
 types := fun t ht => by have := (h.type t ht).2.1; omega
 orders := fun t ht => by have := (h.order t ht).2.1; omega
 big := by
  have hlen : (rowsI x).length ≤ 156 := by
   have := hl.arcs; have := hl.places; have := hl.types; have := hl.orders; have := hl.apart; have := hl.before
   simp only [rowsI, List.length_append, List.length_map]
   omega
  have hb : ∀ r ∈ rowsI x ++ [.fin], (lineB r).length ≤ 50000 := by
   intro r hr
   rw [List.mem_append] at hr
   rcases hr with hr | hr
   ·obtain ⟨h1, h2⟩ := words_le h hl hr
    have := join_le (c := 32) h2
    unfold lineB joinS
    rw [List.length_append]
    have h3 : (2000 + 1) * r.words.length ≤ 2001 * 20 := Nat.mul_le_mul_left 2001 h1
    simp only [List.length_cons, List.length_nil]
    omega
   ·rw [List.mem_singleton.1 hr]
    decide
  have := linesB_len hb
  rw [List.length_append] at this
  unfold textI
  simp only [List.length_cons, List.length_nil] at this
  omega
theorem acc_at {x : Ins} {w : World} {B : Nat} {P : InP} (hI : InAt w B x P) (hF : insF x = []) : Acc x := acc_of hI hF
theorem prOk_at {x : Ins} {w : World} {B : Nat} {P : InP} (hI : InAt w B x P) (hl : Lgt x) (hF : insF x = []) : PrOk x := prOk_of (acc_at hI hF) hl
end Go.Proofs.YthefooacfcagbaaGreatDoor.spc
