/- Plain: what a delay leaves of arrivals; the arc of a way; what an event leaves of an instance. -/
import Derived.Test.YtofabhenmplkoaaGreatDoorLimX
import Derived.Test.YtofabhenmplkoaaGreatDoorEvtX
import Derived.Test.YtofabhenmplkoaaGreatDoorRefA
import Derived.Deep.QuietTactic
import Derived.BigQuiet
set_option linter.unusedVariables false
set_option linter.unusedSimpArgs false
namespace Go.Proofs.YtofabhenmplkoaaGreatDoor.evt
open Go.RowKit
open lib typ ins note txt net par eqg
theorem blk_add (a : Addr) (i : Nat) : (a.add i).block = a.block := by unfold Addr.add; split <;> rfl
def slS (l : List Pt) (t : Int) : Nat → Int
 | 0 => 0
 | k + 1 => slS l t k + (match l[k]? with
  | none => 0
  | some p => if p.t ≤ t then p.a else 0)
theorem slS_succ {l : List Pt} {t : Int} {k : Nat} {p : Pt} (h : l[k]? = some p) : slS l t (k + 1) = slS l t k + if p.t ≤ t then p.a else 0 := by
 rw [slS, h]
theorem slS_app (l : List Pt) (p : Pt) (t : Int) : ∀ k, k ≤ l.length → slS (l ++ [p]) t k = slS l t k
 | 0, _ => rfl
 | k + 1, h => by
  rw [slS, slS, slS_app l p t k (by omega), List.getElem?_append_left (by omega)]
theorem slS_snoc (l : List Pt) (p : Pt) (t : Int) : slS (l ++ [p]) t (l ++ [p]).length = slS l t l.length + if p.t ≤ t then p.a else 0 := by
 rw [List.length_append, List.length_singleton, slS_succ (p := p) (by simp), slS_app l p t _ (Nat.le_refl _)]
theorem slS_late {l l' : List Pt} {at_ n t : Int} (h : lateF l at_ n = .ok l') : slS l' t l'.length = slS l t l.length + if at_ ≤ t then n else 0 := by
 rcases List.eq_nil_or_concat l with rfl | ⟨m, p, rfl⟩
 ·have e : (Except.ok [⟨at_, n⟩] : Except Int (List Pt)) = .ok l' := h
  injection e with e
  subst e
  exact slS_snoc [] ⟨at_, n⟩ t
 ·rw [List.concat_eq_append] at h ⊢
  rw [late_snoc'] at h
  split at h
  ·cases h
  split at h
  ·split at h
   ·cases h
   rename_i h3 h4 h5
   injection h with h
   subst h
   rw [slS_snoc, slS_snoc, h4]
   dsimp only
   split <;> omega
  ·split at h
   ·cases h
   injection h with h
   subst h
   rw [slS_snoc (m ++ [p])]
theorem slS_bd {l : List Pt} (h : slTo l l.length = []) (t : Int) : ∀ k, k ≤ l.length → 0 ≤ slS l t k ∧ slS l t k ≤ 4096 * k
 | 0, _ => ⟨Int.le_refl 0, Int.le_refl 0⟩
 | k + 1, hk => by
  have ih := slS_bd h t k (by omega)
  have hx := List.getElem?_eq_getElem (show k < l.length by omega)
  have h1 := slBad_no.1 (((slTo_nil' _).1 h).2 k _ (by omega) hx)
  rw [slS_succ hx]
  split <;> omega
def segI (l : List Pt) (t : Int) : Nat → Option (Pt × Pt)
 | 0 => none
 | k + 1 => match segI l t k with
  | some r => some r
  | none => match l[k]?, l[k + 1]? with
   | some p, some q => if p.t ≤ t ∧ t < q.t then some (p, q) else none
   | _, _ => none
def lastP (l : List Pt) (t : Int) : Pt := match l.head?, l.getLast? with
 | some p, some q => if p.t < t then q else p
 | _, _ => ⟨0, 0⟩
def arvF (l : List Pt) (t : Int) : Int := match segI l t (l.length - 1) with
 | some (p, q) => p.a + ((t - p.t) * (q.a - p.a) + q.t - p.t - 1) / (q.t - p.t)
 | none => t + (lastP l t).a - (lastP l t).t
theorem segI_none {l : List Pt} {t : Int} {k : Nat} {p q : Pt} (h : segI l t k = none) (hp : l[k]? = some p) (hq : l[k + 1]? = some q) (hn : ¬ (p.t ≤ t ∧ t < q.t)) : segI l t (k + 1) = none := by
 rw [segI, h, hp, hq]
 exact if_neg hn
theorem segI_some {l : List Pt} {t : Int} {k : Nat} {p q : Pt} (h : segI l t k = none) (hp : l[k]? = some p) (hq : l[k + 1]? = some q) (hn : p.t ≤ t ∧ t < q.t) : ∀ j, segI l t (k + 1 + j) = some (p, q)
 | 0 => by
  rw [Nat.add_zero, segI, h, hp, hq]
  exact if_pos hn
 | j + 1 => by
  rw [← Nat.add_assoc, segI, segI_some h hp hq hn j]
theorem arv_seg {l : List Pt} {t : Int} {k : Nat} {p q : Pt} (h : segI l t k = none) (hp : l[k]? = some p) (hq : l[k + 1]? = some q) (hn : p.t ≤ t ∧ t < q.t) : arvF l t = p.a + ((t - p.t) * (q.a - p.a) + q.t - p.t - 1) / (q.t - p.t) := by
 have hl := (List.getElem?_eq_some_iff.1 hq).1
 obtain ⟨j, hj⟩ : ∃ j, l.length - 1 = k + 1 + j := ⟨l.length - 1 - (k + 1), by omega⟩
 unfold arvF
 rw [hj, segI_some h hp hq hn j]
theorem arv_end {l : List Pt} {t : Int} (h : segI l t (l.length - 1) = none) : arvF l t = t + (lastP l t).a - (lastP l t).t := by
 unfold arvF
 rw [h]
theorem tvTo_nil {l : List Pt} : ∀ k, trv.tvTo l k = [] ↔ (1 ≤ l.length ∧ l.length ≤ 16) ∧ ∀ (j : Nat) p, j < k → l[j]? = some p → trv.tvBad p = false ∧ trv.tvFifo l j p = false
 | 0 => by
  unfold trv.tvTo trv.szB
  split
  ·rename_i h
   rw [Bool.or_eq_true, decide_eq_true_eq, decide_eq_true_eq] at h
   exact ⟨fun e => (by cases e), fun e => absurd e.1 (by omega)⟩
  ·rename_i h
   rw [Bool.or_eq_true, decide_eq_true_eq, decide_eq_true_eq] at h
   exact ⟨fun _ => ⟨by omega, fun j p hj => absurd hj (by omega)⟩, fun _ => rfl⟩
 | k + 1 => by
  rw [trv.tvTo, List.append_eq_nil_iff, tvTo_nil k]
  constructor
  ·rintro ⟨⟨h1, h2⟩, h3⟩
   refine ⟨h1, fun j p hj hp => ?_⟩
   rcases Nat.lt_or_ge j k with h | h
   ·exact h2 j p h hp
   ·obtain rfl : j = k := by omega
    unfold trv.tvAt at h3
    rw [hp] at h3
    unfold trv.tvP at h3
    dsimp only at h3
    rw [List.append_eq_nil_iff] at h3
    constructor
    ·cases hb : trv.tvBad p
     ·rfl
     ·rw [hb] at h3; exact absurd h3.1 (by simp)
    ·cases hb : trv.tvFifo l j p
     ·rfl
     ·rw [hb] at h3; exact absurd h3.2 (by simp)
  ·rintro ⟨h1, h2⟩
   refine ⟨⟨h1, fun j p hj hp => h2 j p (by omega) hp⟩, ?_⟩
   unfold trv.tvAt
   split
   ·rename_i p hp
    unfold trv.tvP
    rw [(h2 k p (by omega) hp).1, (h2 k p (by omega) hp).2]
    rfl
   ·rfl
structure TvOk (l : List Pt) : Prop where
 pos : 1 ≤ l.length
 few : l.length ≤ 16
 pt : ∀ p ∈ l, 0 ≤ p.t ∧ p.t ≤ 4096 ∧ p.t ≤ p.a ∧ p.a ≤ p.t + 4096
 nxt : ∀ (k : Nat) p q, l[k]? = some p → l[k + 1]? = some q → p.t < q.t ∧ p.a ≤ q.a
theorem tv_ok {l : List Pt} (h : trv.tvTo l l.length = []) : TvOk l := by
 obtain ⟨⟨h1, h2⟩, h3⟩ := (tvTo_nil _).1 h
 refine ⟨h1, h2, fun p hp => ?_, fun k p q hp hq => ?_⟩
 ·obtain ⟨j, hj⟩ := List.mem_iff_getElem?.1 hp
  have h4 := (h3 j p (List.getElem?_eq_some_iff.1 hj).1 hj).1
  unfold trv.tvBad inB at h4
  simp at h4
  omega
 ·have h4 := (h3 (k + 1) q (List.getElem?_eq_some_iff.1 hq).1 hq).2
  unfold trv.tvFifo at h4
  dsimp only at h4
  rw [hp] at h4
  dsimp only at h4
  rw [Bool.or_eq_false_iff, decide_eq_false_iff_not, decide_eq_false_iff_not] at h4
  omega
theorem lastP_mem {l : List Pt} (h : 1 ≤ l.length) (t : Int) : lastP l t ∈ l := by
 cases l with
 | nil => exact absurd h (by simp)
 | cons a r =>
  unfold lastP
  rw [List.head?_cons, List.getLast?_eq_getElem?]
  have hx := List.getElem?_eq_getElem (show (a :: r).length - 1 < (a :: r).length by simp)
  rw [hx]
  dsimp only
  split
  ·exact List.getElem_mem _
  ·exact List.mem_cons_self ..
theorem seg_bd {p q : Pt} {t : Int} (hp : 0 ≤ p.t ∧ p.t ≤ 4096 ∧ p.t ≤ p.a ∧ p.a ≤ p.t + 4096) (hq : 0 ≤ q.t ∧ q.t ≤ 4096 ∧ q.t ≤ q.a ∧ q.a ≤ q.t + 4096) (hpq : p.t < q.t ∧ p.a ≤ q.a) (ht : p.t ≤ t ∧ t < q.t) :
  (0 ≤ (t - p.t) * (q.a - p.a) ∧ (t - p.t) * (q.a - p.a) ≤ 33554432) ∧ 0 ≤ ((t - p.t) * (q.a - p.a) + q.t - p.t - 1) / (q.t - p.t) ∧ ((t - p.t) * (q.a - p.a) + q.t - p.t - 1) / (q.t - p.t) ≤ 33558528 := by
 have h1 : 0 ≤ (t - p.t) * (q.a - p.a) := Int.mul_nonneg (by omega) (by omega)
 have h2 : (t - p.t) * (q.a - p.a) ≤ 4096 * 8192 := Int.mul_le_mul (by omega) (by omega) (by omega) (by omega)
 refine ⟨⟨h1, by omega⟩, Int.ediv_nonneg (by omega) (by omega), ?_⟩
 have h3 : ((t - p.t) * (q.a - p.a) + q.t - p.t - 1) / (q.t - p.t) ≤ ((t - p.t) * (q.a - p.a) + q.t - p.t - 1) := Int.ediv_le_self _ (by omega)
 omega
theorem segI_mem {l : List Pt} {t : Int} : ∀ {k : Nat} {p q : Pt}, segI l t k = some (p, q) → ∃ j, l[j]? = some p ∧ l[j + 1]? = some q ∧ p.t ≤ t ∧ t < q.t
 | 0, p, q, h => by cases h
 | k + 1, p, q, h => by
  rw [segI] at h
  split at h
  ·rename_i r hr
   injection h with h
   subst h
   exact segI_mem hr
  ·split at h
   ·rename_i p' q' hp hq
    split at h
    ·rename_i hn
     injection h with h
     injection h with h1 h2
     subst h1 h2
     exact ⟨k, hp, hq, hn⟩
    ·cases h
   ·cases h
theorem arv_bd {l : List Pt} {t : Int} (h : TvOk l) (ht : 0 ≤ t ∧ t ≤ 4096) : -10000 ≤ arvF l t ∧ arvF l t ≤ 34000000 := by
 unfold arvF
 split
 ·rename_i p q hs
  obtain ⟨j, hp, hq, hn⟩ := segI_mem hs
  have b := seg_bd (h.pt p (List.mem_of_getElem? hp)) (h.pt q (List.mem_of_getElem? hq)) (h.nxt j p q hp hq) hn
  have := h.pt p (List.mem_of_getElem? hp)
  omega
 ·have := h.pt _ (lastP_mem h.pos t)
  omega
def arcA (a : Arc) (t : Int) : Int := arvF a.travel t + slS a.slow t a.slow.length
structure ArOk (N : Net) (i : Nat) (a : Arc) : Prop where
 frm : placeB N.places.length a.frm = true
 tob : placeB N.places.length a.to = true
 ne : a.frm ≠ a.to
 fst : ∀ (j : Nat) b, j < i → N.arcs[j]? = some b → ¬ (b.frm = a.frm ∧ b.to = a.to ∧ b.profile = a.profile)
 tv : TvOk a.travel
 tvn : trv.tvTo a.travel a.travel.length = []
 sl : slTo a.slow a.slow.length = []
theorem npushIf_nil {xs : List Int} {r : Bool} {u : Int} : pushIf xs r u = [] ↔ xs = [] ∧ r = true := by
 unfold pushIf
 cases r <;> simp
theorem ar_ok {N : Net} {i : Nat} {a : Arc} (h : netTo N N.arcs.length = []) (ha : N.arcs[i]? = some a) : ArOk N i a := by
 obtain ⟨⟨h1, h2⟩, h3⟩ := (netTo_iff _).1 h
 have h4 := h3 i a (List.getElem?_eq_some_iff.1 ha).1 ha
 unfold arcE at h4
 rw [List.append_eq_nil_iff, List.append_eq_nil_iff, npushIf_nil, npushIf_nil, npushIf_nil, List.map_eq_nil_iff] at h4
 obtain ⟨⟨⟨⟨⟨-, h5⟩, h6⟩, h7⟩, h8⟩, h9⟩ := h4
 unfold arcOk at h5
 rw [Bool.and_eq_true] at h5
 unfold arcBad at h6
 simp only [Bool.not_eq_true', Bool.or_eq_false_iff] at h6
 refine ⟨h5.1, h5.2, ?_, fun j b hj hb he => ?_, tv_ok h8, h8, h9⟩
 ·have := h6.2.2.2.2
  simpa using this
 ·unfold mrk.hasB at h7
  rw [Bool.not_eq_true', decide_eq_false_iff_not] at h7
  apply h7
  refine List.mem_map.2 ⟨b, List.mem_iff_getElem?.2 ⟨j, by rw [List.getElem?_take, if_pos hj]; exact hb⟩, ?_⟩
  unfold wayK
  rw [he.1, he.2.1, he.2.2]
theorem arcA_bd {N : Net} {i : Nat} {a : Arc} {t : Int} (h : ArOk N i a) (ht : 0 ≤ t ∧ t ≤ 4096) : -10000 ≤ arcA a t ∧ arcA a t ≤ 35000000 := by
 have h1 := arv_bd h.tv ht
 have h2 := slS_bd h.sl t _ (Nat.le_refl _)
 have h3 := ((slTo_nil' _).1 h.sl).1
 unfold arcA
 omega
theorem net_of {x : Ins} (h : insF x = []) : netTo x.net x.net.arcs.length = [] := (insF_nil.1 h).1
def lateA (e : Evt) (c : Arc) (t : Int) : Int := if e.kind = 3 ∧ c.frm = e.a ∧ c.to = e.b ∧ e.at_ ≤ t then e.n else 0
theorem hap_net {x y : Ins} {e : Evt} (h : hapF x e = .ok y) (h3 : ¬ e.kind = 3) : y.net = x.net := by
 unfold hapF at h
 by_cases h1 : e.kind = 1
 ·rw [if_pos h1] at h
  by_cases h2 : e.order.off = true
  ·rw [if_pos h2] at h; cases h
  ·rw [if_neg h2] at h
   by_cases h0 : (addR x e.order).2 = 0
   ·rw [if_pos h0] at h
    injection h with h
    rw [← h, (addR_ok' h0).1]; rfl
   ·rw [if_neg h0] at h; cases h
 rw [if_neg h1, if_neg h3] at h
 by_cases h4 : e.kind = 4
 ·rw [if_pos h4] at h
  by_cases h2 : e.a < 0 ∨ (x.types.length : Int) ≤ e.a
  ·rw [if_pos h2] at h; cases h
  ·rw [if_neg h2] at h
   cases ht : x.types[e.a.toNat]? with
   | none => rw [ht] at h; cases h
   | some t =>
    rw [ht] at h
    dsimp only at h
    by_cases hc : t.count = 0
    ·rw [if_pos hc] at h; cases h
    ·rw [if_neg hc] at h
     injection h with h
     rw [← h]
 rw [if_neg h4] at h
 by_cases ht : ¬ thrF x e.a = 0
 ·rw [if_pos ht] at h; cases h
 rw [if_neg ht] at h
 cases ho : x.orders[e.a.toNat]? with
 | none => rw [ho] at h; cases h
 | some o =>
  rw [ho] at h
  dsimp only at h
  by_cases h2 : e.kind = 2
  ·rw [if_pos h2] at h
   injection h with h
   rw [← h]
  ·rw [if_neg h2] at h
   by_cases hb : (shfB o.pick e.n && shfB o.drop e.n) = true
   ·rw [if_pos hb] at h
    injection h with h
    rw [← h]
   ·rw [if_neg hb] at h; cases h
theorem hap_delay {x y : Ins} {e : Evt} (h : hapF x e = .ok y) (h3 : e.kind = 3) : ∃ N, y = { x with net := N } ∧ slwF x.net e.a e.b e.at_ e.n = .ok N := by
 unfold hapF at h
 rw [if_neg (by omega), if_pos h3] at h
 split at h
 ·cases h
 split at h
 ·cases h
 ·rename_i N hN
  injection h with h
  exact ⟨N, h.symm, hN⟩
theorem hap_arc {x y : Ins} {e : Evt} {i : Nat} {c : Arc} (h : hapF x e = .ok y) (hc : x.net.arcs[i]? = some c) : ∃ c', y.net.arcs[i]? = some c' ∧ c'.frm = c.frm ∧ c'.to = c.to ∧ c'.profile = c.profile ∧ c'.travel = c.travel ∧ ∀ t, arcA c' t = arcA c t + lateA e c t := by
 by_cases h3 : e.kind = 3
 ·obtain ⟨N, rfl, hN⟩ := hap_delay h h3
  unfold slwF at hN
  split at hN
  ·cases hN
  split at hN
  ·cases hN
  split at hN
  ·cases hN
  rename_i r b hr
  split at hN
  rotate_left
  ·cases hN
  injection hN with hN
  subst hN
  obtain ⟨hl, hat⟩ := slwTo_at (Nat.le_refl _) hr
  obtain ⟨c', h1, h2⟩ := hat i c (List.getElem?_eq_some_iff.1 hc).1 hc
  refine ⟨c', h1, ?_⟩
  unfold way at h2
  rcases h2 with ⟨hw, rfl⟩ | ⟨hw, s, hs, rfl⟩
  ·refine ⟨rfl, rfl, rfl, rfl, fun t => ?_⟩
   unfold lateA
   rw [if_neg ?_]
   ·omega
   ·rintro ⟨-, h5, h6, -⟩
    rw [h5, h6] at hw
    simp at hw
  ·refine ⟨rfl, rfl, rfl, rfl, fun t => ?_⟩
   rw [Bool.and_eq_true, beq_iff_eq, beq_iff_eq] at hw
   unfold arcA lateA
   dsimp only
   rw [slS_late hs]
   by_cases ht : e.at_ ≤ t
   ·rw [if_pos ht, if_pos ⟨h3, hw.1, hw.2, ht⟩]; omega
   ·rw [if_neg ht, if_neg (fun g => ht g.2.2.2)]; omega
 ·rw [hap_net h h3]
  refine ⟨c, hc, rfl, rfl, rfl, rfl, fun t => ?_⟩
  unfold lateA
  rw [if_neg (fun g => h3 g.1)]; omega
theorem hap_add {x y : Ins} {e : Evt} (h : hapF x e = .ok y) (h1 : e.kind = 1) : y = addI x e.order := by
 unfold hapF at h
 rw [if_pos h1] at h
 split at h
 ·cases h
 split at h
 ·rename_i h0
  injection h with h
  rw [← h]
  exact (addR_ok' h0).1
 ·cases h
theorem hap_brk {x y : Ins} {e : Evt} (h : hapF x e = .ok y) (h1 : e.kind = 4) : ∃ (j : Nat) (t t' : Ty), e.a = j ∧ x.types[j]? = some t ∧ y = { x with types := x.types.set j t' } := by
 unfold hapF at h
 rw [if_neg (by omega), if_neg (by omega), if_pos h1] at h
 split at h
 ·cases h
 rename_i hr
 split at h
 ·cases h
 rename_i t ht
 split at h
 ·cases h
 injection h with h
 exact ⟨e.a.toNat, t, _, by omega, ht, h.symm⟩
theorem hap_ord {x y : Ins} {e : Evt} (h : hapF x e = .ok y) (h1 : ¬ e.kind = 1) (h3 : ¬ e.kind = 3) (h4 : ¬ e.kind = 4) : ∃ (j : Nat) (o o' : Ord), e.a = j ∧ x.orders[j]? = some o ∧ y = { x with orders := x.orders.set j o' } := by
 unfold hapF at h
 rw [if_neg h1, if_neg h3, if_neg h4] at h
 split at h
 ·cases h
 rename_i hr
 split at h
 ·cases h
 rename_i o ho
 have ha : 0 ≤ e.a := by
  apply Classical.byContradiction
  intro hc
  apply hr
  unfold thrF
  rw [if_pos (.inl (by omega))]
  intro e; cases e
 split at h
 ·injection h with h
  exact ⟨e.a.toNat, o, _, by omega, ho, h.symm⟩
 split at h
 ·injection h with h
  exact ⟨e.a.toNat, o, _, by omega, ho, h.symm⟩
 ·cases h
theorem set_back {X : Type} {l : List X} {j : Nat} {o o' : X} (h : l[j]? = some o) : (l.set j o').set j o = l := by
 rw [List.set_set]
 apply List.ext_getElem?
 intro k
 rw [List.getElem?_set]
 split
 ·rename_i hk
  subst hk
  rw [if_pos (List.getElem?_eq_some_iff.1 h).1, h]
 ·rfl
end Go.Proofs.YtofabhenmplkoaaGreatDoor.evt
namespace Go.Proofs.YtofabhenmplkoaaGreatDoor.evt
open Go.RowKit
open lib rd app els off typ big gen net flts
set_option maxRecDepth 20000 in
set_option maxHeartbeats 4000000 in
theorem rarv7_any (A : Option Addr) (c : Nat) (l : List Pt) (t : Int) (w : World) (h : RowAt rPt w w.heap.size A l) (hl : trv.tvTo l l.length = []) (ht : 0 ≤ t ∧ t ≤ 4096) :
  Calls Tryz.prog 135 #[.slice A l.length c, .int .i64 t] w fun e w' => e = .returned (.int .i64 (arvF l t)) ∧ Below w.heap.size w w' := by
 have hok := tv_ok hl
 have hpos := hok.pos
 have hfew := hok.few
 obtain ⟨r, hr⟩ : ∃ r, arvF l t = r := ⟨_, rfl⟩
 have hck := rnet.rtv_any A c l w h (by omega)
 rw [hl] at hck
 obtain ⟨n, hn⟩ : ∃ n, l.length = n := ⟨_, rfl⟩
 have HOK := Lib.hid hok
 have HR := Lib.hid hr
 have HN := Lib.hid hn
 have HH := Lib.hid h
 rw [hn] at hck hpos hfew ⊢
 rw [hr]
 obtain ⟨ht1, ht2⟩ := ht
 clear hok hr hn h hl
 go_enter Tryz.func135, Tryz.ntmps135
 go_upto_region 3 with (go_at_call 167; refine hck.mono ?_; rintro e1 w1 ⟨A1, c1, rfl, -, b1⟩)
 clear hck
 have HB1 := Lib.hid b1
 have z1 := b1.size
 clear b1
 go_upto_region 4 with fail
 go_loopw [5] (fun i wr => ∃ k : Nat, k + 1 ≤ n ∧ i = .int .i64 k ∧ Hid (segI l t k = none) ∧ Below w.heap.size w wr) (fun i _ => n - (intOf i).toNat)
 case atStart => exact ⟨0, by omega, rfl, Lib.hid rfl, HB1.out⟩
 case round =>
  obtain ⟨k, hk, rfl, HS, hb⟩ := hrel
  have hz := hb.size
  by_cases hlt : k + 1 < n
  ·obtain ⟨p, hp⟩ : ∃ p, l[k]? = some p := ⟨_, List.getElem?_eq_getElem (by rw [HN.out]; omega)⟩
   obtain ⟨q, hq⟩ : ∃ q, l[k + 1]? = some q := ⟨_, List.getElem?_eq_getElem (by rw [HN.out]; exact hlt)⟩
   obtain ⟨ad, rfl, hadb, ⟨m0, m1⟩, hpf⟩ := row_Pt (HH.out.below hb) hp
   obtain ⟨ad2, hA2, hadb2, ⟨m2, m3⟩, hqf⟩ := row_Pt (HH.out.below hb) hq
   obtain rfl : ad = ad2 := Option.some.inj hA2
   have hpb := HOK.out.pt p (List.mem_of_getElem? hp)
   have hqb := HOK.out.pt q (List.mem_of_getElem? hq)
   have hpq := HOK.out.nxt k p q hp hq
   have HP := Lib.hid (And.intro hp hq)
   obtain ⟨pt, pa⟩ := p
   obtain ⟨qt, qa⟩ := q
   dsimp only at hpb hqb hpq m0 m1 m2 m3
   have hk0 : (0 : Int) ≤ (k : Int) := by omega
   have hkn : (k : Int) < (n : Int) := by omega
   have hk1 : (k : Int) + 1 < (n : Int) := by omega
   have HP2 := Lib.hid (And.intro m2 m3)
   clear hp hq hA2 hpf hqf m2 m3
   go_upto_region 7 with fail
   obtain ⟨W, hW⟩ : ∃ W, wr.alloc (.cells #[.int .i64 pt, .int .i64 pa] 140) = W := ⟨_, rfl⟩
   obtain ⟨B1, hB1⟩ : ∃ P, wr.heap.size = P := ⟨_, rfl⟩
   have bW : Below wr.heap.size wr W := by rw [← hW]; exact (Below.refl _ _).alloc (Nat.le_refl _) _
   have hn1 : Blk W B1 140 [.int .i64 pt, .int .i64 pa] := by rw [← hW, ← hB1]; exact Blk.new wr _ _
   have m2 : W.cell? (ad.add ((k + 1) * 2)) = some (.int .i64 qt) := (bW.cell (by rw [blk_add]; exact Nat.lt_of_lt_of_le hadb2 hz)).trans HP2.out.1
   have m3 : W.cell? ⟨(ad.add ((k + 1) * 2)).block, (ad.add ((k + 1) * 2)).off + 1, none⟩ = some (.int .i64 qa) := (bW.cell (by show (ad.add ((k + 1) * 2)).block < _; rw [blk_add]; exact Nat.lt_of_lt_of_le hadb2 hz)).trans HP2.out.2
   have HBW : Hid (Below w.heap.size w W) := Lib.hid (hb.trans (bW.mono hz))
   have HN1 := Lib.hid hn1
   rw [hW, hB1]
   clear hW hB1 bW hn1 m0 m1
   go_upto_region 8 with fail
   obtain ⟨W2, hW2⟩ : ∃ W2, W.alloc (.cells #[.int .i64 qt, .int .i64 qa] 140) = W2 := ⟨_, rfl⟩
   obtain ⟨B2, hB2⟩ : ∃ P, W.heap.size = P := ⟨_, rfl⟩
   have bW2 : Below W.heap.size W W2 := by rw [← hW2]; exact (Below.refl _ _).alloc (Nat.le_refl _) _
   have hn1 := HN1.out.below bW2
   have hn2 : Blk W2 B2 140 [.int .i64 qt, .int .i64 qa] := by rw [← hW2, ← hB2]; exact Blk.new W _ _
   have a0 := hn1.cell (j := 0) rfl
   have a1 := hn1.cell (j := 1) rfl
   have b0 := hn2.cell (j := 0) rfl
   have b1 := hn2.cell (j := 1) rfl
   have HBZ : Hid (Below w.heap.size w W2) := Lib.hid (HBW.out.trans (bW2.mono HBW.out.size))
   rw [hW2, hB2]
   clear hW2 hB2 bW2 hn1 hn2 m2 m3 HN1 HP2
   by_cases h1 : pt ≤ t
   ·by_cases h2 : t < qt
    ·have hsb := seg_bd (p := ⟨pt, pa⟩) (q := ⟨qt, qa⟩) hpb hqb hpq ⟨h1, h2⟩
     have HRR : Hid (r = pa + ((t - pt) * (qa - pa) + qt - pt - 1) / (qt - pt)) := Lib.hid (by rw [← HR.out]; exact arv_seg HS.out HP.out.1 HP.out.2 ⟨h1, h2⟩)
     dsimp only at hsb
     obtain ⟨⟨s1, s2⟩, s3, s4⟩ := hsb
     have hd1 : 1 ≤ qt - pt := by omega
     have hd0 : 0 ≤ (t - pt) * (qa - pa) + qt - pt - 1 := by omega
     go_upto_region 9 with fail
     go_quiet (fail)
     go_wp2
     go_ret
     exact ⟨by rw [HRR.out]; rfl, zQ HBZ.out _⟩
    ·have HN2 : Hid (segI l t (k + 1) = none) := Lib.hid (segI_none HS.out HP.out.1 HP.out.2 (fun h => h2 h.2))
     go_wp2
     go_roundw
     case rel => exact ⟨k + 1, by omega, by go_num, HN2, HBZ.out⟩
     case measure => simp [intOf]; omega
   ·have HN2 : Hid (segI l t (k + 1) = none) := Lib.hid (segI_none HS.out HP.out.1 HP.out.2 (fun h => h1 h.1))
    go_wp2
    go_roundw
    case rel => exact ⟨k + 1, by omega, by go_num, HN2, HBZ.out⟩
    case measure => simp [intOf]; omega
  ·have HKN : Hid (n = k + 1) := Lib.hid (by omega)
   have hkn : ¬ (k : Int) + 1 < (n : Int) := by omega
   have hkz : (n : Int) - 1 = (k : Int) := by omega
   have hkp : (k : Int) < (n : Int) := by omega
   have hnp : (0 : Int) < (n : Int) := by omega
   obtain ⟨f, hf⟩ : ∃ p, l[0]? = some p := ⟨_, List.getElem?_eq_getElem (by rw [HN.out]; omega)⟩
   obtain ⟨la, hla⟩ : ∃ p, l[k]? = some p := ⟨_, List.getElem?_eq_getElem (by rw [HN.out]; omega)⟩
   obtain ⟨ad, rfl, hadb, ⟨m0, m1⟩, hpf⟩ := row_Pt (HH.out.below hb) hf
   obtain ⟨ad2, hA2, hadb2, ⟨m2, m3⟩, hqf⟩ := row_Pt (HH.out.below hb) hla
   obtain rfl : ad = ad2 := Option.some.inj hA2
   have hpb := HOK.out.pt f (List.mem_of_getElem? hf)
   have hqb := HOK.out.pt la (List.mem_of_getElem? hla)
   have hlp : lastP l t = if f.t < t then la else f := by
    unfold lastP
    have e1 : l.head? = some f := by rw [List.head?_eq_getElem?]; exact hf
    have e2 : l.getLast? = some la := by rw [List.getLast?_eq_getElem?, HN.out, HKN.out]; exact hla
    rw [e1, e2]
   have hrr : r = t + (lastP l t).a - (lastP l t).t := by rw [← HR.out]; exact arv_end (by rw [HN.out, HKN.out]; exact HS.out)
   rw [hlp] at hrr
   obtain ⟨pt, pa⟩ := f
   obtain ⟨qt, qa⟩ := la
   dsimp only at hpb hqb m0 m1 m2 m3 hrr
   have hk0 : (0 : Int) ≤ (k : Int) := by omega
   have e0 : ad.add (0 * 2) = ad := by simp [Addr.add]
   rw [e0] at m0 m1
   clear hf hla hA2 hpf hqf hlp
   have HM := Lib.hid (And.intro m2 m3)
   clear m2 m3
   go_upto_region 11 with fail
   obtain ⟨W, hW⟩ : ∃ W, wr.alloc (.cells #[.int .i64 pt, .int .i64 pa] 140) = W := ⟨_, rfl⟩
   obtain ⟨B1, hB1⟩ : ∃ P, wr.heap.size = P := ⟨_, rfl⟩
   have bW : Below wr.heap.size wr W := by rw [← hW]; exact (Below.refl _ _).alloc (Nat.le_refl _) _
   have hn1 : Blk W B1 140 [.int .i64 pt, .int .i64 pa] := by rw [← hW, ← hB1]; exact Blk.new wr _ _
   have m2 : W.cell? (ad.add (k * 2)) = some (.int .i64 qt) := (bW.cell (by rw [blk_add]; exact Nat.lt_of_lt_of_le hadb2 hz)).trans HM.out.1
   have m3 : W.cell? ⟨(ad.add (k * 2)).block, (ad.add (k * 2)).off + 1, none⟩ = some (.int .i64 qa) := (bW.cell (by show (ad.add (k * 2)).block < _; rw [blk_add]; exact Nat.lt_of_lt_of_le hadb2 hz)).trans HM.out.2
   have a0 := hn1.cell (j := 0) rfl
   have a1 := hn1.cell (j := 1) rfl
   have f0 := hn1.frozen 0
   have f1 := hn1.frozen 1
   have HBW : Hid (Below w.heap.size w W) := Lib.hid (hb.trans (bW.mono hz))
   have HZB : Hid (w.heap.size ≤ B1) := Lib.hid (by omega)
   rw [hW, hB1]
   clear hW hB1 bW hn1 m0 m1 e0
   by_cases h1 : pt < t
   ·have HRR : Hid (r = t + qa - qt) := Lib.hid (by rw [hrr, if_pos h1])
    clear hrr
    go_wp2
    go_ret
    exact ⟨by rw [HRR.out]; rfl, (HBW.out.setCell (p := ⟨B1, 0, none⟩) HZB.out _).setCell (p := ⟨B1, 1, none⟩) HZB.out _⟩
   ·have HRR : Hid (r = t + pa - pt) := Lib.hid (by rw [hrr, if_neg h1])
    clear hrr
    go_wp2
    go_ret
    exact ⟨by rw [HRR.out]; rfl, HBW.out⟩
set_option maxRecDepth 20000 in
set_option maxHeartbeats 4000000 in
theorem rarv9_any (a : Arc) (C : Option Addr) (c : Nat) (D : Option Addr) (d : Nat) (t : Int) (w : World) (h0 : RowAt rPt w w.heap.size C a.travel) (h1 : RowAt rPt w w.heap.size D a.slow) (hl : trv.tvTo a.travel a.travel.length = []) (hs : slTo a.slow a.slow.length = []) (ht : 0 ≤ t ∧ t ≤ 4096) :
  Calls Tryz.prog 81 #[.agg (zB a C c D d).toArray, .int .i64 t] w fun e w' => e = .returned (.int .i64 (arcA a t)) ∧ Below w.heap.size w w' := by
 show Calls Tryz.prog 81 #[.agg #[.int .i64 a.frm, .int .i64 a.to, .int .i64 a.profile, .int .i64 a.miles, .slice C a.travel.length c, .slice D a.slow.length d], .int .i64 t] w _
 obtain ⟨W0, hW0⟩ : ∃ W0, w.alloc (.cells (zB a C c D d).toArray 59) = W0 := ⟨_, rfl⟩
 have hB0 : Below w.heap.size w W0 := by rw [← hW0]; exact (Below.refl _ _).alloc (Nat.le_refl _) _
 have z0 := hB0.size
 have hW1 : w.alloc (.cells #[.int .i64 a.frm, .int .i64 a.to, .int .i64 a.profile, .int .i64 a.miles, .slice C a.travel.length c, .slice D a.slow.length d] 59) = W0 := hW0
 have HX : Hid (Blk W0 w.heap.size 59 (zB a C c D d)) := Lib.hid (by rw [← hW0]; exact Blk.new w _ _)
 have HW1 := Lib.hid hW1
 clear hW0 hW1
 have hH0 := (h0.below hB0).more z0
 have hH1 := (h1.below hB0).more z0
 have hcl := rarv7_any C c a.travel t W0 hH0 hl ht
 obtain ⟨v, hv⟩ : ∃ v, arvF a.travel t = v := ⟨_, rfl⟩
 have hbd := arv_bd (tv_ok hl) ht
 rw [hv] at hcl hbd
 obtain ⟨hb1, hb2⟩ := hbd
 have HRV : Hid (arcA a t = v + slS a.slow t a.slow.length) := Lib.hid (by rw [← hv]; rfl)
 obtain ⟨r, hr⟩ : ∃ r, arcA a t = r := ⟨_, rfl⟩
 rw [hr] at HRV ⊢
 have hsl := ((slTo_nil' _).1 hs).1
 have HSB := Lib.hid (slS_bd hs t)
 have HSQ : Hid (∀ p ∈ a.slow, 0 ≤ p.a ∧ p.a ≤ 4096) := Lib.hid (fun p hp => by
  obtain ⟨j, hj⟩ := List.mem_iff_getElem?.1 hp
  exact (slBad_no.1 (((slTo_nil' _).1 hs).2 j p (List.getElem?_eq_some_iff.1 hj).1 hj)).2.1)
 obtain ⟨tr, htr⟩ : ∃ tr, a.travel.length = tr := ⟨_, rfl⟩
 obtain ⟨n, hn⟩ : ∃ n, a.slow.length = n := ⟨_, rfl⟩
 have HH := Lib.hid hH1
 have HN := Lib.hid hn
 have c4 : W0.cell? ⟨w.heap.size, 4, none⟩ = some (.slice C tr c) := by rw [← htr]; exact HX.out.cell (j := 4) rfl
 rw [htr] at hcl HW1
 rw [hn] at HW1 hsl HSB HRV
 rw [htr, hn]
 obtain ⟨ht1, ht2⟩ := ht
 have HB0 := Lib.hid hB0
 clear h0 h1 hl hs hH0 hH1 hv hr htr hn
 go_enter Tryz.func81, Tryz.ntmps81
 go_upto_region 1 with fail
 rw [HW1.out]
 clear HW1
 go_upto_region 2 with (go_at_call 135; refine hcl.mono ?_; rintro e1 w1 ⟨rfl, b1⟩)
 clear hcl c4
 have HB1 := Lib.hid b1
 have zz1 := b1.size
 have HX1 := Lib.hid (fun w' (h' : Below w1.heap.size w1 w') => (HX.out.below b1).below h')
 have HW1 := Lib.hid (Below.refl w1.heap.size w1)
 have x5 : w1.cell? ⟨w.heap.size, 5, none⟩ = some (.slice D n d) := by rw [← HN.out]; exact (HX1.out _ HW1.out).cell (j := 5) rfl
 clear b1
 go_upto_region 3 with fail
 go_loopw [5, 6] (fun s i wr => ∃ k : Nat, k ≤ n ∧ i = .int .i64 k ∧ s = .int .i64 (v + slS a.slow t k) ∧ Below w1.heap.size w1 wr) (fun _ i _ => n - (intOf i).toNat)
 case atStart => exact ⟨0, by omega, rfl, by rw [show slS a.slow t 0 = 0 from rfl, Int.add_zero], HW1.out⟩
 case round =>
  clear x5
  obtain ⟨k, hk, rfl, rfl, hb⟩ := hrel
  have hz := hb.size
  obtain ⟨sb1, sb2⟩ := HSB.out k hk
  obtain ⟨sv, hsv⟩ : ∃ s, slS a.slow t k = s := ⟨_, rfl⟩
  have HSV := Lib.hid hsv
  rw [hsv] at sb1 sb2 ⊢
  have x5 : wr.cell? ⟨w.heap.size, 5, none⟩ = some (.slice D n d) := by rw [← HN.out]; exact (HX1.out _ hb).cell (j := 5) rfl
  clear hsv
  by_cases hlt : k < n
  ·obtain ⟨p, hp⟩ : ∃ p, a.slow[k]? = some p := ⟨_, List.getElem?_eq_getElem (by rw [HN.out]; exact hlt)⟩
   have hrow := ((HH.out.below HB1.out).more zz1).below hb
   obtain ⟨ad, hAd, hadb, ⟨m0, m1⟩, hpf⟩ := row_Pt hrow hp
   have hpq := HSQ.out p (List.mem_of_getElem? hp)
   have HSS := Lib.hid (slS_succ (t := t) hp)
   obtain ⟨pt, pa⟩ := p
   dsimp only at hpq m0 m1
   rw [hAd] at x5
   obtain ⟨hpq1, hpq2⟩ := hpq
   have hk0 : (0 : Int) ≤ (k : Int) := by omega
   have hkn : (k : Int) < (n : Int) := by omega
   clear hp hAd hpf hrow
   by_cases h1 : pt ≤ t
   ·have HSN : Hid (slS a.slow t (k + 1) = sv + pa) := Lib.hid (by rw [HSS.out, HSV.out, if_pos h1])
    go_wp2
    go_roundw
    case rel => exact ⟨k + 1, by omega, by go_num, by rw [HSN.out]; go_num, hb⟩
    case measure => simp [intOf]; omega
   ·have HSN : Hid (slS a.slow t (k + 1) = sv) := Lib.hid (by rw [HSS.out, HSV.out, if_neg h1, Int.add_zero])
    go_wp2
    go_roundw
    case rel => exact ⟨k + 1, by omega, by go_num, by rw [HSN.out], hb⟩
    case measure => simp [intOf]; omega
  ·have hkn : k = n := by omega
   subst hkn
   have HBZ := Lib.hid (HB0.out.trans ((HB1.out.trans (hb.mono zz1)).mono z0))
   clear hlt
   go_wp2
   go_ret
   exact ⟨by rw [HRV.out, HSV.out]; rfl, HBZ.out⟩
def FndOut (a : Arc) (w : World) (e : Ending) (w' : World) : Prop := ∃ C c D d, e = .returned (.tuple #[.agg (zB a C c D d).toArray, .bool true]) ∧ RowAt rPt w' w'.heap.size C a.travel ∧ RowAt rPt w' w'.heap.size D a.slow ∧ Below w.heap.size w w'
set_option maxRecDepth 20000 in
set_option maxHeartbeats 4000000 in
theorem rfind_any (N : Net) (i : Nat) (a : Arc) (A0 : Option Addr) (d0 : Nat) (A1 : Option Addr) (d1 : Nat) (w : World) (h1 : RowAt rArc w w.heap.size A1 N.arcs) (ha : N.arcs[i]? = some a) (hfst : ∀ (j : Nat) b, j < i → N.arcs[j]? = some b → ¬ (b.frm = a.frm ∧ b.to = a.to ∧ b.profile = a.profile)) :
  Calls Tryz.prog 80 #[.agg #[.slice A0 N.places.length d0, .slice A1 N.arcs.length d1], .int .i64 a.profile, .int .i64 a.frm, .int .i64 a.to] w (FndOut a w) := by
 obtain ⟨W0, hW0⟩ : ∃ W0, (w.alloc (.cells (netC A0 N.places.length d0 A1 N.arcs.length d1).toArray 25)).alloc (.cells (arcL 0 0 0 (.slice none 0 0)).toArray 59) = W0 := ⟨_, rfl⟩
 have hB0 : Below w.heap.size w W0 := by rw [← hW0]; exact ((Below.refl _ _).alloc (Nat.le_refl _) _).alloc (by simp) _
 have hz : W0.heap.size = w.heap.size + 2 := by rw [← hW0]; simp
 have b0 : Blk W0 w.heap.size 25 (netC A0 N.places.length d0 A1 N.arcs.length d1) := by
  rw [← hW0]
  exact (Blk.new w _ _).kept (World.grownBy_alloc _ _ none) (by simp)
 have b1 : Blk W0 (w.heap.size + 1) 59 (arcL 0 0 0 (.slice none 0 0)) := by
  rw [← hW0]
  have h := Blk.new (w.alloc (.cells (netC A0 N.places.length d0 A1 N.arcs.length d1).toArray 25)) 59 (arcL 0 0 0 (.slice none 0 0))
  rw [show (w.alloc (.cells (netC A0 N.places.length d0 A1 N.arcs.length d1).toArray 25)).heap.size = w.heap.size + 1 by simp] at h
  exact h
 have hW1 : (w.alloc (.cells #[.slice A0 N.places.length d0, .slice A1 N.arcs.length d1] 25)).alloc (.cells #[.int .i64 0, .int .i64 0, .int .i64 0, .int .i64 0, .slice none 0 0, .slice none 0 0] 59) = W0 := hW0
 obtain ⟨m, hm⟩ : ∃ m, N.places.length = m := ⟨_, rfl⟩
 obtain ⟨n1, hn1⟩ : ∃ m, N.arcs.length = m := ⟨_, rfl⟩
 have hin : i < n1 := by rw [← hn1]; exact (List.getElem?_eq_some_iff.1 ha).1
 have hlen := h1.1
 rw [hm, hn1] at hW1 b0 ⊢
 rw [hn1] at hlen
 have HN := Lib.hid hn1
 have HX := Lib.hid (fun w' (h' : Below W0.heap.size W0 w') => And.intro (b0.below h') (b1.below h'))
 have HW1 := Lib.hid hW1
 have HRA := Lib.hid h1
 have HA := Lib.hid ha
 have HF := Lib.hid hfst
 have HB0 := Lib.hid hB0
 have HZ0 := Lib.hid hB0.size
 have HC0 := Lib.hid (Below.refl W0.heap.size W0)
 obtain ⟨af, haf⟩ : ∃ v, a.frm = v := ⟨_, rfl⟩
 obtain ⟨at', hat⟩ : ∃ v, a.to = v := ⟨_, rfl⟩
 obtain ⟨ap, hap⟩ : ∃ v, a.profile = v := ⟨_, rfl⟩
 have HK := Lib.hid (And.intro haf (And.intro hat hap))
 rw [haf, hat, hap]
 clear h1 ha hfst hm hn1 hW0 hW1 b0 b1 hB0 haf hat hap
 go_enter Tryz.func80, Tryz.ntmps80
 go_upto_region 1 with fail
 rw [HW1.out]
 clear HW1
 go_upto_region 2 with fail
 go_loopw [10] (fun i' wr => ∃ k : Nat, k ≤ i ∧ i' = .int .i64 k ∧ Below W0.heap.size W0 wr) (fun i' _ => n1 - (intOf i').toNat)
 case atStart => exact ⟨0, by omega, rfl, HC0.out⟩
 case round =>
  obtain ⟨k, hk, rfl, hb⟩ := hrel
  have hz1 := hb.size
  obtain ⟨x, hx⟩ : ∃ x, N.arcs[k]? = some x := ⟨_, List.getElem?_eq_getElem (by rw [HN.out]; omega)⟩
  have ix : wr.cell? ⟨w.heap.size, 1, none⟩ = some (.slice A1 n1 d1) := (HX.out _ hb).1.cell (j := 1) rfl
  have hbw := Lib.hid (HB0.out.trans (hb.mono HZ0.out))
  obtain ⟨ad, cs0, hA, hadb, hat0, hcs0⟩ := ((HRA.out.below hbw.out).2 k x hx)
  obtain ⟨C0, c0, C1, c1, rfl, ht0, hs0, hf0⟩ := rArc_at hat0
  have HCE : Hid (CellsAt wr (ad.add (k * 6)) (zB x C0 c0 C1 c1)) := Lib.hid (fun j u hu => by rw [add_of_add]; exact hcs0 j u hu)
  have HRW := Lib.hid (And.intro ht0 hs0)
  have HXX := Lib.hid hx
  have hk0 : (0 : Int) ≤ (k : Int) := by omega
  have hkn : (k : Int) < (n1 : Int) := by omega
  rw [hA] at ix
  clear hx hcs0 hat0 ht0 hs0 hf0 hA
  go_upto_region 5 with (first
   | ((with_reducible refine zH stArc' _ rfl (ad.add (k * 6)) (zB x C0 c0 C1 c1) ?_ ?_ ?_ ?_ ?_); exact rfl; exact rfl; exact HCE.out; exact rfl)
   | ((with_reducible refine zJ stArc' rfl _ _ rfl wr.heap.size (arcL 0 0 0 (.slice none 0 0)) (zB x C0 c0 C1 c1) ?_ ?_ ?_ ?_ ?_ (yC _ _ _ _ _) ?_); exact rfl; exact rfl; exact Blk.new wr _ _; exact rfl; exact rfl; intro w4 k1 k2 k3 k4; have K := lib.h4 k1 k2 k3 k4; clear k1 k2 k3 k4))
  (try simp only [lib.hly])
  have b4 : Below wr.heap.size wr w4 := ((Below.refl _ _).alloc (Nat.le_refl _) _).trans K.out.2.2.2
  have HB4 := Lib.hid (hb.trans (b4.mono hz1))
  obtain ⟨q, hq⟩ : ∃ q, wr.heap.size = q := ⟨_, rfl⟩
  have HQ : Hid (Blk w4 q 59 (zB x C0 c0 C1 c1)) := Lib.hid (by rw [← hq]; exact K.out.1)
  have HBR := Lib.hid (b4.mono hbw.out.size)
  have hqz : q < w4.heap.size := HQ.out.lt
  rw [hq]
  clear K b4 ix hq HCE
  have q0 := HQ.out.cell (j := 0) rfl
  have q1 := HQ.out.cell (j := 1) rfl
  have q2 := HQ.out.cell (j := 2) rfl
  have hne : ∀ (hc : ¬ (x.frm = af ∧ x.to = at' ∧ x.profile = ap)), k < i := fun hc => by
   rcases Nat.lt_or_ge k i with h | h
   ·exact h
   ·obtain rfl : k = i := by omega
    rw [HA.out] at HXX
    obtain rfl := Option.some.inj HXX.out
    exact absurd HK.out hc
  have HNE := Lib.hid hne
  clear hne
  by_cases e1 : x.frm = af
  ·by_cases e2 : x.to = at'
   ·by_cases e3 : x.profile = ap
    ·have hxa : Hid (x = a) := Lib.hid (by
      rcases Nat.lt_or_ge k i with h | h
      ·exact absurd ⟨e1.trans HK.out.1.symm, e2.trans HK.out.2.1.symm, e3.trans HK.out.2.2.symm⟩ (HF.out k x h HXX.out)
      ·obtain rfl : k = i := by omega
       exact Option.some.inj (HXX.out.symm.trans HA.out))
     have HR4 := Lib.hid (HX.out _ HB4.out).2
     have hwz : w.heap.size + 1 < W0.heap.size := by omega
     go_wp2_with (first
      | ((with_reducible refine zH stArc' _ rfl ⟨q, 0, none⟩ (zB x C0 c0 C1 c1) ?_ ?_ ?_ ?_ ?_); exact rfl; exact rfl; exact HQ.out.cells; exact rfl)
      | ((with_reducible refine zJ stArc' rfl _ _ rfl (w.heap.size + 1) (arcL 0 0 0 (.slice none 0 0)) (zB x C0 c0 C1 c1) ?_ ?_ ?_ ?_ ?_ (yC _ _ _ _ _) ?_); exact rfl; exact rfl; exact HR4.out; exact rfl; exact rfl; intro wz k1 k2 k3 k4; have K := lib.h4 k1 k2 k3 k4; clear k1 k2 k3 k4))
     have HRz : Blk wz (w.heap.size + 1) 59 (zB x C0 c0 C1 c1) := K.out.1
     refine bodyPost_ret (v := .tuple #[.agg (zB x C0 c0 C1 c1).toArray, .bool true]) (big.zK stArc' Tryz.results80 rfl rfl HRz.cells rfl) rfl ?_
     have hbz := HBR.out.trans (K.out.2.2.2.mono (show w.heap.size ≤ w.heap.size + 1 by omega))
     have hh := hxa.out
     subst hh
     exact ⟨C0, c0, C1, c1, rfl, (HRW.out.1.below hbz).more (hbw.out.trans hbz).size, (HRW.out.2.below hbz).more (hbw.out.trans hbz).size, hbw.out.trans hbz⟩
    ·have e3' : (x.profile == ap) = false := by simp [e3]
     have hki := HNE.out (fun h => e3 h.2.2)
     clear e3
     go_wp2
     go_roundw
     case rel => exact ⟨k + 1, by omega, by go_num, HB4.out⟩
     case measure => simp [intOf]; omega
   ·have e2' : (x.to == at') = false := by simp [e2]
    have hki := HNE.out (fun h => e2 h.2.1)
    clear e2
    go_wp2
    go_roundw
    case rel => exact ⟨k + 1, by omega, by go_num, HB4.out⟩
    case measure => simp [intOf]; omega
  ·have e1' : (x.frm == af) = false := by simp [e1]
   have hki := HNE.out (fun h => e1 h.1)
   clear e1
   go_wp2
   go_roundw
   case rel => exact ⟨k + 1, by omega, by go_num, HB4.out⟩
   case measure => simp [intOf]; omega
end Go.Proofs.YtofabhenmplkoaaGreatDoor.evt
namespace Go.Proofs.YtofabhenmplkoaaGreatDoor.evt
open Go.RowKit
open lib rd app els off typ big gen net flts
theorem rplace9s_any (n : Nat) (A0 : Option Addr) (d0 : Nat) (A1 : Option Addr) (n1 d1 : Nat) (i : Int) (w : World) :
  Calls Tryz.prog 79 #[.agg #[.slice A0 n d0, .slice A1 n1 d1], .int .i64 i] w fun e w' => e = .returned (.bool (placeB n i)) ∧ Below w.heap.size w w' := by
 by_cases h : 0 ≤ i
 all_goals
  go_enter Tryz.func79, Tryz.ntmps79
  go_wp2
  go_ret
  exact ⟨ret_bool (by unfold placeB; first | (simp [h]; done) | (simp; omega)), by repeat (first | assumption | exact Below.refl _ _ | refine Below.drew ?_ | refine Below.alloc ?_ (by first | omega | (simp <;> omega)) _ | refine Below.setCell ?_ (by first | omega | (simp <;> omega)) _)⟩
set_option maxRecDepth 20000 in
set_option maxHeartbeats 4000000 in
theorem rgo_any (N : Net) (i : Nat) (a : Arc) (A0 : Option Addr) (d0 : Nat) (A1 : Option Addr) (d1 : Nat) (t : Int) (w : World) (h1 : RowAt rArc w w.heap.size A1 N.arcs) (ha : N.arcs[i]? = some a) (hok : ArOk N i a) (ht : 0 ≤ t ∧ t ≤ 4096) :
  Calls Tryz.prog 27 #[.agg #[.slice A0 N.places.length d0, .slice A1 N.arcs.length d1], .int .i64 a.profile, .int .i64 a.frm, .int .i64 a.to, .int .i64 t] w fun e w' => e = .returned (.tuple #[.int .i64 (arcA a t), .int .i64 a.miles, .int .i64 0]) ∧ Below w.heap.size w w' := by
 obtain ⟨W0, hW0⟩ : ∃ W0, w.alloc (.cells (netC A0 N.places.length d0 A1 N.arcs.length d1).toArray 25) = W0 := ⟨_, rfl⟩
 have hB0 : Below w.heap.size w W0 := by rw [← hW0]; exact (Below.refl _ _).alloc (Nat.le_refl _) _
 have b0 : Blk W0 w.heap.size 25 (netC A0 N.places.length d0 A1 N.arcs.length d1) := by
  rw [← hW0]
  exact Blk.new w _ _
 have hW1 : w.alloc (.cells #[.slice A0 N.places.length d0, .slice A1 N.arcs.length d1] 25) = W0 := hW0
 have HB0 := Lib.hid hB0
 have z0 := hB0.size
 have HFD : Hid (∀ w', Below w.heap.size w w' → Calls Tryz.prog 80 #[.agg #[.slice A0 N.places.length d0, .slice A1 N.arcs.length d1], .int .i64 a.profile, .int .i64 a.frm, .int .i64 a.to] w' (FndOut a w')) := Lib.hid (fun w' hb => rfind_any N i a A0 d0 A1 d1 w' ((h1.below hb).more hb.size) ha hok.fst)
 have hp1 := rplace9s_any N.places.length A0 d0 A1 N.arcs.length d1 a.frm
 have hp2 := rplace9s_any N.places.length A0 d0 A1 N.arcs.length d1 a.to
 rw [hok.frm] at hp1
 rw [hok.tob] at hp2
 have HP1 := Lib.hid hp1
 have HP2 := Lib.hid hp2
 have HOK := Lib.hid hok
 have HT := Lib.hid ht
 have hne : (a.frm == a.to) = false := by simp [hok.ne]
 obtain ⟨m, hm⟩ : ∃ m, N.places.length = m := ⟨_, rfl⟩
 obtain ⟨n1, hn1⟩ : ∃ m, N.arcs.length = m := ⟨_, rfl⟩
 rw [hm, hn1] at hW1 b0 HFD HP1 HP2 ⊢
 have HX := Lib.hid (fun w' (h' : Below W0.heap.size W0 w') => (b0.below h'))
 have HW1 := Lib.hid hW1
 have HC0 := Lib.hid (Below.refl W0.heap.size W0)
 clear h1 ha hm hn1 hW0 hW1 b0 hB0 hok ht hp1 hp2
 obtain ⟨v, hv⟩ : ∃ v, arcA a t = v := ⟨_, rfl⟩
 have HV := Lib.hid hv
 rw [hv]
 clear hv
 go_enter Tryz.func27, Tryz.ntmps27
 go_upto_region 1 with fail
 rw [HW1.out]
 clear HW1
 go_wp2_with ((with_reducible refine zH stNet _ rfl ⟨w.heap.size, 0, none⟩ (netC A0 m d0 A1 n1 d1) ?_ ?_ ?_ ?_ ?_); exact rfl; exact rfl; exact (HX.out _ HC0.out).cells; exact rfl)
 refine (HP1.out W0).mono ?_
 rintro e1 w1 ⟨rfl, b1⟩
 have HC1 := Lib.hid b1
 clear b1
 go_wp2_with ((with_reducible refine zH stNet _ rfl ⟨w.heap.size, 0, none⟩ (netC A0 m d0 A1 n1 d1) ?_ ?_ ?_ ?_ ?_); exact rfl; exact rfl; exact (HX.out _ HC1.out).cells; exact rfl)
 refine (HP2.out w1).mono ?_
 rintro e2 w2 ⟨rfl, b2⟩
 have HC2 := Lib.hid (HC1.out.trans (b2.mono HC1.out.size))
 have HB2 := Lib.hid (HB0.out.trans (HC2.out.mono z0))
 clear b2
 go_wp2_with ((with_reducible refine zH stNet _ rfl ⟨w.heap.size, 0, none⟩ (netC A0 m d0 A1 n1 d1) ?_ ?_ ?_ ?_ ?_); exact rfl; exact rfl; exact (HX.out _ HC2.out).cells; exact rfl)
 refine (HFD.out w2 HB2.out).mono ?_
 rintro e3 w3 ⟨C, c, D, d, rfl, hr0, hr1, b3⟩
 have z3 := b3.size
 have HR0 := Lib.hid hr0
 have HR1 := Lib.hid hr1
 have HB3 := Lib.hid (HB2.out.trans (b3.mono HB2.out.size))
 clear b3 hr0 hr1
 go_upto_region 6 with ((with_reducible refine zJ stArc' rfl _ _ rfl w3.heap.size (arcL 0 0 0 (.slice none 0 0)) (zB a C c D d) ?_ ?_ ?_ ?_ ?_ (yC _ _ _ _ _) ?_); exact rfl; exact rfl; exact Blk.new w3 _ _; exact rfl; exact rfl; intro w4 k1 k2 k3 k4; have K := lib.h4 k1 k2 k3 k4; clear k1 k2 k3 k4)
 (try simp only [lib.hly])
 have b4 : Below w3.heap.size w3 w4 := ((Below.refl _ _).alloc (Nat.le_refl _) _).trans K.out.2.2.2
 obtain ⟨q, hq⟩ : ∃ q, w3.heap.size = q := ⟨_, rfl⟩
 have HQ : Hid (Blk w4 q 59 (zB a C c D d)) := Lib.hid (by rw [← hq]; exact K.out.1)
 have HR4 := Lib.hid (And.intro ((HR0.out.below b4).more b4.size) ((HR1.out.below b4).more b4.size))
 have HB4 := Lib.hid (HB3.out.trans (b4.mono HB3.out.size))
 have hqz : q < w4.heap.size := HQ.out.lt
 rw [hq]
 clear K b4 hq HR0 HR1
 have HAR : Hid (∀ w', Below w4.heap.size w4 w' → Calls Tryz.prog 81 #[.agg (zB a C c D d).toArray, .int .i64 t] w' fun e w'' => e = .returned (.int .i64 v) ∧ Below w'.heap.size w' w'') := Lib.hid (fun w' h' => by
  have h := rarv9_any a C c D d t w' ((HR4.out.1.below h').more h'.size) ((HR4.out.2.below h').more h'.size) HOK.out.tvn HOK.out.sl HT.out
  rw [HV.out] at h
  exact h)
 have q3 : w4.cell? ⟨q, 3, none⟩ = some (.int .i64 a.miles) := HQ.out.cell (j := 3) rfl
 have HCQ := Lib.hid (fun w' (h' : Below w4.heap.size w4 w') => And.intro (HQ.out.below h').cells ((HQ.out.below h').cell (j := 3) rfl))
 have HE4 := Lib.hid (Below.refl w4.heap.size w4)
 go_upto_region 8 with fail
 clear q3
 (refine wp_region_held_drew (S := (fun w' => CellsAt w' ⟨q, 0, none⟩ (zB a C c D d) ∧ w'.cell? ⟨q, 3, none⟩ = some (.int .i64 a.miles))) (by kernel_rfl) ?_ (fun hHeld => ?_))
 ·exact HCQ.out _ HE4.out.drew
 (refine lib.tk 0 _ rfl (by kernel_rfl) (fun _ _ _ h => h) (fun _ hSw => yG stArc' rfl rfl hSw.1 rfl) (by assumption) ?_; (try simp only [lib.hly]))
 (refine lib.tk 1 ?_ rfl (by kernel_rfl) (fun _ _ _ h => h) ?_ (by assumption) ?_; rotate_left; (focus (intro w hSw; (try dsimp only at hSw); go_simp; all_goals with_reducible rfl)); (try simp only [lib.hly]))
 (refine lib.tk 3 ?_ rfl (by kernel_rfl) (fun _ _ _ h => h) ?_ (by assumption) ?_; rotate_left; (focus (intro w hSw; (try dsimp only at hSw); go_simp; all_goals with_reducible rfl)); (try simp only [lib.hly]))
 (refine lib.tk 4 ?_ rfl (by kernel_rfl) (fun _ _ _ h => h) ?_ (by assumption) ?_; rotate_left; (focus (intro w hSw; (try dsimp only at hSw); go_simp; all_goals with_reducible rfl)); (try simp only [lib.hly]))
 (refine wpAnyH_ready (rs := [2]) (by kernel_rfl) (by simp) ?_; refine AllReadyH.cons rfl (fun K hK => ?_) AllReadyH.nil)
 go_simp
 refine (HAR.out _ HE4.out.drew).mono ?_
 rintro e5 w5 ⟨rfl, b5⟩
 have HB5 := Lib.hid ((HE4.out.drew).trans b5)
 have HB6 := Lib.hid (HB4.out.trans (HB5.out.mono HB4.out.size))
 clear b5
 refine hK.out _ _ (HCQ.out _ HB5.out) (fun hHeld => ?_)
 clear hK K
 (try simp only [lib.hly])
 (refine lib.tk 5 ?_ rfl (by kernel_rfl) (fun _ _ _ h => h) ?_ (by assumption) ?_; rotate_left; (focus (intro w hSw; (try dsimp only at hSw); go_simp; all_goals with_reducible rfl)); (try simp only [lib.hly]))
 (refine lib.tk 6 ?_ rfl (by kernel_rfl) (fun _ _ _ h => h) ?_ (by assumption) ?_; rotate_left; (focus (intro w hSw; (try dsimp only at hSw); go_simp; all_goals with_reducible rfl)); (try simp only [lib.hly]))
 (refine lib.tk 7 ?_ rfl (by kernel_rfl) (fun _ _ _ h => h) ?_ (by assumption) ?_; rotate_left; (focus (intro w hSw; (try dsimp only at hSw); go_simp; all_goals with_reducible rfl)); (try simp only [lib.hly]))
 (refine wpAnyH_done (by kernel_rfl) ?_ _)
 go_wp2_with fail
 refine bodyPost_ret (v := .tuple #[.int .i64 v, .int .i64 a.miles, .int .i64 0]) (by simp [results, Tryz.results27, go_sem]) rfl ?_
 exact ⟨rfl, HB6.out⟩
end Go.Proofs.YtofabhenmplkoaaGreatDoor.evt
