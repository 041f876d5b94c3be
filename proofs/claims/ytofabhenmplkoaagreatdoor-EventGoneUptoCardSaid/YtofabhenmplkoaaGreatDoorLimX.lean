import Derived.Test.YtofabhenmplkoaaGreatDoorRefC
import Derived.Test.YtofabhenmplkoaaGreatDoorSlwX
import Derived.Test.YtofabhenmplkoaaGreatDoorZ4
import Derived.Test.YtofabhenmplkoaaGreatDoorGenX
import Derived.Test.YtofabhenmplkoaaGreatDoorBase
import Derived.Test.YtofabhenmplkoaaGreatDoorRows
set_option linter.unusedVariables false
set_option linter.unusedSimpArgs false
/- The program's limits are within the reference's. -/
namespace Go.Proofs.YtofabhenmplkoaaGreatDoor.ins
open Go.RowKit
open lib typ
theorem lim_rlim' {x : Ins} (h : Lim x) : RLim x where
 places := by have := h.places; omega
 points := fun a ha => by have := h.points a ha; omega
 net := by have := h.net; omega
 types := by have := h.types; omega
 orders := by have := h.orders; omega
 apart := by have := h.apart; omega
 before := by have := h.before; omega
end Go.Proofs.YtofabhenmplkoaaGreatDoor.ins

/- An instance that is accepted is small: the reference's limits. -/
namespace Go.Proofs.YtofabhenmplkoaaGreatDoor.lim
open Go.RowKit
open lib loads typ ins note txt ren rul par eqg net trv
theorem rlim_of {x : Ins} (h : insF x = []) : RLim x := by
 have h := lim_of h
 exact ⟨by have := h.places; omega, fun a ha => by have := h.points a ha; omega, by have := h.net; omega, by have := h.types; omega, by have := h.orders; omega, by have := h.apart; omega, by have := h.before; omega⟩
end Go.Proofs.YtofabhenmplkoaaGreatDoor.lim

/- No violation is OK. Printed from InsI's lemmas on sizes. -/
namespace Go.Proofs.YtofabhenmplkoaaGreatDoor.nz
open Go.RowKit
open lib rd typ app flts note txt und cat rul net
def OkE (E : List Int) : Prop := ∀ e ∈ E, e ≠ 0
def OkF (fs : List Flt) : Prop := ∀ f ∈ fs, f.err ≠ 0 ∧ f.at_.size ≤ 1000
theorem OkE.nil : OkE [] := fun e h => by cases h
theorem OkE.push {xs : List Int} {r : Bool} {u : Int} (h : OkE xs) (hu : u ≠ 0) : OkE (pushIf xs r u) := fun e he => by
 rcases pushIf_mem he with h1 | rfl
 ·exact h e h1
 ·exact hu
theorem OkE.append {xs ys : List Int} (h : OkE xs) (h' : OkE ys) : OkE (xs ++ ys) := fun e he => by
 rcases List.mem_append.1 he with h1 | h1
 ·exact h e h1
 ·exact h' e h1
theorem OkF.nil : OkF [] := fun e h => by cases h
theorem OkF.append {xs ys : List Flt} (h : OkF xs) (h' : OkF ys) : OkF (xs ++ ys) := fun e he => by
 rcases List.mem_append.1 he with h1 | h1
 ·exact h e h1
 ·exact h' e h1
theorem OkF.one {e : Int} {s : ByteArray} (h : e ≠ 0) (hs : s.size ≤ 1000) : OkF [⟨e, s⟩] := fun f hf => by
 rw [List.mem_singleton] at hf
 subst hf
 exact ⟨h, hs⟩
theorem OkF.of {E : List Int} {s : ByteArray} (h : OkE E) (hs : s.size ≤ 1000) : OkF (E.map fun e => ⟨e, s⟩) := fun f hf => by
 obtain ⟨e, he, rfl⟩ := List.mem_map.1 hf
 exact ⟨h e he, hs⟩
theorem dec_sz (n : Nat) : (decS n).size ≤ 1000 := Nat.le_trans (decS_size n) (by decide)
theorem OkF.mk {i : Nat} {E : List Int} (h : OkE E) : OkF (mkF i E) := OkF.of h (dec_sz i)
theorem tvTo_ok (l : List Pt) : ∀ j, OkF (trv.tvTo l j)
 | 0 => by
  unfold trv.tvTo
  split
  ·exact OkF.one (by decide) (by decide)
  ·exact OkF.nil
 | j + 1 => by
  rw [trv.tvTo]
  refine (tvTo_ok l j).append ?_
  unfold trv.tvAt
  split
  ·unfold trv.tvP
   refine OkF.append ?_ ?_
   all_goals
    split
    ·exact OkF.one (by decide) (dec_sz j)
    ·exact OkF.nil
  ·exact OkF.nil
theorem slTo_ok (l : List Pt) : ∀ j, OkE (slTo l j)
 | 0 => by
  unfold slTo
  split
  ·intro e he; simp at he; omega
  ·exact OkE.nil
 | j + 1 => by
  rw [slTo]
  refine (slTo_ok l j).append ?_
  unfold slAt
  split
  ·unfold slP
   split
   ·intro e he; simp at he; omega
   ·exact OkE.nil
  ·exact OkE.nil
theorem arcE_ok (P : Int) (ks : List (Int × Int × Int)) (x : Arc) : OkE (arcE P ks x) := by
 unfold arcE
 refine ((((OkE.nil.push ?_).push ?_).push ?_).append ?_).append (slTo_ok _ _)
 ·decide
 ·decide
 ·decide
 ·intro e he
  obtain ⟨f, hf, rfl⟩ := List.mem_map.1 he
  exact (tvTo_ok _ _ f hf).1
theorem plc_sz (i : Nat) : (plcS i).size ≤ 1000 := by
 have := decS_size i
 unfold plcS
 rw [ByteArray.size_append]
 exact Nat.le_trans (Nat.add_le_add_left this _) (by decide)
theorem arc_sz (i : Nat) : (arcS i).size ≤ 1000 := by
 have := decS_size i
 unfold arcS
 rw [ByteArray.size_append]
 exact Nat.le_trans (Nat.add_le_add_left this _) (by decide)
theorem plTo_ok (l : List ByteArray) : ∀ j, OkF (plTo l j)
 | 0 => by
  unfold plTo
  split
  ·exact OkF.one (by decide) (by decide)
  ·exact OkF.nil
 | j + 1 => by
  rw [plTo]
  refine (plTo_ok l j).append ?_
  unfold plAt
  split
  ·unfold plP
   split
   ·split
    ·exact OkF.one (by decide) (plc_sz j)
    ·exact OkF.nil
   ·exact OkF.one (by decide) (plc_sz j)
  ·exact OkF.nil
theorem netTo_ok (n : Net) : ∀ j, OkF (netTo n j)
 | 0 => by
  unfold netTo
  refine (plTo_ok _ _).append ?_
  split
  ·exact OkF.one (by decide) (by decide)
  ·exact OkF.nil
 | j + 1 => by
  rw [netTo]
  refine (netTo_ok n j).append ?_
  unfold arAt
  split
  ·exact OkF.of (arcE_ok _ _ _) (arc_sz j)
  ·exact OkF.nil
theorem fltsTo_ok (P : Int) (l : List Ty) : ∀ j, OkF (flt.fltsTo P l j)
 | 0 => by
  unfold flt.fltsTo
  split
  ·exact OkF.nil
  ·exact OkF.one (by decide) (by decide)
 | j + 1 => by
  rw [flt.fltsTo]
  refine (fltsTo_ok P l j).append ?_
  unfold flt.fltsAt
  split
  ·refine OkF.mk (i := j) ?_
   unfold flt.errsL
   repeat (refine OkE.push ?_ (by decide))
   exact OkE.nil
  ·exact OkF.nil
theorem ofltsTo_ok (P dims types : Int) (l : List Ord) : ∀ j, OkF (ord.ofltsTo P dims types l j)
 | 0 => by
  unfold ord.ofltsTo
  split
  ·exact OkF.nil
  ·exact OkF.one (by decide) (by decide)
 | j + 1 => by
  rw [ord.ofltsTo]
  refine (ofltsTo_ok P dims types l j).append ?_
  unfold ord.ofltsAt
  split
  ·refine OkF.mk (i := j) ?_
   unfold ord.errsO
   repeat (refine OkE.push ?_ (by decide))
   exact OkE.nil
  ·exact OkF.nil
theorem at_sz (word : ByteArray) (hw : word.size ≤ 900) (i : Nat) : (atS word i).size ≤ 1000 := by
 have := decS_size i
 unfold atS
 rw [ByteArray.size_append, ByteArray.size_append]
 have h1 : (⟨#[32]⟩ : ByteArray).size = 1 := rfl
 omega
theorem pairsTo_ok (orders : Int) (word : ByteArray) (hw : word.size ≤ 900) (same : Int × Int → Int × Int → Bool) (l : List (Int × Int)) : ∀ j, OkF (pairsTo orders word same l j)
 | 0 => by
  unfold pairsTo
  split
  ·exact OkF.nil
  ·exact OkF.one (by decide) (by omega)
 | j + 1 => by
  rw [pairsTo]
  refine (pairsTo_ok orders word hw same l j).append ?_
  unfold pairAt
  split
  ·unfold pairP
   split
   ·exact OkF.one (by decide) (at_sz word hw j)
   ·split
    ·exact OkF.one (by decide) (at_sz word hw j)
    ·exact OkF.nil
  ·exact OkF.nil
theorem rulesF_ok (orders : Int) (a b : List (Int × Int)) : OkF (rulesF orders a b) := (pairsTo_ok _ _ (by decide) _ _ _).append (pairsTo_ok _ _ (by decide) _ _ _)
end Go.Proofs.YtofabhenmplkoaaGreatDoor.nz

/- Plain: an instance that is accepted is accepted after an event. -/
namespace Go.Proofs.YtofabhenmplkoaaGreatDoor.evt
open Go.RowKit
open lib typ ins note txt net par eqg
theorem insF_pos' (x : Ins) : ∀ f ∈ insF x, f.err ≠ 0 := fun f hf => by
 have e : insF x = und.undL netS (insN x) ++ (und.undL typesS (insT x) ++ (und.undL ordersS (insO x) ++ (und.undL rulesS (insR x) ++ []))) := rfl
 rw [e] at hf
 simp only [List.mem_append, List.not_mem_nil, or_false] at hf
 have hg : ∃ word fs, nz.OkF fs ∧ f ∈ und.undL word fs := by
  rcases hf with hf | hf | hf | hf
  ·exact ⟨_, _, nz.netTo_ok _ _, hf⟩
  ·exact ⟨_, _, nz.fltsTo_ok _ _ _, hf⟩
  ·exact ⟨_, _, nz.ofltsTo_ok _ _ _ _ _, hf⟩
  ·exact ⟨_, _, nz.rulesF_ok _ _ _, hf⟩
 obtain ⟨word, fs, h, hf⟩ := hg
 unfold und.undL at hf
 obtain ⟨g, hg, rfl⟩ := List.mem_map.1 hf
 exact (h g hg).1
theorem addR_ok' {x : Ins} {o : Ord} (h : (addR x o).2 = 0) : (addR x o).1 = addI x o ∧ insF (addI x o) = [] := by
 unfold addR at h ⊢
 split
 ·rename_i h10
  rw [if_pos h10] at h
  exact absurd h (by decide)
 ·rename_i h10
  rw [if_neg h10] at h
  cases hF : insF (addI x o)
  case nil => exact ⟨rfl, rfl⟩
  case cons f fs =>
   rw [hF] at h
   exact absurd h (insF_pos' (addI x o) f (by rw [hF]; exact List.mem_cons_self ..))
theorem any_names {f : ByteArray → Bool} {l l' : List Ord} (h : l'.map (·.name) = l.map (·.name)) (i : Nat) : (l'.take i).any (fun x => f x.name) = (l.take i).any (fun x => f x.name) := by
 have e : ∀ l : List Ord, (l.take i).any (fun x => f x.name) = ((l.map (·.name)).take i).any f := fun l => by
  rw [← List.map_take, List.any_map]; rfl
 rw [e, e, h]
theorem any_tynames {f : ByteArray → Bool} {l l' : List Ty} (h : l'.map (·.name) = l.map (·.name)) (i : Nat) : (l'.take i).any (fun x => f x.name) = (l.take i).any (fun x => f x.name) := by
 have e : ∀ l : List Ty, (l.take i).any (fun x => f x.name) = ((l.map (·.name)).take i).any f := fun l => by
  rw [← List.map_take, List.any_map]; rfl
 rw [e, e, h]
theorem errsO_names {P d t : Int} {l l' : List Ord} {i : Nat} {o : Ord} (h : l'.map (·.name) = l.map (·.name)) : ord.errsO P d t l' i o = ord.errsO P d t l i o := by
 unfold ord.errsO
 rw [any_names (f := fun n => sameS n o.name) h]
theorem errsL_names {P : Int} {l l' : List Ty} {i d : Nat} {o : Ty} (h : l'.map (·.name) = l.map (·.name)) : flt.errsL P l' i o d = flt.errsL P l i o d := by
 unfold flt.errsL
 rw [any_tynames (f := fun n => flt.sameS n o.name) h]
theorem map_set_same {X Y : Type} {f : X → Y} {l : List X} {j : Nat} {o o' : X} (hj : l[j]? = some o) (he : f o' = f o) : (l.set j o').map f = l.map f := by
 apply List.ext_getElem?
 intro k
 rw [List.getElem?_map, List.getElem?_map, List.getElem?_set]
 split
 ·rename_i hk
  subst hk
  rw [hj]
  split
  ·rw [Option.map_some, Option.map_some, he]
  ·rename_i hl
   exact absurd (List.getElem?_eq_some_iff.1 hj).1 hl
 ·rfl
theorem insO_set {x : Ins} {j : Nat} {o o' : Ord} (hj : x.orders[j]? = some o) (hn : o'.name = o.name) (h : insO x = []) (he : ∀ P d t, ord.errsO P d t x.orders j o = [] → ord.errsO P d t x.orders j o' = []) : insO { x with orders := x.orders.set j o' } = [] := by
 unfold insO at h ⊢
 rw [ofltsTo_nil] at h ⊢
 obtain ⟨h1, h2⟩ := h
 have hnm := map_set_same (f := fun o : Ord => o.name) hj hn
 refine ⟨by rw [List.length_set]; exact h1, fun k p hk hp => ?_⟩
 rw [errsO_names hnm]
 have hp' : (x.orders.set j o')[k]? = some p := hp
 rw [List.getElem?_set] at hp'
 rw [List.length_set] at hk
 split at hp'
 ·rename_i hjk
  subst hjk
  rw [if_pos hk] at hp'
  obtain rfl := Option.some.inj hp'
  exact he _ _ _ (h2 j o hk hj)
 ·exact h2 k p hk hp'
theorem insF_set {x : Ins} {j : Nat} {o o' : Ord} (hj : x.orders[j]? = some o) (hn : o'.name = o.name) (h : insF x = []) (he : ∀ P d t, ord.errsO P d t x.orders j o = [] → ord.errsO P d t x.orders j o' = []) : insF { x with orders := x.orders.set j o' } = [] := by
 rw [insF_nil] at h ⊢
 obtain ⟨h1, h2, h3, h4⟩ := h
 refine ⟨h1, h2, insO_set hj hn h3 he, ?_⟩
 unfold insR at h4 ⊢
 rw [show ({ x with orders := x.orders.set j o' } : Ins).orders.length = x.orders.length from List.length_set]
 exact h4
theorem shfS_place (s : Stp) (n : Int) : (shfS s n).place = s.place := by
 unfold shfS
 split <;> rfl
theorem shf_chk {s : Stp} {n : Int} (h : win.chk s.place s.opn s.close s.service = 0) (hb : shfB s n = true) : win.chk (shfS s n).place (shfS s n).opn (shfS s n).close (shfS s n).service = 0 := by
 unfold shfB at hb
 rw [decide_eq_true_eq] at hb
 unfold shfS
 split
 ·exact h
 ·rename_i hp
  have hb := hb.resolve_left hp
  unfold win.chk at h ⊢
  split at h
  ·rename_i hg
   rw [if_pos]
   right
   rcases hg with hg | hg
   ·exact absurd hg.1 hp
   ·unfold win.Good at hg ⊢
    dsimp only
    omega
  ·exact absurd h (by decide)
theorem errsO_shf {P d t : Int} {l : List Ord} {j : Nat} {o : Ord} {n : Int} (h : ord.errsO P d t l j o = []) (h1 : shfB o.pick n = true) (h2 : shfB o.drop n = true) : ord.errsO P d t l j (shfO o n) = [] := by
 unfold ord.errsO at h ⊢
 simp only [pushIf_nil] at h ⊢
 obtain ⟨⟨⟨⟨⟨⟨⟨⟨h0, h3⟩, h4⟩, h5⟩, h6⟩, h7⟩, h8⟩, h9⟩, h10⟩ := h
 refine ⟨⟨⟨⟨⟨⟨⟨⟨trivial, h3⟩, h4⟩, h5⟩, ?_⟩, ?_⟩, ?_⟩, h9⟩, ?_⟩
 ·show (inB (shfS o.pick n).place (-1) P && inB (shfS o.drop n).place (-1) P) = true
  rw [shfS_place, shfS_place]; exact h6
 ·show (((shfS o.pick n).place != -1) || ((shfS o.drop n).place != -1)) = true
  rw [shfS_place, shfS_place]; exact h7
 ·unfold ord.winB at h8 ⊢
  rw [Bool.and_eq_true, beq_iff_eq, beq_iff_eq] at h8 ⊢
  exact ⟨shf_chk h8.1 h1, shf_chk h8.2 h2⟩
 ·unfold ord.numB at h10 ⊢
  show (inB o.penalty (-1) 1000000 && inB o.split 1 4 && (o.split == 1 || (shfS o.pick n).place == -1 || (shfS o.drop n).place == -1) && decide (-1 ≤ o.last) && decide (o.last < t) && decide (-1 ≤ o.now) && decide (o.now < t)) = true
  rw [shfS_place, shfS_place]; exact h10
theorem fltsTo_nil {P : Int} {l : List Ty} : ∀ k, flt.fltsTo P l k = [] ↔ flt.inB l.length 1 6 = true ∧ ∀ (j : Nat) t, j < k → l[j]? = some t → flt.errsL P l j t (flt.dimsN l) = []
 | 0 => by
  unfold flt.fltsTo
  split
  ·rename_i h
   exact ⟨fun _ => ⟨h, fun j p hj => absurd hj (by omega)⟩, fun _ => rfl⟩
  ·rename_i h
   exact ⟨fun e => (by cases e), fun e => absurd e.1 h⟩
 | k + 1 => by
  rw [flt.fltsTo, List.append_eq_nil_iff, fltsTo_nil k]
  constructor
  ·rintro ⟨⟨h1, h2⟩, h3⟩
   refine ⟨h1, fun j p hj hp => ?_⟩
   rcases Nat.lt_or_ge j k with h | h
   ·exact h2 j p h hp
   ·obtain rfl : j = k := by omega
    unfold flt.fltsAt at h3
    rw [hp] at h3
    exact List.map_eq_nil_iff.1 h3
  ·rintro ⟨h1, h2⟩
   refine ⟨⟨h1, fun j p hj hp => h2 j p (by omega) hp⟩, ?_⟩
   unfold flt.fltsAt
   split
   ·rename_i p hp
    rw [h2 k p (by omega) hp]
    rfl
   ·rfl
theorem dims_set {l : List Ty} {j : Nat} {t t' : Ty} (hj : l[j]? = some t) (hc : t'.cap = t.cap) : flt.dimsN (l.set j t') = flt.dimsN l := by
 cases l with
 | nil => rfl
 | cons a r =>
  cases j with
  | zero =>
   obtain rfl : a = t := Option.some.inj hj
   show t'.cap.length = a.cap.length
   rw [hc]
  | succ j => rfl
theorem fpushIf_nil {xs : List Int} {r : Bool} {u : Int} : flt.pushIf xs r u = [] ↔ xs = [] ∧ r = true := by
 unfold flt.pushIf
 cases r <;> simp
theorem insF_ty {x : Ins} {j : Nat} {t : Ty} (hj : x.types[j]? = some t) (hc : ¬ t.count = 0) (h : insF x = []) : insF { x with types := x.types.set j { t with count := t.count - 1 } } = [] := by
 rw [insF_nil] at h ⊢
 obtain ⟨h1, h2, h3, h4⟩ := h
 have hnm := map_set_same (f := fun o : Ty => o.name) (o' := { t with count := t.count - 1 }) hj rfl
 have hdm := dims_set (t' := { t with count := t.count - 1 }) hj rfl
 refine ⟨h1, ?_, ?_, h4⟩
 ·unfold insT at h2 ⊢
  rw [fltsTo_nil] at h2 ⊢
  obtain ⟨h5, h6⟩ := h2
  refine ⟨by show flt.inB ((x.types.set j _).length) 1 6 = true; rw [List.length_set]; exact h5, fun k p hk hp => ?_⟩
  have hdm' : flt.dimsN ({ x with types := x.types.set j { t with count := t.count - 1 } } : Ins).types = flt.dimsN x.types := hdm
  have hnm' : (({ x with types := x.types.set j { t with count := t.count - 1 } } : Ins).types).map (fun o : Ty => o.name) = x.types.map (fun o : Ty => o.name) := hnm
  rw [hdm', errsL_names hnm']
  have hp' : (x.types.set j { t with count := t.count - 1 })[k]? = some p := hp
  rw [List.getElem?_set] at hp'
  have hk' : k < (x.types.set j { t with count := t.count - 1 }).length := hk
  rw [List.length_set] at hk'
  split at hp'
  ·rename_i hjk
   subst hjk
   rw [if_pos hk'] at hp'
   obtain rfl := Option.some.inj hp'
   have h7 := h6 j t hk' hj
   unfold flt.errsL at h7 ⊢
   simp only [fpushIf_nil] at h7 ⊢
   refine ⟨⟨⟨⟨⟨⟨⟨h7.1.1.1.1.1.1.1, ?_⟩, h7.1.1.1.1.1.2⟩, h7.1.1.1.1.2⟩, h7.1.1.1.2⟩, h7.1.1.2⟩, h7.1.2⟩, h7.2⟩
   have h8 := h7.1.1.1.1.1.1.2
   unfold flt.inB at h8 ⊢
   rw [decide_eq_true_eq] at h8 ⊢
   omega
  ·exact h6 k p hk' hp'
 ·unfold insO at h3 ⊢
  have hdm' : flt.dimsN ({ x with types := x.types.set j { t with count := t.count - 1 } } : Ins).types = flt.dimsN x.types := hdm
  have hl' : ({ x with types := x.types.set j { t with count := t.count - 1 } } : Ins).types.length = x.types.length := List.length_set
  rw [hdm', hl']
  exact h3
theorem slTo_nil' {l : List Pt} : ∀ k, slTo l k = [] ↔ l.length ≤ 16 ∧ ∀ (j : Nat) p, j < k → l[j]? = some p → slBad l j p = false
 | 0 => by
  unfold slTo
  split
  ·rename_i h
   exact ⟨fun e => (by cases e), fun e => absurd e.1 (by omega)⟩
  ·rename_i h
   exact ⟨fun _ => ⟨by omega, fun j p hj => absurd hj (by omega)⟩, fun _ => rfl⟩
 | k + 1 => by
  rw [slTo, List.append_eq_nil_iff, slTo_nil' k]
  constructor
  ·rintro ⟨⟨h1, h2⟩, h3⟩
   refine ⟨h1, fun j p hj hp => ?_⟩
   rcases Nat.lt_or_ge j k with h | h
   ·exact h2 j p h hp
   ·obtain rfl : j = k := by omega
    unfold slAt at h3
    rw [hp] at h3
    unfold slP at h3
    dsimp only at h3
    split at h3
    ·cases h3
    ·rename_i h4
     simpa using h4
  ·rintro ⟨h1, h2⟩
   refine ⟨⟨h1, fun j p hj hp => h2 j p (by omega) hp⟩, ?_⟩
   unfold slAt
   split
   ·rename_i p hp
    unfold slP
    rw [if_neg (by rw [h2 k p (by omega) hp]; decide)]
   ·rfl
theorem slBad_no {l : List Pt} {j : Nat} {p : Pt} : slBad l j p = false ↔ (0 ≤ p.t ∧ p.t ≤ 4096) ∧ (0 ≤ p.a ∧ p.a ≤ 4096) ∧ (∀ k q, j = k + 1 → l[k]? = some q → q.t < p.t) := by
 have ht : ∀ n, win.tickB n = true ↔ 0 ≤ n ∧ n ≤ 4096 := fun n => by unfold win.tickB; rw [decide_eq_true_eq]
 unfold slBad
 rw [Bool.or_eq_false_iff, Bool.or_eq_false_iff, Bool.not_eq_false', Bool.not_eq_false', ht, ht]
 cases j with
 | zero =>
  constructor
  ·rintro ⟨h1, _, h2⟩
   exact ⟨h1, h2, fun k q e => by omega⟩
  ·rintro ⟨h1, h2, _⟩
   exact ⟨h1, rfl, h2⟩
 | succ k =>
  dsimp only
  constructor
  ·rintro ⟨h1, h3, h2⟩
   refine ⟨h1, h2, fun k' q e hq => ?_⟩
   obtain rfl : k = k' := by omega
   rw [hq] at h3
   dsimp only at h3
   rw [decide_eq_false_iff_not] at h3
   omega
  ·rintro ⟨h1, h2, h3⟩
   refine ⟨h1, ?_, h2⟩
   cases hq : l[k]? with
   | none => rfl
   | some q =>
    dsimp only
    rw [decide_eq_false_iff_not]
    have := h3 k q rfl hq
    omega
theorem late_snoc' (l' : List Pt) (p : Pt) (t n : Int) : lateF (l' ++ [p]) t n = if t < p.t then .error 2 else if t = p.t then (if 4096 < p.a + n then .error 2 else .ok (l' ++ [⟨p.t, p.a + n⟩])) else if 16 ≤ (l' ++ [p]).length then .error 4 else .ok (l' ++ [p] ++ [⟨t, n⟩]) := by
 have h1 : (l' ++ [p]).getLast? = some p := by simp
 have h2 : (l' ++ [p]).dropLast = l' := by simp
 unfold lateF
 rw [h1, h2]
theorem late_ok {l l' : List Pt} {t n : Int} (ht : 0 ≤ t ∧ t ≤ 4096) (hn : 0 ≤ n ∧ n ≤ 4096) (h : slTo l l.length = []) (hl : lateF l t n = .ok l') : slTo l' l'.length = [] := by
 rw [slTo_nil'] at h ⊢
 obtain ⟨h1, h2⟩ := h
 rcases List.eq_nil_or_concat l with rfl | ⟨m, p, rfl⟩
 ·have e : (Except.ok [⟨t, n⟩] : Except Int (List Pt)) = .ok l' := hl
  injection e with e
  subst e
  refine ⟨by simp, fun j q hj hq => ?_⟩
  obtain rfl : j = 0 := by simp at hj; omega
  obtain rfl := Option.some.inj hq
  rw [slBad_no]
  exact ⟨ht, hn, fun k q e => by omega⟩
 ·rw [List.concat_eq_append] at hl h1 h2
  rw [late_snoc'] at hl
  have hplast : (m ++ [p])[m.length]? = some p := by simp
  have hp := slBad_no.1 (h2 m.length p (by simp) hplast)
  split at hl
  ·cases hl
  split at hl
  ·split at hl
   ·cases hl
   rename_i h3 h4 h5
   injection hl with hl
   subst hl
   refine ⟨by simpa using h1, fun j q hj hq => ?_⟩
   rw [slBad_no]
   have hj' : j < m.length + 1 := by simpa using hj
   rcases Nat.lt_or_ge j m.length with hlt | hge
   ·rw [List.getElem?_append_left hlt] at hq
    have hq' : (m ++ [p])[j]? = some q := by rw [List.getElem?_append_left hlt]; exact hq
    obtain ⟨a1, a2, a3⟩ := slBad_no.1 (h2 j q (by simp; omega) hq')
    refine ⟨a1, a2, fun k r e hr => a3 k r e ?_⟩
    rw [List.getElem?_append_left (by omega)] at hr ⊢
    exact hr
   ·obtain rfl : j = m.length := by omega
    have : (m ++ [(⟨p.t, p.a + n⟩ : Pt)])[m.length]? = some ⟨p.t, p.a + n⟩ := by simp
    rw [this] at hq
    obtain rfl := Option.some.inj hq
    refine ⟨hp.1, ⟨by have := hp.2.1.1; dsimp only; omega, by dsimp only; omega⟩, fun k r e hr => ?_⟩
    refine hp.2.2 k r e ?_
    rw [List.getElem?_append_left (by omega)] at hr ⊢
    exact hr
  ·split at hl
   ·cases hl
   rename_i h3 h4 h5
   injection hl with hl
   subst hl
   refine ⟨by simp at h5 ⊢; omega, fun j q hj hq => ?_⟩
   rw [slBad_no]
   have hj' : j < (m ++ [p]).length + 1 := by simpa using hj
   rcases Nat.lt_or_ge j (m ++ [p]).length with hlt | hge
   ·rw [List.getElem?_append_left hlt] at hq
    obtain ⟨a1, a2, a3⟩ := slBad_no.1 (h2 j q hlt hq)
    refine ⟨a1, a2, fun k r e hr => a3 k r e ?_⟩
    rw [List.getElem?_append_left (by omega)] at hr
    exact hr
   ·obtain rfl : j = (m ++ [p]).length := by omega
    have : (m ++ [p] ++ [(⟨t, n⟩ : Pt)])[(m ++ [p]).length]? = some ⟨t, n⟩ := by simp
    rw [this] at hq
    obtain rfl := Option.some.inj hq
    refine ⟨ht, hn, fun k r e hr => ?_⟩
    have hk : k = m.length := by rw [List.length_append, List.length_singleton] at e; omega
    subst hk
    rw [List.getElem?_append_left (by simp), hplast] at hr
    obtain rfl := Option.some.inj hr
    show p.t < t
    omega
theorem slwTo_at {l : List Arc} {f t at_ n : Int} : ∀ {k : Nat} {r : List Arc} {b : Bool}, k ≤ l.length → slwTo l f t at_ n k = .ok (r, b) → r.length = k ∧ ∀ (j : Nat) a, j < k → l[j]? = some a → ∃ a', r[j]? = some a' ∧ ((way a f t = false ∧ a' = a) ∨ (way a f t = true ∧ ∃ s, lateF a.slow at_ n = .ok s ∧ a' = { a with slow := s }))
 | 0, r, b, _, h => by
  injection h with h
  injection h with h1 h2
  subst h1
  exact ⟨rfl, fun j a hj => absurd hj (by omega)⟩
 | k + 1, r, b, hk, h => by
  have hx := List.getElem?_eq_getElem (show k < l.length by omega)
  rw [slwTo] at h
  split at h
  ·cases h
  ·rename_i r0 b0 h0
   obtain ⟨ih1, ih2⟩ := slwTo_at (by omega) h0
   rw [hx] at h
   dsimp only at h
   have key : ∀ a', r = r0 ++ [a'] → ((way l[k] f t = false ∧ a' = l[k]) ∨ (way l[k] f t = true ∧ ∃ s, lateF l[k].slow at_ n = .ok s ∧ a' = { l[k] with slow := s })) → r.length = k + 1 ∧ ∀ (j : Nat) a, j < k + 1 → l[j]? = some a → ∃ a', r[j]? = some a' ∧ ((way a f t = false ∧ a' = a) ∨ (way a f t = true ∧ ∃ s, lateF a.slow at_ n = .ok s ∧ a' = { a with slow := s })) := by
    rintro a' rfl ha'
    refine ⟨by rw [List.length_append, ih1]; rfl, fun j a hj ha => ?_⟩
    rcases Nat.lt_or_ge j k with hlt | hge
    ·obtain ⟨a2, h2, h3⟩ := ih2 j a hlt ha
     exact ⟨a2, by rw [List.getElem?_append_left (by omega)]; exact h2, h3⟩
    ·obtain rfl : j = k := by omega
     rw [hx] at ha
     obtain rfl := Option.some.inj ha
     exact ⟨a', by rw [← ih1]; simp, ha'⟩
   split at h
   ·rename_i hw
    split at h
    ·cases h
    ·rename_i s hs
     injection h with h
     injection h with h1 h2
     exact key _ h1.symm (.inr ⟨hw, s, hs, rfl⟩)
   ·rename_i hw
    injection h with h
    injection h with h1 h2
    exact key _ h1.symm (.inl ⟨by simpa using hw, rfl⟩)
theorem netTo_iff {n : Net} : ∀ k, netTo n k = [] ↔ (plTo n.places n.places.length = [] ∧ n.arcs.length ≤ 1024) ∧ ∀ (j : Nat) a, j < k → n.arcs[j]? = some a → arcE n.places.length ((n.arcs.take j).map wayK) a = []
 | 0 => by
  rw [netTo, List.append_eq_nil_iff]
  constructor
  ·rintro ⟨h1, h2⟩
   refine ⟨⟨h1, ?_⟩, fun j a hj => absurd hj (by omega)⟩
   split at h2
   ·cases h2
   ·omega
  ·rintro ⟨⟨h1, h2⟩, _⟩
   exact ⟨h1, by rw [if_neg (by omega)]⟩
 | k + 1 => by
  rw [netTo, List.append_eq_nil_iff, netTo_iff k]
  constructor
  ·rintro ⟨⟨h1, h2⟩, h3⟩
   refine ⟨h1, fun j a hj ha => ?_⟩
   rcases Nat.lt_or_ge j k with hlt | hge
   ·exact h2 j a hlt ha
   ·obtain rfl : j = k := by omega
    unfold arAt at h3
    rw [ha] at h3
    exact List.map_eq_nil_iff.1 h3
  ·rintro ⟨h1, h2⟩
   refine ⟨⟨h1, fun j a hj ha => h2 j a (by omega) ha⟩, ?_⟩
   unfold arAt
   split
   ·rename_i a ha
    unfold arFs
    rw [h2 k a (by omega) ha]
    rfl
   ·rfl
theorem slw_ok {x : Ins} {N : Net} {f t at_ n : Int} (hn : 1 ≤ n ∧ n ≤ 4096) (h : insF x = []) (hs : slwF x.net f t at_ n = .ok N) : insF { x with net := N } = [] := by
 rw [insF_nil] at h ⊢
 obtain ⟨h1, h2, h3, h4⟩ := h
 unfold slwF at hs
 split at hs
 ·cases hs
 split at hs
 ·cases hs
 rename_i hpl htk
 split at hs
 ·cases hs
 rename_i r b hr
 split at hs
 rotate_left
 ·cases hs
 injection hs with hs
 subst hs
 have htk' : tkB at_ = true ∧ tkB n = true := Decidable.not_not.1 htk
 have ht : 0 ≤ at_ ∧ at_ ≤ 4096 := of_decide_eq_true htk'.1
 obtain ⟨hl, hat⟩ := slwTo_at (Nat.le_refl _) hr
 refine ⟨?_, h2, h3, h4⟩
 unfold insN at h1 ⊢
 rw [netTo_iff] at h1 ⊢
 obtain ⟨⟨h5, h6⟩, h7⟩ := h1
 have hways : r.map wayK = x.net.arcs.map wayK := by
  apply List.ext_getElem?
  intro k
  rw [List.getElem?_map, List.getElem?_map]
  rcases Nat.lt_or_ge k x.net.arcs.length with hk | hk
  ·obtain ⟨a', h8, h9⟩ := hat k _ hk (List.getElem?_eq_getElem hk)
   rw [h8, List.getElem?_eq_getElem hk]
   rcases h9 with ⟨_, rfl⟩ | ⟨_, s, _, rfl⟩ <;> rfl
  ·rw [List.getElem?_eq_none (by omega), List.getElem?_eq_none (by omega)]
 refine ⟨⟨h5, by show r.length ≤ 1024; omega⟩, fun j a' hj ha' => ?_⟩
 have hjr : j < x.net.arcs.length := by have : j < r.length := hj; omega
 have hx := List.getElem?_eq_getElem hjr
 have h10 := h7 j _ hjr hx
 have ha'' : r[j]? = some a' := ha'
 have hw : (r.take j).map wayK = (x.net.arcs.take j).map wayK := by rw [List.map_take, List.map_take, hways]
 show arcE x.net.places.length ((r.take j).map wayK) a' = []
 rw [hw]
 obtain ⟨a2, h8, h9⟩ := hat j _ hjr hx
 rw [h8] at ha''
 obtain rfl := Option.some.inj ha''
 rcases h9 with ⟨_, rfl⟩ | ⟨_, s, hs, rfl⟩
 ·exact h10
 ·unfold arcE at h10 ⊢
  rw [List.append_eq_nil_iff] at h10 ⊢
  exact ⟨h10.1, late_ok ht (by omega) h10.2 hs⟩
theorem hap_ok {x y : Ins} {e : Evt} (h : insF x = []) (hy : hapF x e = .ok y) : insF y = [] := by
 unfold hapF at hy
 split at hy
 ·split at hy
  ·cases hy
  ·split at hy
   ·rename_i h0
    injection hy with hy
    subst hy
    obtain ⟨h1, h2⟩ := addR_ok' h0
    rw [h1]; exact h2
   ·cases hy
 split at hy
 ·split at hy
  ·cases hy
  ·rename_i hn
   split at hy
   ·cases hy
   ·rename_i N hN
    injection hy with hy
    subst hy
    exact slw_ok (Decidable.not_not.1 hn) h hN
 split at hy
 ·split at hy
  ·cases hy
  ·split at hy
   ·cases hy
   ·rename_i t ht
    split at hy
    ·cases hy
    ·rename_i hc
     injection hy with hy
     subst hy
     exact insF_ty ht hc h
 split at hy
 ·cases hy
 split at hy
 ·cases hy
 rename_i o ho
 split at hy
 ·injection hy with hy
  subst hy
  exact insF_set ho rfl h (fun P d t he => he)
 split at hy
 ·rename_i hb
  rw [Bool.and_eq_true] at hb
  injection hy with hy
  subst hy
  exact insF_set ho rfl h (fun P d t he => errsO_shf he hb.1 hb.2)
 ·cases hy
end Go.Proofs.YtofabhenmplkoaaGreatDoor.evt

/- short of the laws of events. -/
namespace Go.Proofs.YtofabhenmplkoaaGreatDoor.evt
open Go.RowKit
open lib rd app els typ big ins ord
open gen hiding zOrd bOrd
def shrB (e : Evt) : Bool := decide (e.order.name.size ≤ 100 ∧ e.order.load.length ≤ 6)
theorem short_any (e : Evt) (C : Option Addr) (c : Nat) (w : World) : Calls Tryz.prog 21 #[.agg (z8 e C c).toArray] w fun en w' => en = .returned (.bool (shrB e)) ∧ Below w.heap.size w w' := by
 obtain ⟨R, hR⟩ : ∃ R, shrB e = R := ⟨_, rfl⟩
 rw [hR]
 have HR := Lib.hid hR
 clear hR
 show Calls Tryz.prog 21 #[.agg #[.int .i64 e.at_, .int .i64 e.kind, .int .i64 e.a, .int .i64 e.b, .int .i64 e.n, .string e.order.name, .slice C e.order.load.length c, .int .i64 e.order.pick.place, .int .i64 e.order.pick.opn, .int .i64 e.order.pick.close, .int .i64 e.order.pick.service, .int .i64 e.order.drop.place, .int .i64 e.order.drop.opn, .int .i64 e.order.drop.close, .int .i64 e.order.drop.service, .int .i64 e.order.skills, .int .i64 e.order.penalty, .int .i64 e.order.split, .int .i64 e.order.last, .int .i64 e.order.now, .bool e.order.off]] w _
 obtain ⟨W0, hW0⟩ : ∃ W0, w.alloc (.cells (z8 e C c).toArray 37) = W0 := ⟨_, rfl⟩
 have hB0 : Below w.heap.size w W0 := by rw [← hW0]; exact (Below.refl _ _).alloc (Nat.le_refl _) _
 have z0 := hB0.size
 have b0 : Blk W0 w.heap.size 37 (z8 e C c) := by rw [← hW0]; exact Blk.new w _ _
 have HE0 := Lib.hid b0
 have hW1 : w.alloc (.cells #[.int .i64 e.at_, .int .i64 e.kind, .int .i64 e.a, .int .i64 e.b, .int .i64 e.n, .string e.order.name, .slice C e.order.load.length c, .int .i64 e.order.pick.place, .int .i64 e.order.pick.opn, .int .i64 e.order.pick.close, .int .i64 e.order.pick.service, .int .i64 e.order.drop.place, .int .i64 e.order.drop.opn, .int .i64 e.order.drop.close, .int .i64 e.order.drop.service, .int .i64 e.order.skills, .int .i64 e.order.penalty, .int .i64 e.order.split, .int .i64 e.order.last, .int .i64 e.order.now, .bool e.order.off] 37) = W0 := hW0
 have HW1 := Lib.hid hW1
 have c0 := b0.cell (j := 0) rfl
 have c1 := b0.cell (j := 1) rfl
 have c2 := b0.cell (j := 2) rfl
 have c3 := b0.cell (j := 3) rfl
 have c4 := b0.cell (j := 4) rfl
 clear hW0 hW1 b0
 have c5 : W0.cell? ⟨w.heap.size, 5, none⟩ = some (.string e.order.name) := HE0.out.cell rfl
 have c6 : W0.cell? ⟨w.heap.size, 6, none⟩ = some (.slice C e.order.load.length c) := HE0.out.cell rfl
 have HB0 := Lib.hid hB0
 clear hB0
 go_enter Tryz.func21, Tryz.ntmps21
 go_upto_region 1 with fail
 rw [HW1.out]
 clear HW1
 obtain ⟨a, ha⟩ : ∃ a, e.order.name.size = a := ⟨_, rfl⟩
 obtain ⟨b, hb⟩ : ∃ b, e.order.load.length = b := ⟨_, rfl⟩
 have HS : Hid (R = decide (a ≤ 100 ∧ b ≤ 6)) := Lib.hid (by rw [← HR.out, ← ha, ← hb]; rfl)
 by_cases h1 : a ≤ 100
 ·by_cases h2 : b ≤ 6
  ·have HS2 : Hid (R = true) := Lib.hid (by rw [HS.out, decide_eq_true ⟨h1, h2⟩])
   have h1i : (a : Int) ≤ 100 := by omega
   have h2i : (b : Int) ≤ 6 := by omega
   go_wp2
   go_ret
   exact ⟨by rw [HS2.out]; rfl, HB0.out⟩
  ·have HS2 : Hid (R = false) := Lib.hid (by rw [HS.out]; exact decide_eq_false (fun h => h2 h.2))
   have h1i : (a : Int) ≤ 100 := by omega
   have h2i : ¬ (b : Int) ≤ 6 := by omega
   go_wp2
   go_ret
   exact ⟨by rw [HS2.out]; rfl, HB0.out⟩
 ·have HS2 : Hid (R = false) := Lib.hid (by rw [HS.out]; exact decide_eq_false (fun h => h1 h.1))
  have h1i : ¬ (a : Int) ≤ 100 := by omega
  go_wp2
  go_ret
  exact ⟨by rw [HS2.out]; rfl, HB0.out⟩
end Go.Proofs.YtofabhenmplkoaaGreatDoor.evt

/- few of the laws of events. -/
namespace Go.Proofs.YtofabhenmplkoaaGreatDoor.evt
open Go.RowKit
open lib rd app els typ big ord flts
open ins hiding zOrd bOrd
open gen hiding zOrd bOrd
set_option maxRecDepth 20000 in
set_option maxHeartbeats 4000000 in
theorem few_any (x : Ins) (P : InP) (e : Evt) (C : Option Addr) (c : Nat) (w : World) (h : InAt w w.heap.size x P) (hl : RLim x) :
  Calls Tryz.prog 13 #[InV x P, .agg (z8 e C c).toArray] w fun en w' => en = .returned (.bool (shrB e && decide (insF x = []))) ∧ Below w.heap.size w w' := by
 show Calls Tryz.prog 13 #[InV x P, .agg #[.int .i64 e.at_, .int .i64 e.kind, .int .i64 e.a, .int .i64 e.b, .int .i64 e.n, .string e.order.name, .slice C e.order.load.length c, .int .i64 e.order.pick.place, .int .i64 e.order.pick.opn, .int .i64 e.order.pick.close, .int .i64 e.order.pick.service, .int .i64 e.order.drop.place, .int .i64 e.order.drop.opn, .int .i64 e.order.drop.close, .int .i64 e.order.drop.service, .int .i64 e.order.skills, .int .i64 e.order.penalty, .int .i64 e.order.split, .int .i64 e.order.last, .int .i64 e.order.now, .bool e.order.off]] w _
 obtain ⟨fs, hfs⟩ : ∃ fs, insF x = fs := ⟨_, rfl⟩
 rw [hfs]
 have HFS := Lib.hid hfs
 clear hfs
 obtain ⟨W0, hW0⟩ : ∃ W0, (w.alloc (.cells (insCs x P).toArray 30)).alloc (.cells (z8 e C c).toArray 37) = W0 := ⟨_, rfl⟩
 have hB0 : Below w.heap.size w W0 := by rw [← hW0]; exact ((Below.refl _ _).alloc (Nat.le_refl _) _).alloc (by simp) _
 have z0 : W0.heap.size = w.heap.size + 2 := by rw [← hW0]; simp
 have b0 : Blk W0 w.heap.size 30 (insCs x P) := by
  rw [← hW0]
  exact (Blk.new w _ _).kept (World.grownBy_alloc _ _ none) (by simp)
 have b1 : Blk W0 (w.heap.size + 1) 37 (z8 e C c) := by
  rw [← hW0]
  have h := Blk.new (w.alloc (.cells (insCs x P).toArray 30)) 37 (z8 e C c)
  rw [show (w.alloc (.cells (insCs x P).toArray 30)).heap.size = w.heap.size + 1 by simp] at h
  exact h
 have hW1 : (w.alloc (.cells #[.slice P.a0 x.net.places.length P.c0, .slice P.a1 x.net.arcs.length P.c1, .slice P.a2 x.types.length P.c2, .slice P.a3 x.orders.length P.c3, .slice P.a4 x.apart.length P.c4, .slice P.a5 x.before.length P.c5] 30)).alloc (.cells #[.int .i64 e.at_, .int .i64 e.kind, .int .i64 e.a, .int .i64 e.b, .int .i64 e.n, .string e.order.name, .slice C e.order.load.length c, .int .i64 e.order.pick.place, .int .i64 e.order.pick.opn, .int .i64 e.order.pick.close, .int .i64 e.order.pick.service, .int .i64 e.order.drop.place, .int .i64 e.order.drop.opn, .int .i64 e.order.drop.close, .int .i64 e.order.drop.service, .int .i64 e.order.skills, .int .i64 e.order.penalty, .int .i64 e.order.split, .int .i64 e.order.last, .int .i64 e.order.now, .bool e.order.off] 37) = W0 := hW0
 have HX := Lib.hid (fun w' (h' : Below W0.heap.size W0 w') => And.intro (b0.below h') (b1.below h'))
 have HI := Lib.hid (fun w' (h' : Below w.heap.size w w') => h.go h')
 have HW1 := Lib.hid hW1
 have C0 := Below.refl W0.heap.size W0
 clear hW0 hW1 b0 b1
 simp only [InV]
 have HL := Lib.hid hl
 have HX0 := Lib.hid (HX.out _ C0)
 obtain ⟨sh, hsh⟩ : ∃ b, shrB e = b := ⟨_, rfl⟩
 have hs := short_any e C c W0
 rw [hsh] at hs ⊢
 clear hl h hsh
 go_enter Tryz.func13, Tryz.ntmps13
 go_upto_region 1 with fail
 rw [HW1.out]
 clear HW1
 go_wp2_with ((with_reducible refine zH stEvt _ rfl ⟨(w.heap.size + 1), 0, none⟩ (z8 e C c) ?_ ?_ ?_ ?_ ?_); exact rfl; exact rfl; exact HX0.out.2.cells; exact rfl)
 refine hs.mono ?_
 rintro e9 w1 ⟨rfl, b1⟩
 have HB1 := Lib.hid (hB0.trans (b1.mono (by omega)))
 have HX1 := Lib.hid (HX.out _ b1)
 clear b1 hs HX0
 cases sh
 ·go_wp2_with fail
  go_ret
  exact ⟨rfl, HB1.out⟩
 go_wp2_with ((with_reducible refine zH stIns _ rfl ⟨w.heap.size, 0, none⟩ (insCs (x) P) ?_ ?_ ?_ ?_ ?_); exact rfl; exact rfl; exact HX1.out.1.cells; exact rfl)
 refine (richeck_any x P w1 (HI.out _ HB1.out) HL.out).mono ?_
 rw [HFS.out]
 rintro e8 w2 ⟨A, c', rfl, -, b2⟩
 have HB2 := Lib.hid (HB1.out.trans (b2.mono HB1.out.size))
 clear b2
 cases fs with
 | nil =>
  go_wp2_with fail
  go_ret
  exact ⟨ret_bool (by simp), HB2.out⟩
 | cons f fs =>
  have hne : ¬ (((f :: fs).length : Nat) : Int) = 0 := by simp only [List.length_cons]; omega
  go_wp2_with fail
  go_ret
  exact ⟨ret_bool (by rw [Bool.true_and, decide_eq_false (show ¬ (f :: fs) = [] by simp), beq_eq_false_iff_ne]; omega), HB2.out⟩
end Go.Proofs.YtofabhenmplkoaaGreatDoor.evt

/- Bulk: what a reading that is small says of what is read. Portable (seats that have the second form). -/
namespace Go.Proofs.YtofabhenmplkoaaGreatDoor.rd
open Go.RowKit Go.ChangeShapes Go.WideShapes Go.ChangeAt Go.Deep
open lib
theorem bulk_pos {H : Type} (d : DataW H) : 1 ≤ Rows.uptoBulk d := by
 cases d with
 | lit l => cases l <;> simp [Rows.uptoBulk]
 | nil => simp [Rows.uptoBulk]
 | ptr d => simp [Rows.uptoBulk]
 | slice elems spare => simp [Rows.uptoBulk]
 | agg parts => simp [Rows.uptoBulk]
 | iface t d => simp [Rows.uptoBulk]
 | map entries => simp [Rows.uptoBulk]
 | held h => simp [Rows.uptoBulk]
theorem bulk_cons {H : Type} (d : DataW H) (l : List (DataW H)) : Rows.uptoBulkAll (d :: l) = Rows.uptoBulk d + Rows.uptoBulkAll l := by simp [Rows.uptoBulkAll]
theorem bulk_part {H : Type} {d : DataW H} {l : List (DataW H)} (h : d ∈ l) : Rows.uptoBulk d ≤ Rows.uptoBulkAll l := by
 induction l with
 | nil => cases h
 | cons x r ih =>
  rw [bulk_cons]
  cases List.mem_cons.1 h with
  | inl e => subst e; omega
  | inr e => have := ih e; omega
theorem bulk_sum {X H : Type} {μ : X → Nat} {D : Nat → DataW H} : ∀ (l : List X) (k : Nat), (∀ (i : Nat) x, l[i]? = some x → μ x ≤ Rows.uptoBulk (D (k + i))) → (l.map μ).sum ≤ Rows.uptoBulkAll ((List.range' k l.length).map D)
 | [], k, _ => by simp
 | x :: l, k, h => by
  have h0 := h 0 x rfl
  have ih := bulk_sum (D := D) l (k + 1) (fun i y hy => by
   have := h (i + 1) y hy
   rw [show k + (i + 1) = k + 1 + i by omega] at this
   exact this)
  rw [List.map_cons, List.sum_cons, List.length_cons, List.range'_succ, List.map_cons, bulk_cons]
  rw [Nat.add_zero] at h0
  omega
theorem bulk_len {H : Type} (l : List (DataW H)) : l.length ≤ Rows.uptoBulkAll l := by
 induction l with
 | nil => simp
 | cons x r ih => have := bulk_pos x; rw [bulk_cons, List.length_cons]; omega
def OpensB {X : Type} (t : TypeId) (r : Rd X) (μ : X → Nat) : Prop :=
 ∀ (H : Type) (enc : TypeId × Value → H) (W : World) (fuel : Nat) (cs : List Value) (y : DataW H × List MemPlace),
  DataW.trod enc Tryz.prog W 0 (fun _ => true) true fuel t cs = some y → (∀ n ∈ y.1.weights Tryz.prog t, n ≤ reachBytes) → ∃ x, r.at_ W W.heap.size cs x ∧ μ x ≤ Rows.uptoBulk y.1
theorem opensB_of {X : Type} {t : TypeId} {r : Rd X} (h : Opens t r) : OpensB t r (fun _ => 0) := fun H enc W fuel cs y h1 h2 => by
 obtain ⟨x, hx⟩ := h H enc W fuel cs y h1 h2
 exact ⟨x, hx, Nat.zero_le _⟩
theorem opensB_slice {X : Type} {t e : TypeId} {r : Rd X} {μ : X → Nat} (ht : Tryz.prog.underlying t = some (.slice e)) (hC : Tryz.prog.cellsOf e = r.size) (hz : 0 < r.size) (h8 : 8 ≤ Tryz.prog.bytesOf e) (hr : OpensB e r μ) : OpensB t (rSlice r) (fun l => max l.length (l.map μ).sum) := fun H enc W fuel cs y h hw => by
 rcases open_slice ht h with ⟨rfl, rfl⟩ | ⟨a, len, cap, m, n, D, Pl, rfl, hb, hl, hm, hmm, rfl, hi⟩
 ·exact ⟨[], ⟨none, 0, rfl, RowAt.nil⟩, by simp⟩
 ·simp only [if_true] at hmm
  subst hmm
  have hlen : len ≤ 17592186043904 := by
   have h1 := hw ((((List.range len).map D).length + ((List.range (m - len)).map fun j => D (len + j)).length) * Tryz.prog.bytesOf e) (by simp [DataW.weights, ht])
   simp only [List.length_map, List.length_range, reachBytes] at h1
   have h2 : (len + (m - len)) * 8 ≤ (len + (m - len)) * Tryz.prog.bytesOf e := Nat.mul_le_mul_left _ h8
   omega
  obtain ⟨l, hll, hlp⟩ := choose_list (n := len) (p := fun i x => (∃ cs', W.cells? 0 (a.add (i * Tryz.prog.cellsOf e)) (Tryz.prog.cellsOf e) = some cs' ∧ r.at_ W W.heap.size cs' x) ∧ μ x ≤ Rows.uptoBulk (D i)) fun i hil => by
   obtain ⟨cs', h1, h2⟩ := hi i (by omega)
   obtain ⟨x, hx, hμ⟩ := hr H enc W n cs' _ h2 (fun k hk => hw k (by
    simp only [DataW.weights, ht]
    exact List.mem_cons_of_mem _ (List.mem_append_left _ (weights_all (List.mem_map.2 ⟨i, List.mem_range.2 hil, rfl⟩) k hk))))
   exact ⟨x, ⟨cs', h1, hx⟩, hμ⟩
  subst hll
  refine ⟨l, ⟨some a, _, rfl, hlen, fun i x hix => ?_⟩, ?_⟩
  ·obtain ⟨⟨cs', h1, h2⟩, _⟩ := hlp i x hix
   obtain ⟨_, h4, h5⟩ := World.cells?_some h1
   rw [hC] at h4 h5
   have hcell : ∀ (j : Nat) (u : Value), cs'[j]? = some u → W.cell? (a.add (i * r.size + j)) = some u := fun j u hu => by
    have hj : j < r.size := by rw [← h4]; exact (List.getElem?_eq_some_iff.1 hu).1
    rw [← add_of_add]
    exact (h5 j hj).trans hu
   refine ⟨a, cs', rfl, ?_, h2, hcell⟩
   have hpos : 0 < l.length := Nat.lt_of_le_of_lt (Nat.zero_le i) (List.getElem?_eq_some_iff.1 hix).1
   have hu : cs'[0]? = some (cs'[0]'(by omega)) := List.getElem?_eq_getElem (by omega)
   have h6 := Go.block_lt_of_cell (hcell 0 _ hu)
   rwa [block_of_add] at h6
  ·have h3 := bulk_sum (μ := μ) (D := D) l 0 (fun i x hx => by rw [Nat.zero_add]; exact (hlp i x hx).2)
   rw [← List.range_eq_range'] at h3
   have h4 := bulk_len ((List.range l.length).map D)
   rw [List.length_map, List.length_range] at h4
   have h5 : Rows.uptoBulk (DataW.slice ((List.range l.length).map D) ((List.range (m - l.length)).map fun j => D (l.length + j))) = Rows.uptoBulkAll ((List.range l.length).map D) + Rows.uptoBulkAll ((List.range (m - l.length)).map fun j => D (l.length + j)) + 1 := by simp [Rows.uptoBulk]
   show max l.length (l.map μ).sum ≤ _
   rw [h5]
   omega
theorem opensB_sliceC {X : Type} {t e : TypeId} {r : Rd X} {μ : X → Nat} (ht : Tryz.prog.underlying t = some (.slice e)) (hC : Tryz.prog.cellsOf e = r.size) (hz : 0 < r.size) (h8 : 8 ≤ Tryz.prog.bytesOf e) (hr : OpensB e r μ) : OpensB t (rSliceC r) (fun l => max l.length (l.map μ).sum) := fun H enc W fuel cs y h hw => by
 obtain ⟨l, ⟨A, c, rfl, hl⟩, hb⟩ := opensB_slice ht hC hz h8 hr H enc W fuel cs y h hw
 refine ⟨l, ⟨A, c, rfl, hl, ?_⟩, hb⟩
 rcases open_slice ht h with ⟨hcs, _⟩ | ⟨a, len, cap, m, n, D, Pl, hcs, _, hle, _⟩
 ·simp at hcs
  obtain ⟨_, h2, h3⟩ := hcs
  rw [h2]
  exact Nat.zero_le _
 ·simp at hcs
  obtain ⟨_, h2, h3⟩ := hcs
  omega
theorem opensB_map {X Y : Type} {t : TypeId} {r : Rd X} {μ : X → Nat} {ν : Y → Nat} (f : X → Y) (hν : ∀ x, ν (f x) ≤ μ x) (h : OpensB t r μ) : OpensB t (rMap r f) ν := fun H enc W fuel cs y h1 h2 => by
 obtain ⟨x, hx, hb⟩ := h H enc W fuel cs y h1 h2
 exact ⟨f x, ⟨x, rfl, hx⟩, Nat.le_trans (hν x) hb⟩
theorem opensB_weak {X : Type} {t : TypeId} {r : Rd X} {μ ν : X → Nat} (hν : ∀ x, ν x ≤ μ x) (h : OpensB t r μ) : OpensB t r ν := fun H enc W fuel cs y h1 h2 => by
 obtain ⟨x, hx, hb⟩ := h H enc W fuel cs y h1 h2
 exact ⟨x, hx, Nat.le_trans (hν x) hb⟩
def FieldsOpenB {X : Type} (fs : List Field) (off : Nat) (r : Rd X) (μ : X → Nat) : Prop :=
 ∀ (H : Type) (enc : TypeId × Value → H) (W : World) (n : Nat) (cs : List Value) (xs : List (DataW H × List MemPlace)), cs.length = off + r.size → xs.length = fs.length →
  (∀ (i : Nat) (f : Field), fs[i]? = some f → DataW.trod enc Tryz.prog W 0 (fun _ => true) true n f.type ((cs.drop f.offset).take (Tryz.prog.cellsOf f.type)) = xs[i]?) →
  (∀ k ∈ DataW.weightsEach Tryz.prog (fs.map (·.type)) (xs.map (·.1)), k ≤ reachBytes) → ∃ x, r.at_ W W.heap.size (cs.drop off) x ∧ μ x ≤ Rows.uptoBulkAll (xs.map (·.1))
theorem fieldsOpenB_one {X : Type} {f : Field} {off : Nat} {r : Rd X} {μ : X → Nat} (ho : f.offset = off) (hC : Tryz.prog.cellsOf f.type = r.size) (hr : OpensB f.type r μ) : FieldsOpenB [f] off r μ := fun H enc W n cs xs hcs hxs hf hw => by
 rcases xs with _ | ⟨y, _ | ⟨z, xs⟩⟩
 ·simp at hxs
 ·have h0 := hf 0 f rfl
  rw [ho, hC, List.take_of_length_le (by rw [List.length_drop]; omega)] at h0
  obtain ⟨x, hx, hb⟩ := hr H enc W n _ y h0 fun k hk => hw k (by simp [DataW.weightsEach, hk])
  exact ⟨x, hx, by simpa [Rows.uptoBulkAll] using hb⟩
 ·simp at hxs
theorem zZ {X Y : Type} {f : Field} {fs : List Field} {off : Nat} {r : Rd X} {q : Rd Y} {μ : X → Nat} {ν : Y → Nat} (ho : f.offset = off) (hC : Tryz.prog.cellsOf f.type = r.size) (hr : OpensB f.type r μ) (hq : FieldsOpenB fs (off + r.size) q ν) : FieldsOpenB (f :: fs) off (rPair r q) (fun x => μ x.1 + ν x.2) := fun H enc W n cs xs hcs hxs hf hw => by
 rcases xs with _ | ⟨y, ys⟩
 ·simp at hxs
 ·have h0 := hf 0 f rfl
  rw [ho, hC] at h0
  obtain ⟨x, hx, hbx⟩ := hr H enc W n _ y h0 fun k hk => hw k (by simp [DataW.weightsEach, hk])
  have hcs' : cs.length = off + (r.size + q.size) := hcs
  obtain ⟨z, hz, hbz⟩ := hq H enc W n cs ys (by omega) (by simpa using hxs) (fun i f' hi => hf (i + 1) f' hi) fun k hk => hw k (by simp only [List.map_cons, DataW.weightsEach, List.mem_append]; exact .inr hk)
  refine ⟨(x, z), ⟨_, _, ?_, hx, hz⟩, ?_⟩
  ·rw [← List.drop_drop, List.take_append_drop]
  ·rw [List.map_cons, bulk_cons]
   exact Nat.add_le_add hbx hbz
theorem opensB_struct {X : Type} {t : TypeId} {fs : Array Field} {r : Rd X} {μ : X → Nat} (ht : Tryz.prog.underlying t = some (.struct fs)) (hC : Tryz.prog.cellsOf t = r.size) (hf : FieldsOpenB fs.toList 0 r μ) : OpensB t r μ := fun H enc W fuel cs y h hw => by
 obtain ⟨xs, n, _, rfl, hcs, hlen, hfs⟩ := DataW.trod_struct ht h
 obtain ⟨x, hx, hb⟩ := hf H enc W n cs xs (by omega) (by simpa using hlen) (fun i f hi => hfs i f (by simpa using hi)) fun k hk => hw k (by simpa [DataW.weights, ht] using hk)
 refine ⟨x, hx, ?_⟩
 have e : Rows.uptoBulk (DataW.agg (xs.map (·.1))) = Rows.uptoBulkAll (xs.map (·.1)) + 1 := by simp [Rows.uptoBulk]
 show μ x ≤ Rows.uptoBulk _
 rw [e]
 omega
theorem bulk_sum_mem {X : Type} {μ : X → Nat} {l : List X} {x : X} (h : x ∈ l) : μ x ≤ (l.map μ).sum := by
 induction l with
 | nil => cases h
 | cons y l ih =>
  rw [List.map_cons, List.sum_cons]
  rcases List.mem_cons.1 h with e | e
  ·subst e; omega
  ·have := ih e; omega
set_option maxRecDepth 20000 in
theorem arg_structB {X : Type} {t : TypeId} {fs : Array Field} {r : Rd X} {μ : X → Nat} (ht : Tryz.prog.underlying t = some (.struct fs)) (ho : OpensB t r μ) {H : Type} {enc : TypeId × Value → H} {W : World} {base : Nat} {v : Value} {d : DataW H} {p : List MemPlace}
  (hv : Value.okWide Tryz.prog W .any base t v) (h : DataW.Trod enc Tryz.prog W 0 (fun _ => true) true t v d p) (hw : ∀ n ∈ d.weights Tryz.prog t, n ≤ reachBytes) :
  ∃ cs x, v = .agg (List.toArray cs) ∧ r.at_ W W.heap.size cs x ∧ μ x ≤ Rows.uptoBulk d := by
 obtain ⟨cs, rfl, _⟩ := okWide_struct ht hv
 obtain ⟨fuel, hf⟩ := h
 obtain ⟨x, hx, hb⟩ := ho H enc W fuel _ _ hf hw
 exact ⟨cs.toList, x, by simp, by simpa [Value.cells] using hx, hb⟩
end Go.Proofs.YtofabhenmplkoaaGreatDoor.rd

/- Bulk: an instance whose reading is small. -/
namespace Go.Proofs.YtofabhenmplkoaaGreatDoor.typ
open Go.RowKit
open lib rd
def muPts (a : Arc) : Nat := a.travel.length + a.slow.length
def muNet (n : Net) : Nat := n.places.length + max n.arcs.length ((n.arcs.map muPts).sum)
def muIns (x : Ins) : Nat := muNet x.net + (x.types.length + (x.orders.length + (x.apart.length + x.before.length)))
theorem opensB_len {X : Type} {t e : TypeId} {r : Rd X} (ht : Tryz.prog.underlying t = some (.slice e)) (hC : Tryz.prog.cellsOf e = r.size) (hz : 0 < r.size) (h8 : 8 ≤ Tryz.prog.bytesOf e) (hr : Opens e r) : OpensB t (rSlice r) (fun l => l.length) := opensB_weak (fun l => Nat.le_max_left _ _) (opensB_slice ht hC hz h8 (opensB_of hr))
theorem opensB_lenC {X : Type} {t e : TypeId} {r : Rd X} (ht : Tryz.prog.underlying t = some (.slice e)) (hC : Tryz.prog.cellsOf e = r.size) (hz : 0 < r.size) (h8 : 8 ≤ Tryz.prog.bytesOf e) (hr : Opens e r) : OpensB t (rSliceC r) (fun l => l.length) := opensB_weak (fun l => Nat.le_max_left _ _) (opensB_sliceC ht hC hz h8 (opensB_of hr))
set_option maxRecDepth 20000 in
theorem opensB_Arc : OpensB 59 rArc muPts := opensB_map (μ := fun x => 0 + (0 + (0 + (0 + (x.2.2.2.2.1.length + x.2.2.2.2.2.length))))) _ (fun x => by show muPts _ ≤ _; unfold muPts; simp) (opensB_struct Tryz.underlying59 (by kernel_rfl) (zZ rfl (by kernel_rfl) (opensB_of (zM Tryz.underlying3)) (zZ rfl (by kernel_rfl) (opensB_of (zM Tryz.underlying3)) (zZ rfl (by kernel_rfl) (opensB_of (zM Tryz.underlying3)) (zZ rfl (by kernel_rfl) (opensB_of (zM Tryz.underlying3)) (zZ rfl (by kernel_rfl) (opensB_len Tryz.underlying57 (by kernel_rfl) (by decide) (of_decide_eq_true (by kernel_rfl)) opens_Pt) (fieldsOpenB_one rfl (by kernel_rfl) (opensB_len Tryz.underlying57 (by kernel_rfl) (by decide) (of_decide_eq_true (by kernel_rfl)) opens_Pt))))))))
set_option maxRecDepth 20000 in
theorem opensB_Net : OpensB 25 rNet muNet := opensB_map (μ := fun x => x.1.length + max x.2.length ((x.2.map muPts).sum)) _ (fun x => Nat.le_refl _) (opensB_struct Tryz.underlying25 (by kernel_rfl) (zZ rfl (by kernel_rfl) (opensB_len Tryz.underlying22 (by kernel_rfl) (by decide) (of_decide_eq_true (by kernel_rfl)) (opens_str Tryz.underlying9)) (fieldsOpenB_one rfl (by kernel_rfl) (opensB_slice Tryz.underlying23 (by kernel_rfl) (by decide) (of_decide_eq_true (by kernel_rfl)) opensB_Arc))))
set_option maxRecDepth 20000 in
theorem opensB_Ins : OpensB 30 rIns muIns := opensB_map (μ := fun x => muNet x.1 + (x.2.1.length + (x.2.2.1.length + (x.2.2.2.1.length + x.2.2.2.2.length)))) _ (fun x => Nat.le_refl _) (opensB_struct Tryz.underlying30 (by kernel_rfl) (zZ rfl (by kernel_rfl) opensB_Net (zZ rfl (by kernel_rfl) (opensB_lenC Tryz.underlying26 (by kernel_rfl) (by decide) (of_decide_eq_true (by kernel_rfl)) opens_Ty) (zZ rfl (by kernel_rfl) (opensB_lenC Tryz.underlying27 (by kernel_rfl) (by decide) (of_decide_eq_true (by kernel_rfl)) opens_Ord) (zZ rfl (by kernel_rfl) (opensB_lenC Tryz.underlying28 (by kernel_rfl) (by decide) (of_decide_eq_true (by kernel_rfl)) (opens_two Tryz.underlying116 (by kernel_rfl) (by kernel_rfl) (zM Tryz.underlying3))) (fieldsOpenB_one rfl (by kernel_rfl) (opensB_lenC Tryz.underlying28 (by kernel_rfl) (by decide) (of_decide_eq_true (by kernel_rfl)) (opens_two Tryz.underlying116 (by kernel_rfl) (by kernel_rfl) (zM Tryz.underlying3)))))))))
end Go.Proofs.YtofabhenmplkoaaGreatDoor.typ
namespace Go.Proofs.YtofabhenmplkoaaGreatDoor.ins
open Go.RowKit
open lib rd typ
theorem arcE_le (P : Int) (ks : List (Int × Int × Int)) (x : Arc) : (net.arcE P ks x).length ≤ 5 + 2 * muPts x := by
 unfold net.arcE muPts
 rw [List.length_append, List.length_append, List.length_map]
 have h1 := net.pushIf_le _ (!mrk.hasB ks (net.wayK x)) 6 2 (net.pushIf_le _ (!net.arcBad x) 2 1 (net.pushIf_le [] (net.arcOk P x) 11 0 (Nat.le_refl _)))
 have h2 := trv.tvTo_len x.travel x.travel.length
 have h3 := net.slTo_len x.slow x.slow.length
 omega
theorem netTo_le (n : Net) : ∀ j, (net.netTo n j).length ≤ 2 + n.places.length + 5 * j + 2 * ((n.arcs.take j).map muPts).sum
 | 0 => by
  have := net.plTo_len n.places n.places.length
  unfold net.netTo
  rw [List.length_append]
  split <;> simp <;> omega
 | j + 1 => by
  have ih := netTo_le n j
  rw [net.netTo, List.length_append]
  unfold net.arAt
  split
  ·rename_i a ha
   have h1 := arcE_le n.places.length ((n.arcs.take j).map net.wayK) a
   unfold net.arFs
   rw [List.length_map, net.take_snoc' ha, List.map_append, List.sum_append, List.map_cons, List.map_nil, List.sum_cons, List.sum_nil]
   omega
  ·rename_i hn
   have hlen : n.arcs.length ≤ j := by
    rcases Nat.lt_or_ge j n.arcs.length with h | h
    ·rw [List.getElem?_eq_getElem h] at hn; cases hn
    ·exact h
   rw [List.take_of_length_le (by omega)]
   rw [List.take_of_length_le hlen] at ih
   simp only [List.length_nil]
   omega
theorem rlim_bulk {x : Ins} (h : muIns x ≤ 1048576) : RLim x := by
 unfold muIns muNet at h
 refine ⟨by omega, fun a ha => ?_, ?_, by omega, by omega, by omega, by omega⟩
 ·have h1 := bulk_sum_mem (μ := muPts) ha
  unfold muPts at h1
  unfold muPts at h
  omega
 ·have h1 := netTo_le x.net x.net.arcs.length
  rw [List.take_of_length_le (Nat.le_refl _)] at h1
  unfold insN
  omega
end Go.Proofs.YtofabhenmplkoaaGreatDoor.ins
