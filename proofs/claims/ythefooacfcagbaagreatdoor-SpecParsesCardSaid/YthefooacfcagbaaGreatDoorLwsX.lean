import Derived.Test.YthefooacfcagbaaGreatDoorInsW
import Derived.Test.YthefooacfcagbaaGreatDoorParX
import Derived.Test.YthefooacfcagbaaGreatDoorR13C
import Derived.Test.YthefooacfcagbaaGreatDoorNzX
import Derived.Test.YthefooacfcagbaaGreatDoorRsmX
import Derived.Test.YthefooacfcagbaaGreatDoorParB
import Derived.Test.YthefooacfcagbaaGreatDoorPrnB
import Derived.Test.YthefooacfcagbaaGreatDoorRsqV
/- What a text's length tells about the instance that is read from it. -/
namespace Go.Proofs.YthefooacfcagbaaGreatDoor.spc
open Go.RowKit
open lib rd app els typ big
open ins (LimG RLim insN)
open net (netTo arAt arFs arcE arcBad wayK plTo_len slTo_len pushIf_le)
open trv (tvTo_len)
open txt (By joinS joinS_one joinS_cons)
open mrk (hasB)
set_option linter.unusedVariables false
set_option linter.unusedSimpArgs false
theorem join_sum : ∀ L : List By, (L.map List.length).sum ≤ (joinS L).length
 | [] => Nat.zero_le _
 | [x] => by rw [joinS_one]; simp
 | x :: y :: r => by
  have ih := join_sum (y :: r)
  rw [joinS_cons]
  simp only [List.map_cons, List.sum_cons, List.length_append, List.length_cons] at ih ⊢
  omega
def wsum (r : Lin) : Nat := (r.words.map List.length).sum
theorem line_ge (r : Lin) : wsum r + 1 ≤ (lineB r).length := by
 have := join_sum r.words
 unfold lineB wsum
 rw [List.length_append]
 simp only [List.length_cons, List.length_nil]
 omega
theorem lines_sum : ∀ L : List Lin, (L.map fun r => wsum r + 1).sum ≤ (linesB L).length
 | [] => Nat.zero_le _
 | r :: L => by
  have ih := lines_sum L
  have h := line_ge r
  have e : linesB (r :: L) = lineB r ++ linesB L := by unfold linesB; rw [List.map_cons, List.flatten_cons]
  rw [e, List.length_append, List.map_cons, List.sum_cons]
  omega
theorem sum_ge {X : Type} {f g : X → Nat} (h : ∀ a, g a ≤ f a) : ∀ l : List X, (l.map g).sum ≤ (l.map f).sum
 | [] => Nat.le_refl _
 | a :: l => by
  have ih := sum_ge h l
  have := h a
  rw [List.map_cons, List.map_cons, List.sum_cons, List.sum_cons]
  omega
theorem sum_one {X : Type} : ∀ l : List X, (l.map fun _ => 1).sum = l.length
 | [] => rfl
 | a :: l => by rw [List.map_cons, List.sum_cons, sum_one l, List.length_cons]; omega
theorem sum_mem {X : Type} (f : X → Nat) : ∀ {l : List X} {a : X}, a ∈ l → f a ≤ (l.map f).sum
 | b :: l, a, h => by
  rw [List.map_cons, List.sum_cons]
  rcases List.mem_cons.1 h with rfl | h
  ·omega
  ·have := sum_mem f h; omega
def arcN (a : Arc) : Nat := a.travel.length + a.slow.length + 1
def typN (t : Ty) : Nat := t.cap.length + 1
def ordN (o : Ord) : Nat := o.load.length + 1
theorem text_sum (x : Ins) : x.net.places.length + ((x.net.arcs.map arcN).sum + ((x.types.map typN).sum + ((x.orders.map ordN).sum + (x.apart.length + x.before.length)))) ≤ (textI x).length := by
 have h := lines_sum (rowsI x ++ [.fin])
 have e : linesB (rowsI x ++ [.fin]) = textI x := rfl
 rw [e] at h
 refine Nat.le_trans ?_ h
 unfold rowsI
 simp only [List.map_append, List.sum_append, List.map_map]
 have h1 : x.net.places.length ≤ (x.net.places.map ((fun r => wsum r + 1) ∘ Lin.place)).sum := by
  rw [← sum_one]
  exact sum_ge (fun a => by simp) _
 have h2 : (x.net.arcs.map arcN).sum ≤ (x.net.arcs.map ((fun r => wsum r + 1) ∘ Lin.arc)).sum := sum_ge (fun a => by
  have := trvF_len a.travel
  have := trvF_len a.slow
  simp only [arcN, wsum, Function.comp, Lin.words, arcW, List.map_cons, List.sum_cons, List.map_nil, List.sum_nil]
  omega) _
 have h3 : (x.types.map typN).sum ≤ (x.types.map ((fun r => wsum r + 1) ∘ Lin.type)).sum := sum_ge (fun a => by
  have := listF_len a.cap
  simp only [typN, wsum, Function.comp, Lin.words, typeW, List.map_cons, List.sum_cons, List.map_nil, List.sum_nil]
  omega) _
 have h4 : (x.orders.map ordN).sum ≤ (x.orders.map ((fun r => wsum r + 1) ∘ Lin.order)).sum := sum_ge (fun a => by
  have := listF_len a.load
  simp only [ordN, wsum, Function.comp, Lin.words, orderW, List.map_cons, List.sum_cons, List.map_nil, List.sum_nil]
  omega) _
 have h5 : x.apart.length ≤ (x.apart.map ((fun r => wsum r + 1) ∘ Lin.apart)).sum := by
  rw [← sum_one]
  exact sum_ge (fun a => by simp) _
 have h6 : x.before.length ≤ (x.before.map ((fun r => wsum r + 1) ∘ Lin.before)).sum := by
  rw [← sum_one]
  exact sum_ge (fun a => by simp) _
 omega
theorem arcE_sum (P : Int) (ks : List (Int × Int × Int)) (a : Arc) : (arcE P ks a).length ≤ 5 * arcN a := by
 unfold arcE arcN
 rw [List.length_append, List.length_append, List.length_map]
 have := pushIf_le _ (!hasB ks (wayK a)) 6 2 (pushIf_le _ (!arcBad a) 2 1 (pushIf_le [] (Go.Proofs.YthefooacfcagbaaGreatDoor.net.arcOk P a) 11 0 (Nat.le_refl _)))
 have := tvTo_len a.travel a.travel.length
 have := slTo_len a.slow a.slow.length
 omega
theorem netTo_sum (n : Net) : ∀ j, (netTo n j).length ≤ 2 + n.places.length + 5 * ((n.arcs.take j).map arcN).sum
 | 0 => by
  have := plTo_len n.places n.places.length
  unfold netTo
  rw [List.length_append]
  split <;> simp <;> omega
 | j + 1 => by
  have ih := netTo_sum n j
  rw [netTo, List.length_append]
  unfold arAt
  split
  ·rename_i a ha
   obtain ⟨h1, h2⟩ := List.getElem?_eq_some_iff.1 ha
   have e : n.arcs.take (j + 1) = n.arcs.take j ++ [a] := by rw [List.take_succ_eq_append_getElem h1, h2]
   have := arcE_sum n.places.length ((n.arcs.take j).map wayK) a
   rw [e, List.map_append, List.sum_append]
   unfold arFs
   rw [List.length_map]
   simp only [List.map_cons, List.map_nil, List.sum_cons, List.sum_nil]
   omega
  ·rename_i ha
   have hl := List.getElem?_eq_none_iff.1 ha
   rw [List.take_of_length_le (by omega : n.arcs.length ≤ j + 1)]
   rw [List.take_of_length_le hl] at ih
   simp only [List.length_nil]
   omega
theorem sum_len {X : Type} (f : X → Nat) (h : ∀ a, 1 ≤ f a) (l : List X) : l.length ≤ (l.map f).sum := by
 rw [← sum_one]
 exact sum_ge h _
theorem short_lim {x : Ins} (h : (textI x).length ≤ 4000) : LimG x := by
 have hs := text_sum x
 have ha := sum_len arcN (fun a => by unfold arcN; omega) x.net.arcs
 have ht := sum_len typN (fun a => by unfold typN; omega) x.types
 have ho := sum_len ordN (fun a => by unfold ordN; omega) x.orders
 refine ⟨by omega, by omega, fun a hm => ?_, ?_, by omega, by omega, by omega, by omega⟩
 ·have := sum_mem arcN hm
  unfold arcN at this
  unfold arcN at hs
  omega
 ·have := netTo_sum x.net x.net.arcs.length
  rw [List.take_length] at this
  unfold insN
  omega
theorem lim_rlimG {x : Ins} (h : LimG x) : RLim x where
 places := by have := h.places; omega
 points := fun a ha => by have := h.points a ha; omega
 net := by have := h.net; omega
 types := by have := h.types; omega
 orders := by have := h.orders; omega
 apart := by have := h.apart; omega
 before := by have := h.before; omega
theorem short_prOk {x : Ins} (h : (textI x).length ≤ 4000) (hok : insOk x) : PrOk x := by
 have hs := text_sum x
 refine ⟨hok, fun a hm => ?_, fun t hm => ?_, fun o hm => ?_, by omega⟩
 ·have := sum_mem arcN hm
  unfold arcN at this
  unfold arcN at hs
  omega
 ·have := sum_mem typN hm
  unfold typN at this
  unfold typN at hs
  omega
 ·have := sum_mem ordN hm
  unfold ordN at this
  unfold ordN at hs
  omega
end Go.Proofs.YthefooacfcagbaaGreatDoor.spc

/- No violation has the number of no error; an instance is the same as itself. -/
namespace Go.Proofs.YthefooacfcagbaaGreatDoor.ins
open Go.RowKit
open lib rd typ eqg note big eqs net
set_option linter.unusedVariables false
set_option linter.unusedSimpArgs false
theorem insF_posT (x : Ins) : ∀ f ∈ insF x, f.err ≠ 0 := fun f hf => by
 have e : insF x = und.undL netS (insN x) ++ (und.undL typesS (insT x) ++ (und.undL ordersS (insO x) ++ (und.undL rulesS (insR x) ++ []))) := rfl
 rw [e] at hf
 simp only [List.mem_append, List.not_mem_nil, or_false] at hf
 have hg : ∃ word fs, nz.OkF fs ∧ f ∈ und.undL word fs := by
  rcases hf with hf | hf | hf | hf
  ·exact ⟨_, _, nz.netTo_ok _ _, hf⟩
  ·exact ⟨_, _, nz.fltsTo_ok _ _ _, hf⟩
  ·exact ⟨_, _, nz.ofltsTo_ok _ _ _ _ _, hf⟩
  ·exact ⟨_, _, nz.rulesF_ok _ _ _, hf⟩
 obtain ⟨word, fs, h, hf⟩ := hg
 unfold und.undL at hf
 obtain ⟨g, hg, rfl⟩ := List.mem_map.1 hf
 exact (h g hg).1
theorem self_S (a : ByteArray) : sameS a a = true := by simp [sameS]
theorem self_O (a : Ord) : ord.sameO a a = true := by simp [ord.sameO, sameB, ord.numsO, ord.stpEq, sameS]
theorem self_T (a : Ty) : flt.sameT a a = true := by simp [flt.sameT, flt.sameB, flt.sameS, flt.numsB]
theorem self_I (a : Ins) : sameI a a = true := by
 unfold sameI
 rw [eqL_self self_S, eqL_self sameA_self, eqL_self self_T, eqL_self self_O, eqL_self twoEq_self, eqL_self twoEq_self]
 rfl
end Go.Proofs.YthefooacfcagbaaGreatDoor.ins

/- lorrylaw14.awake: are instances written and read at all? -/
namespace Go.Proofs.YthefooacfcagbaaGreatDoor.spc
open Go.RowKit
open lib rd app els typ big gen off
open ins (InP InAt InV LimG insF insN icheckG_any)
open flt (Fown FltsOut)
open txt (in64 By strV strV_of Tabs)
set_option linter.unusedVariables false
set_option linter.unusedSimpArgs false
def awkX : Ins := ⟨⟨[⟨#[97]⟩], []⟩, [⟨⟨#[118]⟩, 1, 0, 0, [5], 0, 0, 0, 9, 9, 0, 0, 0, 0⟩], [], [], []⟩
def awkT : By := [112, 108, 97, 99, 101, 32, 97, 10, 116, 121, 112, 101, 32, 118, 32, 49, 32, 48, 32, 48, 32, 53, 32, 48, 32, 48, 32, 48, 32, 57, 32, 57, 32, 48, 32, 48, 32, 48, 32, 48, 10, 101, 110, 100, 10]
theorem awk_text : textI awkX = awkT := by kernel_rfl
theorem awk_F : insF awkX = [] := by kernel_rfl
theorem awk_lim : LimG awkX := ⟨by decide, by decide, fun a h => (by cases h), by rw [show insN awkX = [] by kernel_rfl]; decide, by decide, by decide, by decide, by decide⟩
theorem awk_ok : insOk awkX := by
 intro r hr
 simp only [awkX, rowsI, List.map_cons, List.map_nil, List.append_nil, List.nil_append, List.cons_append, List.mem_cons, List.not_mem_nil, or_false] at hr
 rcases hr with rfl | rfl
 ·exact ⟨by decide, by decide⟩
 ·refine ⟨by decide, by unfold TyFits; decide, ?_⟩
  intro z hz
  rw [List.mem_singleton] at hz
  subst hz
  exact ⟨by decide, by decide⟩
theorem awk_pr : PrOk awkX := ⟨awk_ok, fun a h => (by cases h), fun t h => (by rw [List.mem_singleton.1 h]; decide), fun t h => (by cases h), by rw [awk_text]; decide⟩
theorem awk_par : parF insF awkT = (awkX, 0, 0) := by
 refine parF_ok (j := 0) (by decide) ?_ awk_F
 rw [← awk_text]
 exact prs_text awk_ok
theorem awk_prn : prnF insF awkX = (awkT, 0) := by
 rw [prnF_ok awk_F (by rw [awk_text]; decide), awk_text]
theorem awk_stop : (⟨(stopF ⟨2, 10, 20, 5⟩).toArray⟩ : ByteArray) = ⟨#[50, 58, 49, 48, 58, 50, 48, 58, 53]⟩ := by kernel_rfl
set_option maxRecDepth 20000 in
set_option maxHeartbeats 4000000 in
theorem awake_any (w : World) (ht : TabS w) : Calls Tryz.prog 8 #[] w fun e w' => e = .returned (.bool true) ∧ Below w.heap.size w w' := by
 have HP : Hid (Calls Tryz.prog 11 #[.string ⟨awkT.toArray⟩] w (ParOut w (awkX, 0, 0))) := Lib.hid (by
  have h := parse_any insF awkT (by decide) w ht (fun x Q w' hp hb hat => by
   rw [← awk_text, prs_text awk_ok] at hp
   have e : awkX = x := by
    have h1 := congrArg Prod.fst hp
    exact Option.some.inj h1
   subst e
   exact icheckG_any awkX Q w' hat awk_lim (ht.at_.below hb).now.tabs)
  rw [awk_par] at h
  exact h)
 have HTB := Lib.hid ht.at_
 have HT' : Hid (awkT = [112, 108, 97, 99, 101, 32, 97, 10, 116, 121, 112, 101, 32, 118, 32, 49, 32, 48, 32, 48, 32, 53, 32, 48, 32, 48, 32, 48, 32, 57, 32, 57, 32, 48, 32, 48, 32, 48, 32, 48, 10, 101, 110, 100, 10]) := Lib.hid rfl
 clear ht
 go_enter Tryz.func8, Tryz.ntmps8
 go_upto_region 3 with (go_at_call 11; refine (HP.out).mono ?_; rintro e w1 ⟨P, rfl, hat, hb⟩)
 obtain ⟨w2, hw2⟩ : ∃ W, w1.alloc (.cells (xCs awkX P).toArray 30) = W := ⟨_, rfl⟩
 have HW2 := Lib.hid (show w1.alloc (.cells #[.slice P.a0 awkX.net.places.length P.c0, .slice P.a1 awkX.net.arcs.length P.c1, .slice P.a2 awkX.types.length P.c2, .slice P.a3 awkX.orders.length P.c3, .slice P.a4 awkX.apart.length P.c4, .slice P.a5 awkX.before.length P.c5] 30) = w2 from hw2)
 have b2 : Below w1.heap.size w1 w2 := by rw [← hw2]; exact (Below.refl _ _).alloc (Nat.le_refl _) _
 have HB2 := Lib.hid (hb.trans (b2.mono hb.size))
 have HX2 : Hid (Blk w2 w1.heap.size 30 (xCs awkX P)) := Lib.hid (by rw [← hw2]; exact Blk.new w1 _ _)
 have HA2 : Hid (InAt w2 w2.heap.size awkX P) := Lib.hid ((hat.below b2).more b2.size)
 have HPR : Hid (Calls Tryz.prog 9 #[.agg (xCs awkX P).toArray] w2 fun e w' => e = .returned (.tuple #[.string ⟨awkT.toArray⟩, .int .i64 0]) ∧ Below w2.heap.size w2 w') := Lib.hid (by
  have h := print_any insF awkX P w2 (HTB.out.below HB2.out).now HA2.out (fun _ => awk_pr) (fun w' hb' => icheckG_any awkX P w' ((HA2.out.below hb').more hb'.size) awk_lim (HTB.out.below (HB2.out.trans (hb'.mono HB2.out.size))).now.tabs)
  rw [awk_prn] at h
  exact h)
 have HSZ : Hid (w1.heap.size < w2.heap.size) := Lib.hid (HX2.out.lt)
 clear hb b2 hat hw2 HP
 rw [HW2.out]
 clear HW2
 obtain ⟨q, hq⟩ : ∃ q, w1.heap.size = q := ⟨_, rfl⟩
 rw [hq] at HX2 ⊢
 clear hq
 go_upto_region 4 with (first
  | ((with_reducible refine wpList_loadG sIns _ rfl ⟨q, 0, none⟩ (xCs awkX P) ?_ ?_ ?_ ?_ ?_); exact rfl; exact rfl; exact HX2.out.cells; exact rfl)
  | (go_at_call 9; refine (HPR.out).mono ?_; rintro e3 w3 ⟨rfl, hb3⟩; have HB3 := Lib.hid hb3; clear hb3))
 have c2 : w3.cell? ⟨q, 2, none⟩ = some (.slice P.a2 1 P.c2) := (HX2.out.below HB3.out).cell (j := 2) rfl
 have HST : Hid (Calls Tryz.prog 14 #[.agg #[.int .i64 2, .int .i64 10, .int .i64 20, .int .i64 5]] w3 fun e w' => e = .returned (.string ⟨#[50, 58, 49, 48, 58, 50, 48, 58, 53]⟩) ∧ Below w3.heap.size w3 w') := Lib.hid (by
  have h := sstop_any ⟨2, 10, 20, 5⟩ w3 (HTB.out.below (HB2.out.trans (HB3.out.mono HB2.out.size))).now (fun x hx => by
   simp only [stpN, List.mem_cons, List.not_mem_nil, or_false] at hx
   rcases hx with rfl | rfl | rfl | rfl <;> exact ⟨by decide, by decide⟩)
  rw [awk_stop] at h
  exact h)
 rw [HT'.out]
 go_wp2_with (go_at_call 14; refine (HST.out).mono ?_; rintro e4 w4 ⟨rfl, hb4⟩)
 refine bodyPost_ret (v := .bool true) (by simp [results, Tryz.results8, go_sem]) rfl ⟨rfl, ?_⟩
 exact HB2.out.trans ((HB3.out.trans (hb4.mono HB3.out.size)).mono HB2.out.size)
end Go.Proofs.YthefooacfcagbaaGreatDoor.spc

/- The law SpecParses, walked. -/
namespace Go.Proofs.YthefooacfcagbaaGreatDoor.spc
open Go.RowKit
open lib rd app els typ big gen off eqg note
open ins (InP InAt InV LimG insF icheckG_any richeck_any sameI insF_posT self_I)
open txt (in64 By strV strV_of)
set_option linter.unusedVariables false
set_option linter.unusedSimpArgs false
theorem parF_zero {s : By} {X : Ins} {n : Int} (hs : s.length ≤ 4000) (h : parF insF s = (X, n, 0)) : insF X = [] ∧ s = textI X ∧ insOk X := by
 have hn : ¬ 65536 < s.length := by omega
 obtain ⟨o, j, hp⟩ : ∃ o j, prsP (splt 10 s) 1 0 nilX = (o, j) := ⟨_, _, rfl⟩
 cases o with
 | none =>
  rw [parF_none hn hp] at h
  injection h with h1 h
  injection h with h2 h
  exact absurd h (by decide)
 | some x =>
  cases hF : insF x with
  | nil =>
   rw [parF_ok hn hp hF] at h
   injection h with h1 h
   subst h1
   obtain ⟨e, hok⟩ := text_prs hp
   exact ⟨hF, e, hok⟩
  | cons f fs =>
   rw [parF_bad hn hp hF] at h
   injection h with h1 h
   injection h with h2 h
   exact absurd h (insF_posT x f (by rw [hF]; exact List.mem_cons_self ..))
set_option maxRecDepth 20000 in
set_option maxHeartbeats 8000000 in
theorem lawParses_any (s : ByteArray) (hs : s.size ≤ 9223372036854775807) (w : World) (ht : TabS w) :
  Calls Tryz.prog 4 #[.string s] w fun e w' => e = .returned (.bool true) ∧ Below w.heap.size w w' := by
 have HTB := Lib.hid ht.at_
 by_cases hq : s.size ≤ 4000
 rotate_left
 ·have h4 : (4000 : Int) < (s.size : Int) := by omega
  clear hq ht
  go_enter Tryz.func4, Tryz.ntmps4
  go_wp2_with (go_at_call 8; refine (awake_any w (HTB.out.below (Below.refl _ _)).now).mono ?_; rintro e w2 ⟨rfl, hb⟩)
  go_ret
  exact ⟨rfl, hb⟩
 have h4 : ¬ (4000 : Int) < (s.size : Int) := by omega
 obtain ⟨X, n, er, hR⟩ : ∃ X n er, parF insF s.data.toList = (X, n, er) := ⟨_, _, _, rfl⟩
 have hlen : s.data.toList.length ≤ 4000 := by rw [Array.length_toList]; exact hq
 have hst : (⟨s.data.toList.toArray⟩ : ByteArray) = s := by rw [Array.toArray_toList]
 have HLM : Hid (∀ x, prsP (splt 10 s.data.toList) 1 0 nilX = (some x, 0) → LimG x) := Lib.hid fun x hx => short_lim (by rw [← (text_prs hx).1]; exact hlen)
 have HP : Hid (∀ v, Below w.heap.size w v → Calls Tryz.prog 11 #[.string s] v (ParOut v (X, n, er))) := Lib.hid fun v hv => by
  have h := parse_any insF s.data.toList (by omega) v (HTB.out.below hv).now (fun x Q w' hp hb hat => icheckG_any x Q w' hat (HLM.out x hp) ((HTB.out.below hv).now.tabs.below hb))
  rw [hR, hst] at h
  exact h
 have HRP : Hid (∀ v, Calls Tryz.prog 13 #[.string s] v (ParOut v (X, n, er))) := Lib.hid fun v => by
  have h := rparse_any insF s.data.toList (by omega) v (fun x Q w' hp hb hat => richeck_any x Q w' hat (lim_rlimG (HLM.out x hp)))
  rw [hR, hst] at h
  exact h
 have HZ : Hid (er = 0 → insF X = [] ∧ s.data.toList = textI X ∧ insOk X) := Lib.hid fun e => by subst e; exact parF_zero hlen hR
 have HPR : Hid (er = 0 → ∀ v Q, Below w.heap.size w v → InAt v v.heap.size X Q → Calls Tryz.prog 9 #[.agg (xCs X Q).toArray] v fun e w' => e = .returned (.tuple #[.string s, .int .i64 0]) ∧ Below v.heap.size v w') := Lib.hid fun e v Q hv hat => by
  obtain ⟨h1, h2, h3⟩ := HZ.out e
  have hl : (textI X).length ≤ 4000 := by rw [← h2]; exact hlen
  have h := print_any insF X Q v (HTB.out.below hv).now hat (fun _ => short_prOk hl h3) (fun w' hb' => icheckG_any X Q w' ((hat.below hb').more hb'.size) (short_lim hl) ((HTB.out.below hv).now.tabs.below hb'))
  rw [prnF_ok h1 (by omega), ← h2] at h
  simp only [hst] at h
  exact h
 have HAW : Hid (∀ v, Below w.heap.size w v → Calls Tryz.prog 8 #[] v fun e w' => e = .returned (.bool true) ∧ Below v.heap.size v w') := Lib.hid fun v hv => awake_any v (HTB.out.below hv).now
 clear ht hR hlen hst hq HLM HZ
 go_enter Tryz.func4, Tryz.ntmps4
 go_upto_region 4 with (go_at_call 11; refine (HP.out w (Below.refl _ _)).mono ?_; rintro e w1 ⟨P, rfl, hat, b1⟩)
 have BZ : Below w.heap.size w w := Below.refl _ _
 obtain ⟨g, hgg⟩ : ∃ g, w1.heap.size = g := ⟨_, rfl⟩
 obtain ⟨w2, hww2⟩ : ∃ W, w1.alloc (.cells (xCs X P).toArray 30) = W := ⟨_, rfl⟩
 have HWw2 := Lib.hid (show w1.alloc (.cells #[.slice P.a0 X.net.places.length P.c0, .slice P.a1 X.net.arcs.length P.c1, .slice P.a2 X.types.length P.c2, .slice P.a3 X.orders.length P.c3, .slice P.a4 X.apart.length P.c4, .slice P.a5 X.before.length P.c5] 30) = w2 from hww2)
 have bw2 : Below w1.heap.size w1 w2 := by rw [← hww2]; exact (Below.refl _ _).alloc (Nat.le_refl _) _
 have HK2 : Hid (Blk w2 g 30 (xCs X P)) := Lib.hid (by rw [← hww2, ← hgg]; exact Blk.new w1 _ _)
 have HA2 : Hid (InAt w2 w2.heap.size X P) := Lib.hid (InAt.more (InAt.below hat bw2) bw2.size)
 have HB2 := Lib.hid ((BZ.trans (b1.mono BZ.size)).trans (bw2.mono (BZ.trans (b1.mono BZ.size)).size))
 rw [HWw2.out, hgg]
 clear hww2 hat b1 HWw2 hgg
 go_upto_region 5 with (go_at_call 13; refine (HRP.out w2).mono ?_; rintro e w3 ⟨Q, rfl, hat, b3⟩)
 have HA3 := Lib.hid ((HA2.out.below b3).more b3.size)
 have HK3 := Lib.hid (HK2.out.below b3)
 have BY := HB2.out
 obtain ⟨k, hgk⟩ : ∃ g, w3.heap.size = g := ⟨_, rfl⟩
 obtain ⟨w4, hww4⟩ : ∃ W, w3.alloc (.cells (xCs X Q).toArray 30) = W := ⟨_, rfl⟩
 have HWw4 := Lib.hid (show w3.alloc (.cells #[.slice Q.a0 X.net.places.length Q.c0, .slice Q.a1 X.net.arcs.length Q.c1, .slice Q.a2 X.types.length Q.c2, .slice Q.a3 X.orders.length Q.c3, .slice Q.a4 X.apart.length Q.c4, .slice Q.a5 X.before.length Q.c5] 30) = w4 from hww4)
 have bw4 : Below w3.heap.size w3 w4 := by rw [← hww4]; exact (Below.refl _ _).alloc (Nat.le_refl _) _
 have HK4 : Hid (Blk w4 k 30 (xCs X Q)) := Lib.hid (by rw [← hww4, ← hgk]; exact Blk.new w3 _ _)
 have HA4 : Hid (InAt w4 w4.heap.size X Q) := Lib.hid (InAt.more (InAt.below hat bw4) bw4.size)
 have HB4 := Lib.hid ((BY.trans (b3.mono BY.size)).trans (bw4.mono (BY.trans (b3.mono BY.size)).size))
 rw [HWw4.out, hgk]
 clear hww4 hat b3 HWw4 hgk
 have HX4 := Lib.hid (HK3.out.below bw4)
 have HY4 := Lib.hid ((HA3.out.below bw4).more bw4.size)
 have HW4 := Lib.hid HB4.out
 clear bw2 bw4 HK2 HK3 HA2 HA3 HB2 HB4 BY BZ HP HRP HTB
 by_cases he : er = 0
 rotate_left
 ·have heb : (er != 0) = true := by simpa using he
  go_wp2_with (first
   | ((with_reducible refine wpList_loadG sIns _ rfl ⟨g, 0, none⟩ (xCs X P) ?_ ?_ ?_ ?_ ?_); exact rfl; exact rfl; exact HX4.out.cells; exact rfl)
   | ((with_reducible refine wpList_loadG sIns _ rfl ⟨k, 0, none⟩ (xCs X Q) ?_ ?_ ?_ ?_ ?_); exact rfl; exact rfl; exact HK4.out.cells; exact rfl)
   | (go_at_call 12; refine (ins.rsame_any X X P Q _ HY4.out HA4.out).mono ?_; rw [self_I]; rintro e4 w6 ⟨rfl, b6⟩; have HB6 := Lib.hid (HW4.out.trans (b6.mono HW4.out.size)))
   | (go_at_call 8; refine (HAW.out _ HB6.out).mono ?_; rintro e7 w7 ⟨rfl, b7⟩; have HB7 := Lib.hid (HB6.out.trans (b7.mono HB6.out.size))))
  go_ret
  exact ⟨rfl, HB7.out⟩
 have HPZ := Lib.hid (HPR.out he)
 clear HPR
 subst he
 go_wp2_with (first
  | ((with_reducible refine wpList_loadG sIns _ rfl ⟨g, 0, none⟩ (xCs X P) ?_ ?_ ?_ ?_ ?_); exact rfl; exact rfl; exact HX4.out.cells; exact rfl)
  | ((with_reducible refine wpList_loadG sIns _ rfl ⟨k, 0, none⟩ (xCs X Q) ?_ ?_ ?_ ?_ ?_); exact rfl; exact rfl; exact HK4.out.cells; exact rfl)
  | ((with_reducible refine wpList_loadG sIns _ rfl ⟨g, 0, none⟩ (xCs X P) ?_ ?_ ?_ ?_ ?_); exact rfl; exact rfl; exact HX6.out.cells; exact rfl)
  | (go_at_call 12; refine (ins.rsame_any X X P Q _ HY4.out HA4.out).mono ?_; rw [self_I]; rintro e4 w6 ⟨rfl, b6⟩; have HB6 := Lib.hid (HW4.out.trans (b6.mono HW4.out.size)); have HX6 := Lib.hid (HX4.out.below b6); have HY6 := Lib.hid ((HY4.out.below b6).more b6.size))
  | (go_at_call 9; refine (HPZ.out _ P HB6.out HY6.out).mono ?_; rintro e8 w8 ⟨rfl, b8⟩; have HB8 := Lib.hid (HB6.out.trans (b8.mono HB6.out.size)))
  | (go_at_call 8; refine (HAW.out _ HB8.out).mono ?_; rintro e7 w7 ⟨rfl, b7⟩; have HB7 := Lib.hid (HB8.out.trans (b7.mono HB8.out.size))))
 go_ret
 exact ⟨rfl, HB7.out⟩
end Go.Proofs.YthefooacfcagbaaGreatDoor.spc
