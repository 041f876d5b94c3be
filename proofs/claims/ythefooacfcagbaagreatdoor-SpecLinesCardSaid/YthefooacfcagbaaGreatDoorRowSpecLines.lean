import Derived.Test.YthefooacfcagbaaGreatDoorAccS
import Derived.Test.YthefooacfcagbaaGreatDoorInsH
import Derived.Test.YthefooacfcagbaaGreatDoorAwkS
import Derived.Test.YthefooacfcagbaaGreatDoorRsame
import Derived.Test.YthefooacfcagbaaGreatDoorStrR
import Derived.Test.YthefooacfcagbaaGreatDoorStrA
import Derived.Test.YthefooacfcagbaaGreatDoorSpcC
import Derived.Test.YthefooacfcagbaaGreatDoorCards
import Derived.Test.YthefooacfcagbaaGreatDoorTie
import Derived.WalkKit
import Derived.ProofKit
import Derived.OpenShut
import Derived.Deep.DeepHandedRow
import Derived.Shelf.Spec.TrailingZeros
import Derived.Lay
import Derived.MakeChecks
import Derived.Stop.LaidErr
import Derived.Lib.LaidTab
import Derived.Shelf.Vars
import Derived.Test.YthefooacfcagbaaGreatDoorBase
import Derived.SizedLaws
import Derived.ShutString
import Derived.ChangeOld
import Derived.Below
import Derived.Lib.SmallJoins
import Derived.Deep.Slices
import Derived.Carry
/- The text of an instance without one of its lines. Plain. -/
namespace Go.Proofs.YthefooacfcagbaaGreatDoor.spc
open Go.RowKit
open Go.Proofs.YthefooacfcagbaaGreatDoor.lib Go.Proofs.YthefooacfcagbaaGreatDoor.rd Go.Proofs.YthefooacfcagbaaGreatDoor.typ
open Go.Proofs.YthefooacfcagbaaGreatDoor.ins (InP InAt InV Lim insF sameI)
open Go.Proofs.YthefooacfcagbaaGreatDoor.txt (in64 By joinS)
set_option linter.unusedVariables false
set_option linter.unusedSimpArgs false

theorem splt_inj {s t : By} (h : splt 10 s = splt 10 t) : s = t := by
  rw [← (join_splt 10 s).1, ← (join_splt 10 t).1, h]
theorem line_inj {r r' : Lin} (h : r.ok) (h' : r'.ok) (e : joinS r.words = joinS r'.words) : r = r' := LineOf.one (s := joinS r.words) ⟨rfl, h⟩ ⟨e, h'⟩
theorem linesB_inj : ∀ {L M : List Lin}, (∀ r ∈ L, r.ok) → (∀ r ∈ M, r.ok) → linesB L = linesB M → L = M
  | [], [], _, _, _ => rfl
  | [], r :: M, _, _, e => by
    have := congrArg List.length e
    rw [linesB_cons] at this
    simp [linesB] at this
  | r :: L, [], _, _, e => by
    have := congrArg List.length e
    rw [linesB_cons] at this
    simp [linesB] at this
  | r :: L, q :: M, hL, hM, e => by
    have h1 := splt_line (hL r (List.mem_cons_self ..)) L
    have h2 := splt_line (hM q (List.mem_cons_self ..)) M
    rw [e, h2] at h1
    injection h1 with h3 h4
    have e1 := line_inj (hL r (List.mem_cons_self ..)) (hM q (List.mem_cons_self ..)) h3.symm
    have e2 := linesB_inj (L := L) (M := M) (fun z hz => hL z (List.mem_cons_of_mem _ hz)) (fun z hz => hM z (List.mem_cons_of_mem _ hz)) (splt_inj h4.symm)
    rw [e1, e2]
theorem all_ok {x : Ins} (h : insOk x) : ∀ r ∈ allR x, r.ok := fun r hr => by
  unfold allR at hr
  rw [List.mem_append] at hr
  rcases hr with hr | hr
  · exact h r hr
  · rw [List.mem_singleton.1 hr]
    trivial
/-- The end of a line, found. -/
theorem line_end {L : List Lin} (hL : ∀ r ∈ L, r.ok) {m : Nat} {B C : By} (hB : (10 : UInt8) ∉ B) (h : B ++ 10 :: C = linesB (L.drop m)) : ∃ r, L[m]? = some r ∧ B = joinS r.words ∧ C = linesB (L.drop (m + 1)) := by
  rcases Nat.lt_or_ge m L.length with hm | hm
  · have e := List.drop_eq_getElem_cons hm
    rw [e] at h
    have ho := hL _ (List.getElem_mem hm)
    have h1 := splt_line ho (L.drop (m + 1))
    rw [← h, splt_app C hB] at h1
    injection h1 with h2 h3
    exact ⟨_, List.getElem?_eq_getElem hm, h2, splt_inj h3⟩
  · rw [List.drop_of_length_le hm] at h
    have := congrArg List.length h
    simp [linesB] at this
/-- An instance whose text is that of another one without a line. -/
theorem cut_rows {x y : Ins} {m j : Nat} (hx : insOk x) (hm : m < (allR x).length) (h : prsP (splt 10 (linesB ((allR x).eraseIdx m))) 1 0 nilX = (some y, j)) : allR y = (allR x).eraseIdx m ∧ insOk y := by
  obtain ⟨h1, h2⟩ := text_prs h
  refine ⟨?_, h2⟩
  refine (linesB_inj (fun r hr => all_ok hx r (List.mem_of_mem_eraseIdx hr)) (all_ok h2) ?_).symm
  exact h1
def isK (k : Nat) (r : Lin) : Bool := r.rank == k
theorem cnt (x : Ins) : (allR x).countP (isK 1) = x.net.places.length ∧ (allR x).countP (isK 2) = x.net.arcs.length ∧ (allR x).countP (isK 3) = x.types.length ∧ (allR x).countP (isK 4) = x.orders.length ∧ (allR x).countP (isK 5) = x.apart.length ∧ (allR x).countP (isK 6) = x.before.length := by
  rw [allR_eq]
  simp only [List.countP_append, List.countP_map, List.countP_cons, List.countP_nil]
  have a : ∀ {α : Type} (f : α → Lin) (k j : Nat), (∀ u, (f u).rank = k) → ∀ l : List α, l.countP (isK j ∘ f) = if k = j then l.length else 0 := by
    intro α f k j hf l
    induction l with
    | nil => simp
    | cons u l ih =>
      rw [List.countP_cons, ih]
      simp only [Function.comp, isK, hf, beq_iff_eq, List.length_cons]
      split <;> simp
  rw [a Lin.place 1 1 (fun _ => rfl), a Lin.arc 2 1 (fun _ => rfl), a Lin.type 3 1 (fun _ => rfl), a Lin.order 4 1 (fun _ => rfl), a Lin.apart 5 1 (fun _ => rfl), a Lin.before 6 1 (fun _ => rfl),
    a Lin.place 1 2 (fun _ => rfl), a Lin.arc 2 2 (fun _ => rfl), a Lin.type 3 2 (fun _ => rfl), a Lin.order 4 2 (fun _ => rfl), a Lin.apart 5 2 (fun _ => rfl), a Lin.before 6 2 (fun _ => rfl),
    a Lin.place 1 3 (fun _ => rfl), a Lin.arc 2 3 (fun _ => rfl), a Lin.type 3 3 (fun _ => rfl), a Lin.order 4 3 (fun _ => rfl), a Lin.apart 5 3 (fun _ => rfl), a Lin.before 6 3 (fun _ => rfl),
    a Lin.place 1 4 (fun _ => rfl), a Lin.arc 2 4 (fun _ => rfl), a Lin.type 3 4 (fun _ => rfl), a Lin.order 4 4 (fun _ => rfl), a Lin.apart 5 4 (fun _ => rfl), a Lin.before 6 4 (fun _ => rfl),
    a Lin.place 1 5 (fun _ => rfl), a Lin.arc 2 5 (fun _ => rfl), a Lin.type 3 5 (fun _ => rfl), a Lin.order 4 5 (fun _ => rfl), a Lin.apart 5 5 (fun _ => rfl), a Lin.before 6 5 (fun _ => rfl),
    a Lin.place 1 6 (fun _ => rfl), a Lin.arc 2 6 (fun _ => rfl), a Lin.type 3 6 (fun _ => rfl), a Lin.order 4 6 (fun _ => rfl), a Lin.apart 5 6 (fun _ => rfl), a Lin.before 6 6 (fun _ => rfl)]
  simp [isK, Lin.rank]
theorem cut_lgt {x y : Ins} {m : Nat} (hl : Lgt x) (h : allR y = (allR x).eraseIdx m) : Lgt y := by
  obtain ⟨x1, x2, x3, x4, x5, x6⟩ := cnt x
  obtain ⟨y1, y2, y3, y4, y5, y6⟩ := cnt y
  have hs : ∀ p : Lin → Bool, (allR y).countP p ≤ (allR x).countP p := fun p => by
    rw [h]
    exact (List.eraseIdx_sublist _ _).countP_le
  have := hs (isK 1); have := hs (isK 2); have := hs (isK 3); have := hs (isK 4); have := hs (isK 5); have := hs (isK 6)
  have := hl.arcs; have := hl.places; have := hl.types; have := hl.orders; have := hl.apart; have := hl.before
  refine ⟨by omega, by omega, by omega, by omega, by omega, by omega, fun a ha => hl.points a ?_⟩
  have h1 : Lin.arc a ∈ allR y := by
    rw [allR_eq]
    exact List.mem_append_right _ (List.mem_append_left _ (List.mem_map.2 ⟨a, ha, rfl⟩))
  rw [h] at h1
  have h2 := List.mem_of_mem_eraseIdx h1
  rw [allR_eq] at h2
  simp only [List.mem_append, List.mem_map] at h2
  rcases h2 with ⟨s, hs, e⟩ | ⟨s, hs, e⟩ | ⟨s, hs, e⟩ | ⟨s, hs, e⟩ | ⟨s, hs, e⟩ | ⟨s, hs, e⟩ | e
  · cases e
  · injection e with e
    rw [← e]; exact hs
  · cases e
  · cases e
  · cases e
  · cases e
  · rw [List.mem_singleton] at e
    cases e
end Go.Proofs.YthefooacfcagbaaGreatDoor.spc

/- The law SpecLines, walked. -/
namespace Go.Proofs.YthefooacfcagbaaGreatDoor.spc
open Go.RowKit
open Go.Proofs.YthefooacfcagbaaGreatDoor.lib Go.Proofs.YthefooacfcagbaaGreatDoor.rd Go.Proofs.YthefooacfcagbaaGreatDoor.app Go.Proofs.YthefooacfcagbaaGreatDoor.els Go.Proofs.YthefooacfcagbaaGreatDoor.typ Go.Proofs.YthefooacfcagbaaGreatDoor.big Go.Proofs.YthefooacfcagbaaGreatDoor.gen Go.Proofs.YthefooacfcagbaaGreatDoor.off
open Go.Proofs.YthefooacfcagbaaGreatDoor.ins (InP InAt InV Lim insF icheck_any sameI)
open Go.Proofs.YthefooacfcagbaaGreatDoor.txt (in64 By strV strV_of decW rdecW_any)
set_option linter.unusedVariables false
set_option linter.unusedSimpArgs false

/-- What the text is that Print gives without an error. -/
def TxtOk (x : Ins) (S : By) : Prop := S = [] ∨ (S = textI x ∧ (PrOk x ∧ x.types ≠ []) ∧ Lgt x)
/-- The part of a text that is read. -/
structure Scan (x : Ins) (S : By) (m : Nat) (A B C : By) : Prop where
  all : S = A ++ (B ++ C)
  no : (10 : UInt8) ∉ B
  le : m ≤ A.length
  txt : S = [] ∨ (A = linesB ((allR x).take m) ∧ B ++ C = linesB ((allR x).drop m))
theorem Scan.start {x : Ins} {S : By} (h : TxtOk x S) : Scan x S 0 [] [] S := ⟨rfl, by simp, by simp, h.elim .inl fun h => .inr ⟨by simp [linesB], by rw [h.1]; rfl⟩⟩
theorem Scan.step {x : Ins} {S : By} {m : Nat} {A B C : By} {c : UInt8} (h : Scan x S m A B (c :: C)) (hc : c ≠ 10) : Scan x S m A (B ++ [c]) C :=
  ⟨by rw [h.all]; simp, by simp [h.no]; exact fun e => hc e.symm, h.le, h.txt.elim .inl fun k => .inr ⟨k.1, by rw [← k.2]; simp⟩⟩
theorem Scan.line {x : Ins} {S : By} {m : Nat} {A B C : By} (ht : TxtOk x S) (h : Scan x S m A B (10 :: C)) : Scan x S (m + 1) (A ++ (B ++ [10])) [] C ∧ m < (allR x).length ∧ A ++ C = linesB ((allR x).eraseIdx m) ∧ PrOk x ∧ Lgt x ∧ x.types ≠ [] := by
  have hne : S ≠ [] := fun e => by
    have := h.all
    rw [e] at this
    simp at this
  obtain ⟨e1, e2⟩ := h.txt.resolve_left hne
  obtain ⟨e3, ⟨hp, hty⟩, hl⟩ := ht.resolve_left hne
  obtain ⟨r, hr, hB, hC⟩ := line_end (all_ok hp.ok) h.no e2
  have hm := (List.getElem?_eq_some_iff.1 hr).1
  refine ⟨⟨by rw [h.all]; simp, by simp, ?_, .inr ⟨?_, by rw [hC]; rfl⟩⟩, hm, ?_, hp, hl, hty⟩
  · have := h.le
    simp only [List.length_append, List.length_cons, List.length_nil]
    omega
  · rw [linesB_take hr, e1, lineB, hB]
  · rw [e1, hC, ← linesB_app, List.eraseIdx_eq_take_drop_succ]
theorem types_ne {x : Ins} (h : insF x = []) : x.types ≠ [] := fun e => by
  obtain ⟨-, hT, -, -⟩ := acc_nil.1 h
  unfold ins.insT at hT
  rw [e] at hT
  simp [flt.fltsTo, flt.inB] at hT
theorem same_nil {x : Ins} (h : x.types ≠ []) : sameI x nilX = false := by
  unfold sameI
  rw [eqg.eqL_no (p := flt.sameT) (a := x.types) (b := nilX.types) (fun e => h (List.eq_nil_of_length_eq_zero e))]
  simp
theorem splt_le (c : UInt8) : ∀ s : By, (splt c s).length ≤ s.length + 1
  | [] => by simp [splt]
  | x :: s => by
    have ih := splt_le c s
    rw [splt]
    split
    · simp; omega
    · cases h : splt c s with
      | nil => simp
      | cons y r =>
        rw [h] at ih
        simp at ih ⊢
        omega
theorem prs_le : ∀ (P : List By) (n k : Nat) (x : Ins), (prsP P n k x).2 ≤ n + P.length
  | [], n, k, x => by simp [prsP]
  | [_], n, k, x => by simp [prsP]
  | l :: m :: P, n, k, x => by
    rw [prsP]
    split
    · simp
    · split
      · simp
      · split
        · split <;> simp
        · rename_i r hr h1 h2
          have := prs_le (m :: P) (n + 1) r.rank (r.add x)
          simp at this ⊢
          omega
theorem cut_same {x y : Ins} {m : Nat} (hm : m < (allR x).length) (h : allR y = (allR x).eraseIdx m) : sameI x y = false := by
  by_cases hs : sameI x y = true
  · exfalso
    have hlen : ∀ {α : Type} {p : α → α → Bool} {a b : List α}, eqg.eqL p a b = true → a.length = b.length := fun {α p a b} e => by
      by_cases h0 : a.length = b.length
      · exact h0
      · rw [eqg.eqL_no h0] at e
        cases e
    unfold sameI at hs
    simp only [Bool.and_eq_true] at hs
    obtain ⟨h1, h2, h3, h4, h5, h6⟩ := hs
    have e1 := len_all x
    have e2 := len_all y
    rw [h, List.length_eraseIdx_of_lt hm] at e2
    unfold o6 o5 o4 o3 o2 o1 at e1 e2
    have := hlen h1; have := hlen h2; have := hlen h3; have := hlen h4; have := hlen h5; have := hlen h6
    omega
  · simpa using hs
theorem cut_parse {x : Ins} {T : By} {m : Nat} (hx : PrOk x) (hty : x.types ≠ []) (hm : m < (allR x).length) (hT : T = linesB ((allR x).eraseIdx m)) : in64 (parF insF T).2.1 ∧ 0 ≤ (parF insF T).2.1 ∧ ((parF insF T).2.2 = 0 → sameI x (parF insF T).1 = false) := by
  by_cases hb : 65536 < T.length
  · rw [parF_big hb]
    exact ⟨⟨by decide, by decide⟩, by decide, fun h => absurd h (by decide)⟩
  · have hle := prs_le (splt 10 T) 1 0 nilX
    have hsp := splt_le 10 T
    cases hp : prsP (splt 10 T) 1 0 nilX with
    | mk o n =>
      rw [hp] at hle
      cases o with
      | none =>
        rw [parF_none hb hp]
        dsimp only at hle ⊢
        exact ⟨⟨by omega, by omega⟩, by omega, fun h => absurd h (by decide)⟩
      | some y =>
        have hr := (cut_rows hx.ok hm (by rw [← hT]; exact hp)).1
        cases hF : insF y with
        | nil =>
          rw [parF_ok hb hp hF]
          dsimp only
          exact ⟨⟨by omega, by omega⟩, by omega, fun _ => cut_same hm hr⟩
        | cons f fs =>
          rw [parF_bad hb hp hF]
          dsimp only
          exact ⟨⟨by omega, by omega⟩, by omega, fun _ => same_nil hty⟩
theorem dec_pos (n : Int) : 0 < (decW n).size := by
  have e : (decW n).size = (Lib.itoa n).length := by unfold decW; exact Array.length_toList.symm
  rw [e]
  have := itoa_word n
  rcases Nat.eq_zero_or_pos (Lib.itoa n).length with h | h
  · rw [List.eq_nil_of_length_eq_zero h] at this
    cases this
  · exact h
theorem scan_bytes {Sb : ByteArray} {S A B C : By} {c : UInt8} (h : Sb.data.toList = S) (e : S = A ++ (B ++ c :: C)) : (Sb.extract 0 A.length ++ Sb.extract (A.length + B.length + 1) Sb.size : ByteArray).data.toList = A ++ C := by
  have e1 : (Sb.extract 0 A.length ++ Sb.extract (A.length + B.length + 1) Sb.size : ByteArray).data.toList = (Sb.extract 0 A.length).data.toList ++ (Sb.extract (A.length + B.length + 1) Sb.size).data.toList := by simp
  rw [e1, txt.ext_data, txt.ext_data, ← toList_len, h, e]
  simp only [List.drop_zero, Nat.sub_zero]
  rw [List.take_left]
  congr 1
  have e2 : A ++ (B ++ c :: C) = (A ++ B ++ [c]) ++ C := by simp
  rw [e2, List.drop_left' (by simp; omega)]
  rw [List.take_of_length_le]
  simp
  omega
theorem scan_at {Sb : ByteArray} {S A B C : By} {c : UInt8} (h : Sb.data.toList = S) (e : S = A ++ (B ++ c :: C)) : ∃ hl : A.length + B.length < Sb.size, Sb[A.length + B.length] = c := by
  have hz : Sb.size = S.length := by rw [← h, toList_len]
  have hl : A.length + B.length < Sb.size := by
    rw [hz, e]
    simp
  refine ⟨hl, ?_⟩
  have h1 := txt.at_data Sb _ hl
  rw [h, e, ← List.append_assoc, List.getElem?_append_right (by simp)] at h1
  simpa using h1.symm
theorem scan_end {Sb : ByteArray} {S A B : By} (h : Sb.data.toList = S) (e : S = A ++ (B ++ [])) : Sb.size = A.length + B.length := by
  rw [← toList_len, h, e]
  simp
set_option maxRecDepth 20000 in
set_option maxHeartbeats 8000000 in
theorem lawLines_any (x : Ins) (P : InP) (t : Int) (h64 : in64 t) (w : World) (ht : TabS w) (hI : InAt w w.heap.size x P) :
    Calls Tryz.prog 6 #[InV x P, .int .i64 t] w fun e w' => e = .returned (.bool true) ∧ Below w.heap.size w w' := by
  have HTB := Lib.hid ht.at_
  have HI := Lib.hid (fun v (hv : Below w.heap.size w v) => (hI.below hv).more hv.size)
  have H64 := Lib.hid h64
  obtain ⟨w0, hw0⟩ : ∃ W, w.alloc (.cells (xCs x P).toArray 30) = W := ⟨_, rfl⟩
  have HW0 := Lib.hid (show w.alloc (.cells #[.slice P.a0 x.net.places.length P.c0, .slice P.a1 x.net.arcs.length P.c1, .slice P.a2 x.types.length P.c2, .slice P.a3 x.orders.length P.c3, .slice P.a4 x.apart.length P.c4, .slice P.a5 x.before.length P.c5] 30) = w0 from hw0)
  have HL0 : Hid (Below w.heap.size w w0) := Lib.hid (by rw [← hw0]; exact (Below.refl _ _).alloc (Nat.le_refl _) _)
  have HX : Hid (∀ v, Below w0.heap.size w0 v → Blk v w.heap.size 30 (xCs x P) ∧ Below w.heap.size w v) := Lib.hid (fun v hv => ⟨(by rw [← hw0]; exact Blk.new w _ _ : Blk w0 w.heap.size 30 (xCs x P)).below hv, HL0.out.trans (hv.mono HL0.out.size)⟩)
  clear ht hI hw0 h64
  go_enter Tryz.func6, Tryz.ntmps6
  go_upto_region 1 with fail
  rw [HW0.out]
  clear HW0
  go_wp2_with ((with_reducible refine wpList_loadG sIns _ rfl ⟨w.heap.size, 0, none⟩ (xCs x P) ?_ ?_ ?_ ?_ ?_); exact rfl; exact rfl; exact (HX.out _ (Below.refl _ _)).1.cells; exact rfl)
  refine (light_any x P w0 (HI.out _ HL0.out)).mono ?_
  rintro e w1 ⟨b, rfl, hlg, b1⟩
  have HB1 := Lib.hid b1
  clear b1
  cases b
  case false =>
    clear hlg
    go_wp2_with (go_at_call 8; refine (awake_any w1 (HTB.out.below (HX.out _ HB1.out).2).now).mono ?_; rintro e w2 ⟨rfl, hb⟩)
    go_ret
    exact ⟨rfl, (HX.out _ (HB1.out.trans (hb.mono HB1.out.size))).2⟩
  have HLG := Lib.hid (hlg rfl)
  clear hlg
  go_wp2_with ((with_reducible refine wpList_loadG sIns _ rfl ⟨w.heap.size, 0, none⟩ (xCs x P) ?_ ?_ ?_ ?_ ?_); exact rfl; exact rfl; exact (HX.out _ HB1.out).1.cells; exact rfl)
  refine (print_any insF x P w1 (HTB.out.below (HX.out _ HB1.out).2).now (HI.out _ (HX.out _ HB1.out).2) (fun hF => prOk_at (HI.out _ (HX.out _ HB1.out).2) HLG.out hF) (fun w' hb' => icheck_any x P w' (HI.out _ ((HX.out _ HB1.out).2.trans (hb'.mono (HX.out _ HB1.out).2.size))) (lgt_lim HLG.out))).mono ?_
  rintro e w2 ⟨rfl, b2⟩
  have HB2 := Lib.hid (HB1.out.trans (b2.mono HB1.out.size))
  clear b2
  obtain ⟨S, hS⟩ : ∃ S, (prnF insF x).1 = S := ⟨_, rfl⟩
  obtain ⟨E, hE⟩ : ∃ E, (prnF insF x).2 = E := ⟨_, rfl⟩
  have HPF := Lib.hid (And.intro hS hE)
  rw [hS, hE]
  obtain ⟨Sb, hSb⟩ : ∃ Sb : ByteArray, ⟨S.toArray⟩ = Sb := ⟨_, rfl⟩
  have HSB : Hid (Sb.data.toList = S) := Lib.hid (by rw [← hSb])
  rw [hSb]
  clear hS hE hSb
  by_cases hE0 : E = 0
  rotate_left
  · have hEb : (E != 0) = true := by simpa using hE0
    go_wp2_with (go_at_call 8; refine (awake_any w2 (HTB.out.below (HX.out _ HB2.out).2).now).mono ?_; rintro e w3 ⟨rfl, hb⟩)
    go_ret
    exact ⟨rfl, (HX.out _ (HB2.out.trans (hb.mono HB2.out.size))).2⟩
  by_cases ht0 : t < 0
  · have hEb : (E != 0) = false := by simpa using hE0
    go_wp2_with (go_at_call 8; refine (awake_any w2 (HTB.out.below (HX.out _ HB2.out).2).now).mono ?_; rintro e w3 ⟨rfl, hb⟩)
    go_ret
    exact ⟨rfl, (HX.out _ (HB2.out.trans (hb.mono HB2.out.size))).2⟩
  have HTX : Hid (TxtOk x S ∧ S.length ≤ 65536) := Lib.hid (by
    obtain ⟨h1, h2⟩ := HPF.out
    cases hF : insF x with
    | cons f fs =>
      rw [prnF_bad hF] at h1
      rw [← h1]
      exact ⟨.inl rfl, Nat.zero_le _⟩
    | nil =>
      by_cases hb : 65536 < (textI x).length
      · rw [prnF_big hF hb] at h1
        rw [← h1]
        exact ⟨.inl rfl, Nat.zero_le _⟩
      · rw [prnF_ok hF hb] at h1
        rw [← h1]
        exact ⟨.inr ⟨rfl, ⟨prOk_at (HI.out _ (HX.out _ HB1.out).2) HLG.out hF, types_ne hF⟩, HLG.out⟩, Nat.le_of_not_lt hb⟩)
  have hSz : Sb.size ≤ 65536 := by rw [← toList_len, HSB.out]; exact HTX.out.2
  subst hE0
  go_upto_region 8 with fail
  go_loopw [7, 8, 9] (fun fv nv iv wr => wr = w2 ∧ ∃ (m a j : Nat) (A B C : By), fv = .int .i64 a ∧ nv = .int .i64 m ∧ iv = .int .i64 j ∧ m ≤ a ∧ a ≤ j ∧ j ≤ Sb.size ∧ Hid (A.length = a ∧ A.length + B.length = j ∧ Scan x S m A B C)) (fun _ _ i _ => Sb.size - (intOf i).toNat)
  case atStart => exact ⟨rfl, 0, 0, 0, [], [], S, rfl, rfl, rfl, by omega, by omega, by omega, Lib.hid ⟨rfl, rfl, Scan.start HTX.out.1⟩⟩
  case round =>
    obtain ⟨rfl, m, a, j, A, B, C, rfl, rfl, rfl, hma, haj, hjz, hsc⟩ := hrel
    by_cases hlt : j < Sb.size
    rotate_left
    · have hge : ¬ (j : Int) < (Sb.size : Int) := by omega
      go_wp2_with (go_at_call 8; refine (awake_any wr (HTB.out.below (HX.out _ HB2.out).2).now).mono ?_; rintro e w3 ⟨rfl, hb⟩)
      go_ret
      exact ⟨rfl, (HX.out _ (HB2.out.trans (hb.mono HB2.out.size))).2⟩
    obtain ⟨c, hc⟩ : ∃ c, Sb[j] = c := ⟨_, rfl⟩
    have HC : Hid (∃ C', C = c :: C') := Lib.hid (by
      obtain ⟨-, h2, h3⟩ := hsc.out
      cases C with
      | nil =>
        have := scan_end HSB.out h3.all
        omega
      | cons c' C' =>
        obtain ⟨h4, h5⟩ := scan_at HSB.out h3.all
        subst h2
        rw [hc] at h5
        exact ⟨C', by rw [h5]⟩)
    by_cases h10 : (c.toNat : Int) = 10
    rotate_left
    · have h10b : ((c.toNat : Int) != 10) = true := by simpa using h10
      have HS2 : Hid (∃ C', A.length = a ∧ A.length + (B ++ [c]).length = j + 1 ∧ Scan x S m A (B ++ [c]) C') := Lib.hid (by
        obtain ⟨C', rfl⟩ := HC.out
        obtain ⟨h1, h2, h3⟩ := hsc.out
        refine ⟨C', h1, ?_, h3.step fun e => h10 (by rw [e]; rfl)⟩
        simp
        omega)
      go_wp2
      go_roundw
      case rel =>
        obtain ⟨C', h3⟩ := HS2.out
        exact ⟨trivial, m, a, j + 1, A, B ++ [c], C', rfl, rfl, by go_num, by omega, by omega, by omega, Lib.hid h3⟩
      case measure => simp [intOf]; omega
    have h10b : ((c.toNat : Int) != 10) = false := by simpa using h10
    have HS2 : Hid (∃ C', C = 10 :: C') := Lib.hid (by
      obtain ⟨C', rfl⟩ := HC.out
      have : c = 10 := by apply UInt8.toNat_inj.1; have : (10 : UInt8).toNat = 10 := rfl; omega
      exact ⟨C', by rw [this]⟩)
    by_cases hmt : (m : Int) = t
    rotate_left
    · have hmtb : ((m : Int) == t) = false := beq_eq_false_iff_ne.2 hmt
      go_wp2
      go_roundw
      case rel =>
        obtain ⟨C', rfl⟩ := HS2.out
        obtain ⟨h1, h2, h3⟩ := hsc.out
        have h4 := (h3.line HTX.out.1).1
        exact ⟨trivial, m + 1, j + 1, j + 1, _, [], C', by go_num, by go_num, by go_num, by omega, by omega, by omega, Lib.hid ⟨by simp; omega, by simp; omega, h4⟩⟩
      case measure => simp [intOf]; omega
    have hmtb : ((m : Int) == t) = true := beq_iff_eq.2 hmt
    obtain ⟨T, hT⟩ : ∃ T : ByteArray, Sb.extract 0 a ++ Sb.extract (j + 1) Sb.size = T := ⟨_, rfl⟩
    have HTT := Lib.hid hT
    have HCP : Hid (in64 (parF insF T.data.toList).2.1 ∧ 0 ≤ (parF insF T.data.toList).2.1 ∧ ((parF insF T.data.toList).2.2 = 0 → sameI x (parF insF T.data.toList).1 = false)) := Lib.hid (by
      obtain ⟨C', rfl⟩ := HS2.out
      obtain ⟨h1, h2, h3⟩ := hsc.out
      obtain ⟨-, k2, k3, k4, k5, k6⟩ := h3.line HTX.out.1
      refine cut_parse k4 k6 k2 ?_
      rw [← k3, ← hT]
      have := scan_bytes HSB.out h3.all
      rw [h1, show a + B.length + 1 = j + 1 by omega] at this
      exact this)
    have hTz : T.size ≤ 1000000 := by rw [← hT, ByteArray.size_append, ByteArray.size_extract, ByteArray.size_extract]; omega
    have HPA : Hid (∀ v, Below wr.heap.size wr v → Calls Tryz.prog 11 #[.string T] v (ParOutZ v (parF insF T.data.toList))) := Lib.hid (fun v hv => by
      have h := parseZ_any insF T.data.toList (by rw [toList_len]; omega) v (HTB.out.below ((HX.out _ (HB2.out.trans (hv.mono HB2.out.size))).2)).now (fun y Q w' hp hb hat => by
        obtain ⟨C', rfl⟩ := HS2.out
        obtain ⟨h1, h2, h3⟩ := hsc.out
        obtain ⟨-, k2, k3, k4, k5, k6⟩ := h3.line HTX.out.1
        refine icheck_any y Q w' hat (lgt_lim (cut_lgt k5 (cut_rows k4.ok k2 (j := 0) ?_).1))
        rw [← k3, ← hp, ← hT]
        have := scan_bytes HSB.out h3.all
        rw [h1, show a + B.length + 1 = j + 1 by omega] at this
        rw [this])
      exact h)
    clear hT
    obtain ⟨⟨y, n, ee⟩, hR⟩ : ∃ R, parF insF T.data.toList = R := ⟨_, rfl⟩
    rw [hR] at HPA HCP
    dsimp only at HCP
    clear hR
    go_upto_region 12 with fail
    have hmm := Lib.hid hmt
    clear hc h10 h10b hmt hmtb
    go_cut [10, 11, 12] (fun p nv ev wx => ∃ (g : Nat) (y : Ins) (Q : InP) (n e : Int), p = .pointer (some ⟨g, 0, none⟩) ∧ nv = .int .i64 n ∧ ev = .int .i64 e ∧ Blk wx g 30 (xCs y Q) ∧ InAt wx wx.heap.size y Q ∧ Below wr.heap.size wr wx ∧ Hid (in64 n ∧ 0 ≤ n ∧ (e = 0 → sameI x y = false)))
    case first =>
      have ha0 : (0 : Int) ≤ (a : Int) := by omega
      have haz : (a : Int) ≤ (Sb.size : Int) := by omega
      have hj0 : (0 : Int) ≤ (j : Int) + 1 := by omega
      have hjz' : (j : Int) + 1 ≤ (Sb.size : Int) := by omega
      have hwj : IntKind.i64.wrap ((j : Int) + 1) = ((j + 1 : Nat) : Int) := by rw [IntWalk.i64_in _ (by omega)]; rfl
      have hz1 : ¬ 9223372036854775807 < (Sb.extract 0 a).size + (Sb.extract (j + 1) Sb.size).size := by rw [ByteArray.size_extract, ByteArray.size_extract]; omega
      (refine wp_region_held_drew (S := (fun v => True)) (by kernel_rfl) ?_ (fun hHeld => ?_))
      · trivial
      (refine wpAnyH_take (i := 0) (v := ?_) rfl (by kernel_rfl) (by kernel_rfl) (by kernel_rfl) (fun _ _ _ h => h) (Or.inl ⟨by kernel_rfl, ?_⟩) (by assumption) ?_; rotate_left; (focus (intro w hSw; (try dsimp only at hSw); go_simp; all_goals with_reducible rfl)); (try simp only [Act.put, List.getElem_toArray, List.getElem_cons_succ, List.getElem_cons_zero, List.setIfInBounds_toArray, List.set_cons_zero, List.set_cons_succ]))
      (refine wpAnyH_take (i := 1) (v := ?_) rfl (by kernel_rfl) (by kernel_rfl) (by kernel_rfl) (fun _ _ _ h => h) (Or.inl ⟨by kernel_rfl, ?_⟩) (by assumption) ?_; rotate_left; (focus (intro w hSw; (try dsimp only at hSw); go_simp; all_goals with_reducible rfl)); (try simp only [Act.put, List.getElem_toArray, List.getElem_cons_succ, List.getElem_cons_zero, List.setIfInBounds_toArray, List.set_cons_zero, List.set_cons_succ]))
      (refine wpAnyH_take (i := 2) (v := ?_) rfl (by kernel_rfl) (by kernel_rfl) (by kernel_rfl) (fun _ _ _ h => h) (Or.inl ⟨by kernel_rfl, ?_⟩) (by assumption) ?_; rotate_left; (focus (intro w hSw; (try dsimp only at hSw); go_simp; all_goals with_reducible rfl)); (try simp only [Act.put, List.getElem_toArray, List.getElem_cons_succ, List.getElem_cons_zero, List.setIfInBounds_toArray, List.set_cons_zero, List.set_cons_succ]))
      (refine wpAnyH_take (i := 3) (v := ?_) rfl (by kernel_rfl) (by kernel_rfl) (by kernel_rfl) (fun _ _ _ h => h) (Or.inl ⟨by kernel_rfl, ?_⟩) (by assumption) ?_; rotate_left; (focus (intro w hSw; (try dsimp only at hSw); go_simp; all_goals with_reducible rfl)); (try simp only [Act.put, List.getElem_toArray, List.getElem_cons_succ, List.getElem_cons_zero, List.setIfInBounds_toArray, List.set_cons_zero, List.set_cons_succ]))
      (refine wpAnyH_take (i := 4) (v := ?_) rfl (by kernel_rfl) (by kernel_rfl) (by kernel_rfl) (fun _ _ _ h => h) (Or.inl ⟨by kernel_rfl, ?_⟩) (by assumption) ?_; rotate_left; (focus (intro w hSw; (try dsimp only at hSw); go_simp; all_goals with_reducible rfl)); (try simp only [Act.put, List.getElem_toArray, List.getElem_cons_succ, List.getElem_cons_zero, List.setIfInBounds_toArray, List.set_cons_zero, List.set_cons_succ]))
      (refine wpAnyH_take (i := 5) (v := ?_) rfl (by kernel_rfl) (by kernel_rfl) (by kernel_rfl) (fun _ _ _ h => h) (Or.inl ⟨by kernel_rfl, ?_⟩) (by assumption) ?_; rotate_left; (focus (intro w hSw; (try dsimp only at hSw); go_simp; all_goals with_reducible rfl)); (try simp only [Act.put, List.getElem_toArray, List.getElem_cons_succ, List.getElem_cons_zero, List.setIfInBounds_toArray, List.set_cons_zero, List.set_cons_succ]))
      (refine wpAnyH_take (i := 6) (v := ?_) rfl (by kernel_rfl) (by kernel_rfl) (by kernel_rfl) (fun _ _ _ h => h) (Or.inl ⟨by kernel_rfl, ?_⟩) (by assumption) ?_; rotate_left; (focus (intro w hSw; (try dsimp only at hSw); go_simp; all_goals with_reducible rfl)); (try simp only [Act.put, List.getElem_toArray, List.getElem_cons_succ, List.getElem_cons_zero, List.setIfInBounds_toArray, List.set_cons_zero, List.set_cons_succ]))
      (refine wpAnyH_take (i := 7) (v := ?_) rfl (by kernel_rfl) (by kernel_rfl) (by kernel_rfl) (fun _ _ _ h => h) (Or.inl ⟨by kernel_rfl, ?_⟩) (by assumption) ?_; rotate_left; (focus (intro w hSw; (try dsimp only at hSw); go_simp; rw [if_neg]; (try with_reducible rfl); (all_goals (first | assumption | omega | (simp only [ByteArray.size_extract]; omega))))); (try simp only [Act.put, List.getElem_toArray, List.getElem_cons_succ, List.getElem_cons_zero, List.setIfInBounds_toArray, List.set_cons_zero, List.set_cons_succ]))
      rw [HTT.out]
      (refine wpAnyH_ready (rs := [8, 13]) (by kernel_rfl) (by simp) ?_; refine AllReadyH.cons rfl (fun K hK => ?_) (AllReadyH.cons rfl (fun K hK => ?_) AllReadyH.nil))
      · go_simp
        refine (HPA.out _ (Below.refl _ _).drew).mono ?_
        rintro e v1 ⟨Q, rfl, hat, hb1, -⟩
        have HB1' := Lib.hid ((Below.refl wr.heap.size wr).drew.trans hb1)
        have HAT := Lib.hid hat
        clear hb1 hat
        refine hK.out _ _ (trivial) (fun hHeld => ?_)
        clear hK K
        (try simp only [Act.put, List.getElem_toArray, List.getElem_cons_succ, List.getElem_cons_zero, List.setIfInBounds_toArray, List.set_cons_zero, List.set_cons_succ])
        (refine wpAnyH_take (i := 9) (v := ?_) rfl (by kernel_rfl) (by kernel_rfl) (by kernel_rfl) (fun _ _ _ h => h) (Or.inl ⟨by kernel_rfl, ?_⟩) (by assumption) ?_; rotate_left; (focus (intro w hSw; (try dsimp only at hSw); go_simp; all_goals with_reducible rfl)); (try simp only [Act.put, List.getElem_toArray, List.getElem_cons_succ, List.getElem_cons_zero, List.setIfInBounds_toArray, List.set_cons_zero, List.set_cons_succ]))
        (refine wpAnyH_take (i := 10) (v := ?_) rfl (by kernel_rfl) (by kernel_rfl) (by kernel_rfl) (fun _ _ _ h => h) (Or.inl ⟨by kernel_rfl, ?_⟩) (by assumption) ?_; rotate_left; (focus (intro w hSw; (try dsimp only at hSw); go_simp; all_goals with_reducible rfl)); (try simp only [Act.put, List.getElem_toArray, List.getElem_cons_succ, List.getElem_cons_zero, List.setIfInBounds_toArray, List.set_cons_zero, List.set_cons_succ]))
        (refine wpAnyH_take (i := 11) (v := ?_) rfl (by kernel_rfl) (by kernel_rfl) (by kernel_rfl) (fun _ _ _ h => h) (Or.inl ⟨by kernel_rfl, ?_⟩) (by assumption) ?_; rotate_left; (focus (intro w hSw; (try dsimp only at hSw); go_simp; all_goals with_reducible rfl)); (try simp only [Act.put, List.getElem_toArray, List.getElem_cons_succ, List.getElem_cons_zero, List.setIfInBounds_toArray, List.set_cons_zero, List.set_cons_succ]))
        (refine wpAnyH_take (i := 12) (v := ?_) rfl (by kernel_rfl) (by kernel_rfl) (by kernel_rfl) (fun _ _ _ h => h) (Or.inl ⟨by kernel_rfl, ?_⟩) (by assumption) ?_; rotate_left; (focus (intro w hSw; (try dsimp only at hSw); go_simp; all_goals with_reducible rfl)); (try simp only [Act.put, List.getElem_toArray, List.getElem_cons_succ, List.getElem_cons_zero, List.setIfInBounds_toArray, List.set_cons_zero, List.set_cons_succ]))
        (refine wpAnyH_ready (rs := [13]) (by kernel_rfl) (by simp) ?_; refine AllReadyH.cons rfl (fun K hK => ?_) AllReadyH.nil)
        go_simp
        refine hK.out _ _ (trivial) (fun hHeld => ?_)
        clear hK K
        (try simp only [Act.put, List.getElem_toArray, List.getElem_cons_succ, List.getElem_cons_zero, List.setIfInBounds_toArray, List.set_cons_zero, List.set_cons_succ])
        (refine wpAnyH_ready (rs := [14]) (by kernel_rfl) (by simp) ?_; refine AllReadyH.cons rfl (fun K hK => ?_) AllReadyH.nil)
        refine step_storeL sIns rfl _ _ rfl v1.heap.size (xCs nilX nilP) (xCs y Q) rfl rfl (Blk.new v1 _ (xCs nilX nilP)) rfl rfl (xCs_one _ _) ?_
        intro v2 k1 k2 k3 k4
        have b12 : Below v1.heap.size v1 v2 := ((Below.refl _ _).alloc (Nat.le_refl _) _).trans k4
        have HB2' := Lib.hid (HB1'.out.trans (b12.mono HB1'.out.size))
        have HA2 := Lib.hid ((HAT.out.below b12).more b12.size)
        have HK2 := Lib.hid k1
        clear k1 k2 k3 k4 b12
        refine hK.out _ _ (trivial) (fun hHeld => ?_)
        clear hK K
        (try simp only [Act.put, List.getElem_toArray, List.getElem_cons_succ, List.getElem_cons_zero, List.setIfInBounds_toArray, List.set_cons_zero, List.set_cons_succ])
        (refine wpAnyH_take (i := 15) (v := ?_) rfl (by kernel_rfl) (by kernel_rfl) (by kernel_rfl) (fun _ _ _ h => h) (Or.inl ⟨by kernel_rfl, ?_⟩) (by assumption) ?_; rotate_left; (focus (intro w hSw; (try dsimp only at hSw); go_simp; all_goals with_reducible rfl)); (try simp only [Act.put, List.getElem_toArray, List.getElem_cons_succ, List.getElem_cons_zero, List.setIfInBounds_toArray, List.set_cons_zero, List.set_cons_succ]))
        (refine wpAnyH_take (i := 16) (v := ?_) rfl (by kernel_rfl) (by kernel_rfl) (by kernel_rfl) (fun _ _ _ h => h) (Or.inl ⟨by kernel_rfl, ?_⟩) (by assumption) ?_; rotate_left; (focus (intro w hSw; (try dsimp only at hSw); go_simp; all_goals with_reducible rfl)); (try simp only [Act.put, List.getElem_toArray, List.getElem_cons_succ, List.getElem_cons_zero, List.setIfInBounds_toArray, List.set_cons_zero, List.set_cons_succ]))
        (refine wpAnyH_done (by kernel_rfl) ?_ _)
        go_wp2
        go_meet
        exact ⟨_, y, Q, n, ee, rfl, rfl, rfl, HK2.out, HA2.out, HB2'.out, HCP⟩
      · go_simp
        have HL1 : Hid (Below wr.heap.size wr (wr.drew.alloc (.cells (xCs nilX nilP).toArray 30))) := Lib.hid ((Below.refl wr.heap.size wr).drew.alloc (Nat.le_refl _) _)
        have HG1 : Hid (Blk (wr.drew.alloc (.cells (xCs nilX nilP).toArray 30)) wr.heap.size 30 (xCs nilX nilP)) := Lib.hid (Blk.new wr.drew _ _)
        refine hK.out _ _ (trivial) (fun hHeld => ?_)
        clear hK K
        (try simp only [Act.put, List.getElem_toArray, List.getElem_cons_succ, List.getElem_cons_zero, List.setIfInBounds_toArray, List.set_cons_zero, List.set_cons_succ])
        (refine wpAnyH_ready (rs := [8]) (by kernel_rfl) (by simp) ?_; refine AllReadyH.cons rfl (fun K hK => ?_) AllReadyH.nil)
        go_simp
        refine (HPA.out _ HL1.out).mono ?_
        rintro e v1 ⟨Q, rfl, hat, hb1, hkz⟩
        have HG2 := Lib.hid (HG1.out.below hb1)
        have HB1' := Lib.hid (HL1.out.trans (hb1.mono HL1.out.size))
        have HAT := Lib.hid hat
        have hzz := hb1.size
        clear hb1 hat
        refine hK.out _ _ (trivial) (fun hHeld => ?_)
        clear hK K
        (try simp only [Act.put, List.getElem_toArray, List.getElem_cons_succ, List.getElem_cons_zero, List.setIfInBounds_toArray, List.set_cons_zero, List.set_cons_succ])
        (refine wpAnyH_take (i := 9) (v := ?_) rfl (by kernel_rfl) (by kernel_rfl) (by kernel_rfl) (fun _ _ _ h => h) (Or.inl ⟨by kernel_rfl, ?_⟩) (by assumption) ?_; rotate_left; (focus (intro w hSw; (try dsimp only at hSw); go_simp; all_goals with_reducible rfl)); (try simp only [Act.put, List.getElem_toArray, List.getElem_cons_succ, List.getElem_cons_zero, List.setIfInBounds_toArray, List.set_cons_zero, List.set_cons_succ]))
        (refine wpAnyH_take (i := 10) (v := ?_) rfl (by kernel_rfl) (by kernel_rfl) (by kernel_rfl) (fun _ _ _ h => h) (Or.inl ⟨by kernel_rfl, ?_⟩) (by assumption) ?_; rotate_left; (focus (intro w hSw; (try dsimp only at hSw); go_simp; all_goals with_reducible rfl)); (try simp only [Act.put, List.getElem_toArray, List.getElem_cons_succ, List.getElem_cons_zero, List.setIfInBounds_toArray, List.set_cons_zero, List.set_cons_succ]))
        (refine wpAnyH_take (i := 11) (v := ?_) rfl (by kernel_rfl) (by kernel_rfl) (by kernel_rfl) (fun _ _ _ h => h) (Or.inl ⟨by kernel_rfl, ?_⟩) (by assumption) ?_; rotate_left; (focus (intro w hSw; (try dsimp only at hSw); go_simp; all_goals with_reducible rfl)); (try simp only [Act.put, List.getElem_toArray, List.getElem_cons_succ, List.getElem_cons_zero, List.setIfInBounds_toArray, List.set_cons_zero, List.set_cons_succ]))
        (refine wpAnyH_take (i := 12) (v := ?_) rfl (by kernel_rfl) (by kernel_rfl) (by kernel_rfl) (fun _ _ _ h => h) (Or.inl ⟨by kernel_rfl, ?_⟩) (by assumption) ?_; rotate_left; (focus (intro w hSw; (try dsimp only at hSw); go_simp; all_goals with_reducible rfl)); (try simp only [Act.put, List.getElem_toArray, List.getElem_cons_succ, List.getElem_cons_zero, List.setIfInBounds_toArray, List.set_cons_zero, List.set_cons_succ]))
        (refine wpAnyH_ready (rs := [14]) (by kernel_rfl) (by simp) ?_; refine AllReadyH.cons rfl (fun K hK => ?_) AllReadyH.nil)
        refine step_storeL sIns rfl _ _ rfl wr.heap.size (xCs nilX nilP) (xCs y Q) rfl rfl HG2.out rfl rfl (xCs_one _ _) ?_
        intro v2 k1 k2 k3 k4
        have HB2' := Lib.hid (HB1'.out.trans k4)
        have HK2 := Lib.hid k1
        have HA2 : Hid (InAt v2 v2.heap.size y Q) := Lib.hid (hkz v2 (Nat.le_of_eq k3.symm) fun q hq _ => k2 q (fun e => by rw [World.size_alloc] at hq; have h9 : wr.drew.heap.size = wr.heap.size := rfl; omega))
        clear k1 k2 k3 k4
        refine hK.out _ _ (trivial) (fun hHeld => ?_)
        clear hK K
        (try simp only [Act.put, List.getElem_toArray, List.getElem_cons_succ, List.getElem_cons_zero, List.setIfInBounds_toArray, List.set_cons_zero, List.set_cons_succ])
        (refine wpAnyH_take (i := 15) (v := ?_) rfl (by kernel_rfl) (by kernel_rfl) (by kernel_rfl) (fun _ _ _ h => h) (Or.inl ⟨by kernel_rfl, ?_⟩) (by assumption) ?_; rotate_left; (focus (intro w hSw; (try dsimp only at hSw); go_simp; all_goals with_reducible rfl)); (try simp only [Act.put, List.getElem_toArray, List.getElem_cons_succ, List.getElem_cons_zero, List.setIfInBounds_toArray, List.set_cons_zero, List.set_cons_succ]))
        (refine wpAnyH_take (i := 16) (v := ?_) rfl (by kernel_rfl) (by kernel_rfl) (by kernel_rfl) (fun _ _ _ h => h) (Or.inl ⟨by kernel_rfl, ?_⟩) (by assumption) ?_; rotate_left; (focus (intro w hSw; (try dsimp only at hSw); go_simp; all_goals with_reducible rfl)); (try simp only [Act.put, List.getElem_toArray, List.getElem_cons_succ, List.getElem_cons_zero, List.setIfInBounds_toArray, List.set_cons_zero, List.set_cons_succ]))
        (refine wpAnyH_done (by kernel_rfl) ?_ _)
        go_wp2
        go_meet
        exact ⟨_, y, Q, n, ee, rfl, rfl, rfl, HK2.out, HA2.out, HB2'.out, HCP⟩
    obtain ⟨g, y', Q, n', e', rfl, rfl, rfl, hbk, hat, hbl, hres⟩ := hcut
    have HBK := Lib.hid hbk
    have HAT := Lib.hid hat
    have HB3 := Lib.hid (HB2.out.trans (hbl.mono HB2.out.size))
    obtain ⟨hn64, hn0, hsm⟩ := hres.out
    have HN64 := Lib.hid hn64
    have hdz : (0 : Int) < ((decW n').size : Int) := by
      have := dec_pos n'
      omega
    clear hbk hat hbl hres hn64
    by_cases he : e' = 0
    · have heb : (e' != 0) = false := by simpa using he
      have HSM := Lib.hid (hsm he)
      clear hsm
      go_wp2_with (first
        | ((with_reducible refine wpList_loadG sIns _ rfl ⟨w.heap.size, 0, none⟩ (xCs x P) ?_ ?_ ?_ ?_ ?_); exact rfl; exact rfl; exact (HX.out _ HB3.out).1.cells; exact rfl)
        | ((with_reducible refine wpList_loadG sIns _ rfl ⟨g, 0, none⟩ (xCs y' Q) ?_ ?_ ?_ ?_ ?_); exact rfl; exact rfl; exact HBK.out.cells; exact rfl)
        | (go_at_call 12; refine (ins.rsame_any x y' P Q _ (HI.out _ (HX.out _ HB3.out).2) HAT.out).mono ?_; rw [HSM.out]; rintro e4 w4 ⟨rfl, b4⟩; have HB4 := Lib.hid (HB3.out.trans (b4.mono HB3.out.size)))
        | (go_at_call 18; refine (rdecW_any n' HN64.out _).mono ?_; rintro e5 w5 ⟨rfl, b5⟩; have HB5 := Lib.hid (HB4.out.trans (b5.mono HB4.out.size)))
        | (go_at_call 8; refine (awake_any _ (HTB.out.below (HX.out _ HB5.out).2).now).mono ?_; rintro e6 w6 ⟨rfl, b6⟩; have HB6 := Lib.hid (HB5.out.trans (b6.mono HB5.out.size))))
      go_ret
      exact ⟨rfl, (HX.out _ HB6.out).2⟩
    · have heb : (e' != 0) = true := by simpa using he
      clear hsm
      go_wp2_with (first
        | (go_at_call 18; refine (rdecW_any n' HN64.out _).mono ?_; rintro e5 w5 ⟨rfl, b5⟩; have HB5 := Lib.hid (HB3.out.trans (b5.mono HB3.out.size)))
        | (go_at_call 8; refine (awake_any _ (HTB.out.below (HX.out _ HB5.out).2).now).mono ?_; rintro e6 w6 ⟨rfl, b6⟩; have HB6 := Lib.hid (HB5.out.trans (b6.mono HB5.out.size))))
      go_ret
      exact ⟨rfl, (HX.out _ HB6.out).2⟩
end Go.Proofs.YthefooacfcagbaaGreatDoor.spc

/- The library's tables and its number, as the rows of the laws of spec list them. -/
namespace Go.Proofs.YthefooacfcagbaaGreatDoor.laid
open Go.ChangeShapes Go.WideShapes Go.ChangeAt Go.RowKit
open Go.Proofs.YthefooacfcagbaaGreatDoor.txt (Tabs)

theorem own : ownKnob Tryz.prog.godebug = none := by kernel_rfl
theorem star : "*" ++ "errors.errorString" = "*errors.errorString" := by decide
theorem row_err (u : TypeId) (h : Tryz.prog.typeName? 3 u = some "*errors.errorString") : u = 224 :=
  typeName_ptr_named (nm := "errors.errorString") (by rw [star]; kernel_rfl) (by kernel_rfl) (by decide) u (by rw [star]; exact h)
theorem gPow : Tryz.prog.globalNamed "internal/strconv.uint64pow10" = some 3 := by kernel_rfl
theorem gPowT : (Tryz.prog.globals[3]?).map (·.type) = some 205 := by kernel_rfl
theorem gErr : Tryz.prog.globalNamed "strconv.ErrRange" = some 5 := by kernel_rfl
theorem gErrT : (Tryz.prog.globals[5]?).map (·.type) = some 101 := by kernel_rfl
theorem cE : Tryz.prog.cellsOf 226 = 1 := by kernel_rfl
theorem cS : Tryz.prog.cellsOf 9 = 1 := by kernel_rfl
theorem cU : Tryz.prog.cellsOf 197 = 1 := by kernel_rfl
theorem cP : Tryz.prog.cellsOf 205 = 20 := by kernel_rfl
theorem tabs_of {a b c : String × DataW Unit} {r : List (String × DataW Unit)} {W : World} (h : laidMet Tryz.prog (a :: b :: ("internal/strconv.uint64pow10", Rows.laid_internal_strconv_uint64pow10) :: c :: ("strconv.ErrRange", Rows.laid_strconv_ErrRange) :: r) W) : Tabs W := by
  have h2 := h.tail.tail
  refine ⟨?_, ?_⟩
  · have e : (Rows.laid_internal_strconv_uint64pow10 : DataW Unit) = Lib.tabData .u64 Lib.pow10Tab := by kernel_rfl
    rw [e] at h2
    exact Lib.tabIs_of_head gPow gPowT Tryz.underlying205 Tryz.underlying197 cU cP h2
  · obtain ⟨a1, s1, hv1, -, -, -⟩ := laid_sentinel h2.tail.tail gErr gErrT Tryz.underlying101 row_err Tryz.underlying224 Tryz.underlying226 rfl rfl Tryz.underlying9 cE cS
    exact ⟨_, _, hv1⟩
theorem tabS_of {a b c : String × DataW Unit} {r : List (String × DataW Unit)} {W : World} (h : laidMet Tryz.prog (a :: b :: ("internal/strconv.uint64pow10", Rows.laid_internal_strconv_uint64pow10) :: c :: ("strconv.ErrRange", Rows.laid_strconv_ErrRange) :: r) W) (hs : W.ShapedOpen Tryz.prog) : spc.TabS W :=
  ⟨tabs_of h, Go.Proofs.cell_of_shapedOpen_int (P := Tryz.prog) (g := 0) (t := 3) (zero := #[.int .i64 0]) hs (of_decide_eq_true (by kernel_rfl)) (by kernel_rfl) rfl (by kernel_rfl) (by kernel_rfl) Tryz.underlying3⟩
end Go.Proofs.YthefooacfcagbaaGreatDoor.laid

/- The statement SpecLines: the call returns true whatever the input, and the input reads as it did. No conditions. -/
namespace Go.Proofs.YthefooacfcagbaaGreatDoor.specLines
open Go.ChangeShapes Go.WideShapes Go.ChangeAt Go.RowKit Go.Joins
open Go.ChangeMaps (open_string shut_string)
set_option linter.unusedVariables false

theorem own : ownKnob Tryz.prog.godebug = none := laid.own
theorem laidOut : laidOutB Tryz.prog = true := by kernel_rfl
theorem bd {a : Int} (h : (Lit.int .i64 a).wf = true) : -9223372036854775808 ≤ a ∧ a ≤ 9223372036854775807 := by simpa [Lit.wf, IntKind.min, IntKind.max, IntKind.signed, IntKind.bits] using h
theorem laid_met (os : Os) : laidMet Tryz.prog Rows.specLinesRow.laid ((World.laidAll Tryz.prog os Rows.specLinesRow.laid).forCall (fun _ _ => 0) ⟨#[], #[Value.agg #[.slice none 0 0, .slice none 0 0, .slice none 0 0, .slice none 0 0, .slice none 0 0, .slice none 0 0], Value.int .i64 0], []⟩).memory :=
  laidMet_laidAll _ (by kernel_rfl) (by kernel_rfl)
theorem reads (os : Os) {H : Type} (enc : TypeId × Value → H) : ∃ places, DataW.whole enc Tryz.prog ((World.laidAll Tryz.prog os Rows.specLinesRow.laid).forCall (fun _ _ => 0) ⟨#[], #[Value.agg #[.slice none 0 0, .slice none 0 0, .slice none 0 0, .slice none 0 0, .slice none 0 0, .slice none 0 0], Value.int .i64 0], []⟩).memory Tryz.f6.params.toList Rows.specLinesSpec.vars false #[Value.agg #[.slice none 0 0, .slice none 0 0, .slice none 0 0, .slice none 0 0, .slice none 0 0, .slice none 0 0], Value.int .i64 0].toList 8 = some ([.agg [.agg [.nil, .nil], .nil, .nil, .nil, .nil], .lit (.int .i64 0)], [], places) :=
  ⟨[], by kernel_rfl⟩

set_option maxRecDepth 100000 in
theorem contract (H : Type) (enc : TypeId × Value → H) (W : World) (base : Nat) (args : Array Value) (ds gs : List (DataW H)) (before : List MemPlace)
    (hval0 : ∀ (j : Nat) t v, Tryz.f6.params[j]? = some t → args[j]? = some v → Value.okWide Tryz.prog W .any base t v)
    (hW : DataW.Whole enc Tryz.prog Tryz.f6.params.toList Rows.specLinesSpec.vars false W args.toList ds gs before)
    (hsz0 : (DataW.weightsEach Tryz.prog (Tryz.f6.params.toList ++ Rows.specLinesSpec.plain.varTypes Tryz.prog) (ds ++ gs)).all (· ≤ reachBytes) = true) (hL : laidMetH Tryz.prog Rows.specLinesRow.laid W) (hSh : W.ShapedOpen Tryz.prog) :
    Calls Tryz.prog 6 args W fun e W' => ∃ v, e = .returned v ∧ Rows.specLinesSpec.post enc Tryz.prog Tryz.f6 false true false false W args v W' := by
  have hsz : (DataW.weightsEach Tryz.prog (Tryz.f6.params.toList ++ Rows.specLinesSpec.plain.varTypes Tryz.prog) (ds ++ gs)).all (· ≤ reachBytes) = true := hsz0
  clear hsz0
  have hval : ∀ (j : Nat) t v, Tryz.f6.params[j]? = some t → args[j]? = some v → Value.okWide Tryz.prog W .any base t v := hval0
  have hW' := hW
  obtain ⟨p, q, hA0, hV, rfl, hfz, hnd⟩ := hW
  have hA : DataW.TrodAll enc Tryz.prog W 0 (fun _ => true) true Tryz.f6.params.toList args.toList ds p := hA0
  rw [Tryz.params6] at hA hval hsz
  obtain ⟨v0, vs0, d0, ds0, p0, q0, hargs, rfl, rfl, h0, r0⟩ := trodAll_cons hA
  obtain ⟨v1, vs1, d1, ds1, p1, q1, rfl, rfl, rfl, h1, r1⟩ := trodAll_cons r0
  obtain ⟨rfl, rfl, rfl⟩ := trodAll_nil r1
  obtain rfl : args = #[v0, v1] := by cases args; simp_all
  obtain ⟨rfl, rfl⟩ := trodVars_none hV
  have k0 := h0
  have lt0 : ∀ x ∈ p0, x.block < W.heap.size := by obtain ⟨m, hm⟩ := k0; exact DataW.trod_lt m _ _ _ hm
  obtain ⟨x_cs, x, rfl, at_x⟩ := rd.arg_struct Tryz.underlying30 typ.opens_Ins (hval 0 30 v0 rfl rfl) h0 (rd.weight_of hsz (j := 0) rfl rfl)
  obtain ⟨x_C0, x_c0, x_C1, x_c1, x_C2, x_c2, x_C3, x_c3, x_C4, x_c4, x_C5, x_c5, rfl, x_I0, x_I1, x_I2, x_I3, x_I4, x_I5, x_f⟩ := typ.rIns_at at_x
  have k1 := h1
  have lt1 : ∀ x ∈ p1, x.block < W.heap.size := by obtain ⟨m, hm⟩ := k1; exact DataW.trod_lt m _ _ _ hm
  obtain ⟨t, rfl, rfl, rfl, w_t⟩ := open_int Tryz.underlying3 (hval 1 3 v1 rfl rfl) h1
  have b_t := bd w_t
  clear hA0 hval0
  have hT : spc.TabS W := laid.tabS_of (by rw [MakeChecks.laidMetH_plain _ _ _ (by kernel_rfl)] at hL; exact hL) hSh
  refine Calls.mono (spc.lawLines_any x ⟨x_C0, x_c0, x_C1, x_c1, x_C2, x_c2, x_C3, x_c3, x_C4, x_c4, x_C5, x_c5⟩ t b_t W hT ⟨x_I0, x_I1, x_I2.1, x_I3.1, x_I4.1, x_I5.1, x_I2.2, x_I3.2, x_I4.2, x_I5.2⟩) fun e W' ⟨he, bel⟩ => ?_
  subst he
  exact ⟨_, rfl, _, _, _, [], _, [], hW', trodAll_mk1 (shut_bool Tryz.underlying4 _), (trodAll_cons_mk (Below.trod laidOut (by kernel_rfl) (of_decide_eq_true (by kernel_rfl)) k0 bel lt0) (trodAll_cons_mk (Below.trod laidOut (by kernel_rfl) (of_decide_eq_true (by kernel_rfl)) k1 bel lt1) trodAll_mk0)), rfl, bel.frame _, fun h => by cases h⟩

set_option maxRecDepth 100000 in
theorem lifted (os : Os) (started : os.Started) (H : Type) (enc : TypeId × Value → H) (F : Stop.Interp) :
    ReturnsInHanded {} Tryz.checked os 6 .any ((OpenSpec.ofChange Rows.specLinesSpec).preRow enc Tryz.prog Tryz.f6 Rows.specLinesRow.domain false Rows.specLinesRow.laid) (((OpenSpec.ofChange Rows.specLinesSpec).at F).post enc Tryz.prog Tryz.f6 false true false false) := by
  obtain ⟨places, hx⟩ := reads os enc
  refine returnsInHanded_of_row (C := Tryz.checked) (s := OpenSpec.ofChange Rows.specLinesSpec) own started (by kernel_rfl) Tryz.func6
    (witness_row_at (enc := enc) (C := Tryz.checked) false (World.laidAll Tryz.prog os Rows.specLinesRow.laid) #[Value.agg #[.slice none 0 0, .slice none 0 0, .slice none 0 0, .slice none 0 0, .slice none 0 0, .slice none 0 0], Value.int .i64 0] (World.laidAll_os _ _ _) (by kernel_rfl) (by kernel_rfl) (by kernel_rfl)
      (OpenSpec.preRow_of_cond 8 hx (by kernel_rfl) (fun k hk => by cases hk) (by kernel_rfl) (laid_met os))) ?_
  intro W base args ds gs before hval hW _ hkc hsz hL hSh _
  exact contract H enc W base args ds gs before hval hW hsz hL hSh

set_option maxHeartbeats 40000000 in
theorem said : Rows.SpecLinesSaid :=
  OpenClaim.holds_of_cond 6 Tryz.f6 rfl rfl rfl rfl rfl rfl rfl ⟨rfl, rfl, rfl, rfl, rfl⟩ rfl rfl rfl rfl rfl (by as_aux_lemma => kernel_rfl) Tryz.func6 (by as_aux_lemma => kernel_rfl)
    (of_decide_eq_true (by as_aux_lemma => kernel_rfl)) (by as_aux_lemma => unfold Func.isWrapper; first | (rw [if_pos (by decide +kernel)]; kernel_rfl) | (rw [if_neg (by decide +kernel)]; exact ⟨rfl, rfl⟩))
    (fun os started H enc _ F => by rw [OpenClaim.pre_eq_preRow]; exact lifted os started H enc F)

theorem plain (f : FuncId) (fn : Func) (hf : Tryz.pinned.checked.prog.funcNamed "lorry/lorrylaw14.SpecLines" = some f) (hfn : Tryz.pinned.checked.prog.funcs[f]? = some fn) :
    true = Tryz.pinned.checked.prog.looks [] ∧ ∀ (j : Nat) t, fn.params[j]? = some t → Tryz.pinned.checked.prog.wantsStandIn t = false := by
  obtain rfl : f = 6 := Option.some.inj ((show Tryz.prog.funcNamed "lorry/lorrylaw14.SpecLines" = some 6 by kernel_rfl).symm.trans hf) |>.symm
  obtain rfl : fn = Tryz.f6 := (Option.some.inj (Tryz.func6.symm.trans hfn)).symm
  refine ⟨by kernel_rfl, fun j t ht => ?_⟩
  rw [Tryz.params6] at ht
  have hm := Array.mem_of_getElem? ht
  simp only [List.mem_toArray, List.mem_cons, List.not_mem_nil, or_false] at hm
  rcases hm with rfl | rfl
  · exact (show Tryz.prog.wantsStandIn 30 = false by kernel_rfl)
  · exact (show Tryz.prog.wantsStandIn 3 = false by kernel_rfl)

theorem proved : Rows.SpecLinesCardSaid :=
  Claim7.holds_tied_plain_at .later [] _ _ _ _ said (fun _ h => by cases h) (by kernel_rfl) (fun _ h => by cases h) specLines_row_tie rfl ⟨rfl, rfl⟩ (by kernel_rfl) rfl plain (by kernel_rfl)
#print axioms proved
end Go.Proofs.YthefooacfcagbaaGreatDoor.specLines
