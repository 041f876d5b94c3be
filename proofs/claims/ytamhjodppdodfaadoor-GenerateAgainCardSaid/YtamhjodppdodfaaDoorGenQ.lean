/- Instances that are drawn are accepted. -/
import Derived.Test.YtamhjodppdodfaaDoorGenP
import Derived.Test.YtamhjodppdodfaaDoorParP
namespace Go.Proofs.YtamhjodppdodfaaDoor.gen
open Go.Proofs.YtamhjodppdodfaaDoor.typ Go.Proofs.YtamhjodppdodfaaDoor.txt Go.Proofs.YtamhjodppdodfaaDoor.ins Go.Proofs.YtamhjodppdodfaaDoor.note Go.Proofs.YtamhjodppdodfaaDoor.net Go.Proofs.YtamhjodppdodfaaDoor.trv Go.Proofs.YtamhjodppdodfaaDoor.rul Go.Proofs.YtamhjodppdodfaaDoor.par Go.Proofs.YtamhjodppdodfaaDoor.mrk
set_option linter.unusedVariables false
set_option linter.unusedSimpArgs false

/-! Places. -/
theorem plcN_ok : ∀ i, i < 8 → nameB (plcN i) = true := by decide +kernel
theorem plcN_ne : ∀ i, i < 8 → ∀ j, j < i → plcN j ≠ plcN i := by decide +kernel
theorem plcs_len (n : Nat) : (plcs n).length = n := by unfold plcs; simp
theorem plcs_at {n i : Nat} (h : i < n) : (plcs n)[i]? = some (plcN i) := by
  unfold plcs
  rw [List.getElem?_map, List.getElem?_range h]
  rfl
theorem plTo_ok {n : Nat} (hn : n ≤ 8) : ∀ k, k ≤ n → plTo (plcs n) k = []
  | 0, _ => by
    unfold plTo
    rw [if_neg (by rw [plcs_len]; omega)]
  | k + 1, hk => by
    rw [plTo_succ (plcs_at (show k < n by omega)), plTo_ok hn k (by omega)]
    unfold plP
    rw [if_pos (plcN_ok k (by omega)), if_neg]
    · rfl
    · intro hd
      have hm : plcN k ∈ (plcs n).take k := by
        unfold mrk.hasB at hd
        exact (@decide_eq_true_iff _ (_)).1 hd
      obtain ⟨j, hj⟩ := List.mem_iff_getElem?.1 hm
      rw [List.getElem?_take] at hj
      split at hj
      · rename_i hjk
        rw [plcs_at (by omega)] at hj
        exact plcN_ne k (by omega) j hjk (Option.some.inj hj)
      · cases hj
/-! Travel. -/
def PtsOk (l : List Pt) : Prop := ∀ (i : Nat) q, l[i]? = some q → tvBad q = false ∧ tvFifo l i q = false
theorem tvTo_ok {l : List Pt} (h1 : 1 ≤ l.length) (h2 : l.length ≤ 16) (h : PtsOk l) : ∀ k, tvTo l k = []
  | 0 => by
    unfold tvTo
    rw [if_neg (by unfold szB; rw [Bool.or_eq_true, decide_eq_true_eq, decide_eq_true_eq]; omega)]
  | k + 1 => by
    rw [tvTo, tvTo_ok h1 h2 h k, List.nil_append]
    unfold tvAt
    split
    · rename_i p hp
      obtain ⟨a, b⟩ := h k p hp
      unfold tvP
      rw [a, b]
      rfl
    · rfl
theorem tvBad_no {q : Pt} (h0 : 0 ≤ q.t) (h1 : q.t ≤ 4096) (h2 : q.t ≤ q.a) (h3 : q.a ≤ q.t + 4096) : tvBad q = false := by
  unfold tvBad inB
  simp
  omega
theorem pts_ok (p : Pt) (s : Int) (hp : 0 ≤ p.t ∧ p.t ≤ 50 ∧ p.t ≤ p.a ∧ p.a ≤ 110) : ∀ k, k ≤ 10 → (ptsTo p s k).1.length = k + 1 ∧ (ptsTo p s k).1[k]? = some (ptsTo p s k).2.1 ∧ (0 ≤ (ptsTo p s k).2.1.t ∧ (ptsTo p s k).2.1.t ≤ 50 + 100 * k ∧ (ptsTo p s k).2.1.t ≤ (ptsTo p s k).2.1.a ∧ (ptsTo p s k).2.1.a ≤ 110 + 120 * k) ∧ PtsOk (ptsTo p s k).1
  | 0, _ => by
    refine ⟨rfl, rfl, by unfold ptsTo; simp only; omega, fun i q hq => ?_⟩
    have hi : i = 0 := by
      have := (List.getElem?_eq_some_iff.1 hq).1
      simp [ptsTo] at this
      exact this
    subst hi
    have hq' : p = q := by simpa [ptsTo] using hq
    subst hq'
    exact ⟨tvBad_no (by omega) (by omega) (by omega) (by omega), rfl⟩
  | k + 1, hk => by
    obtain ⟨h1, h2, h3, h4⟩ := pts_ok p s hp k (by omega)
    rw [ptsTo]
    obtain ⟨l, b, z, e⟩ : ∃ l b z, ptsTo p s k = (l, b, z) := ⟨_, _, _, rfl⟩
    rw [e] at h1 h2 h3 h4 ⊢
    simp only at h1 h2 h3 h4 ⊢
    have f1 := frm_bd (s := z) (a := 10) (b := 100) (by omega)
    have f2 := frm_bd (s := nx 1 z) (a := 0) (b := 120) (by omega)
    have hb : 0 ≤ (ptNext b z).t ∧ (ptNext b z).t ≤ 50 + 100 * ((k + 1 : Nat) : Int) ∧ (ptNext b z).t ≤ (ptNext b z).a ∧ (ptNext b z).a ≤ 110 + 120 * ((k + 1 : Nat) : Int) ∧ b.t < (ptNext b z).t ∧ b.a ≤ (ptNext b z).a := by
      unfold ptNext
      simp only
      push_cast
      split <;> omega
    refine ⟨by rw [List.length_append, h1]; rfl, by rw [List.getElem?_append_right (by omega), h1, Nat.sub_self]; rfl, ⟨hb.1, hb.2.1, hb.2.2.1, hb.2.2.2.1⟩, fun i q hq => ?_⟩
    rcases Nat.lt_or_ge i (k + 1) with hi | hi
    · rw [List.getElem?_append_left (by omega)] at hq
      obtain ⟨g1, g2⟩ := h4 i q hq
      refine ⟨g1, ?_⟩
      rcases i with _ | i
      · rfl
      · have e3 : (l ++ [ptNext b z])[i]? = l[i]? := List.getElem?_append_left (by omega)
        show (match (l ++ [ptNext b z])[i]? with | some q' => decide (q.t ≤ q'.t) || decide (q.a < q'.a) | none => false) = false
        rw [e3]
        exact g2
    · rw [List.getElem?_append_right (by omega), h1] at hq
      have hi' : i = k + 1 := by
        have := (List.getElem?_eq_some_iff.1 hq).1
        simp at this
        omega
      subst hi'
      rw [Nat.sub_self] at hq
      have hq' : ptNext b z = q := Option.some.inj hq
      subst hq'
      refine ⟨tvBad_no hb.1 (by omega) hb.2.2.1 (by omega), ?_⟩
      unfold tvFifo
      simp only
      rw [List.getElem?_append_left (by omega), h2]
      simp
      omega
theorem trv_ok (s : Int) : tvTo (trvF s).1 (trvF s).1.length = [] ∧ (trvF s).1.length ≤ 3 := by
  have f0 := frm_bd (s := s) (a := 1) (b := 3) (by omega)
  have f1 := frm_bd (s := nx 1 s) (a := 0) (b := 50) (by omega)
  have f2 := frm_bd (s := nx 2 s) (a := 1) (b := 60) (by omega)
  have hn : trvN s ≤ 2 := by unfold trvN; omega
  obtain ⟨h1, _, _, h4⟩ := pts_ok (pt0 s) (nx 3 s) (by unfold pt0; simp only; omega) (trvN s) (by omega)
  exact ⟨tvTo_ok (by rw [h1]; omega) (by rw [h1]; omega) h4 _, by unfold trvF; rw [h1]; omega⟩
/-! Arcs. -/
structure ArcsOk (n : Nat) (l : List Arc) (i j : Nat) : Prop where
  src : ∀ a ∈ l, ∃ (s : Int) (i' j' : Nat), a = arcF s i' j' ∧ i' ≠ j' ∧ j' < n ∧ (i' < i ∨ (i' = i ∧ j' < j))
  two : l.Pairwise fun a b => wayK a ≠ wayK b
theorem row_ok {n i : Nat} {st : List Arc × Int} (h : ArcsOk n st.1 i 0) : ∀ j, j ≤ n → ArcsOk n (rowTo i st j).1 i j ∧ (rowTo i st j).1.length ≤ st.1.length + j
  | 0, _ => ⟨h, by simp [rowTo]⟩
  | j + 1, hj => by
    obtain ⟨ih, il⟩ := row_ok h j (by omega)
    rw [rowTo]
    split
    · refine ⟨⟨fun a ha => ?_, ih.two⟩, by omega⟩
      obtain ⟨s, i', j', e, h1, h2, h3⟩ := ih.src a ha
      exact ⟨s, i', j', e, h1, h2, by omega⟩
    · rename_i hij
      refine ⟨⟨fun a ha => ?_, ?_⟩, by simp only [List.length_append, List.length_cons, List.length_nil]; omega⟩
      · rcases List.mem_append.1 ha with ha | ha
        · obtain ⟨s, i', j', e, h1, h2, h3⟩ := ih.src a ha
          exact ⟨s, i', j', e, h1, h2, by omega⟩
        · rw [List.mem_singleton] at ha
          exact ⟨_, i, j, ha, hij, by omega, by omega⟩
      · rw [List.pairwise_append]
        refine ⟨ih.two, List.pairwise_singleton _ _, fun a ha b hb => ?_⟩
        rw [List.mem_singleton] at hb
        subst hb
        obtain ⟨s, i', j', rfl, h1, h2, h3⟩ := ih.src a ha
        intro e
        unfold wayK arcF at e
        simp only [Prod.mk.injEq] at e
        omega
theorem arcs_ok (n : Nat) (s : Int) : ∀ i, i ≤ n → ArcsOk n (arcsTo n s i).1 i 0 ∧ (arcsTo n s i).1.length ≤ i * n
  | 0, _ => ⟨⟨fun a ha => (by cases ha), List.Pairwise.nil⟩, by simp [arcsTo]⟩
  | i + 1, hi => by
    obtain ⟨ih, il⟩ := arcs_ok n s i (by omega)
    obtain ⟨h1, h2⟩ := row_ok ih n (Nat.le_refl _)
    rw [arcsTo]
    refine ⟨⟨fun a ha => ?_, h1.two⟩, by rw [Nat.succ_mul]; omega⟩
    obtain ⟨s', i', j', e, g1, g2, g3⟩ := h1.src a ha
    exact ⟨s', i', j', e, g1, g2, by omega⟩
theorem net_ok {n : Nat} (hn : n ≤ 8) (s : Int) : netTo (netF n s) (netF n s).arcs.length = [] := by
  obtain ⟨h1, h2⟩ := arcs_ok n s n (Nat.le_refl _)
  have hl : (netF n s).arcs.length ≤ 64 := Nat.le_trans h2 (Nat.mul_le_mul hn hn)
  have key : ∀ k, k ≤ (netF n s).arcs.length → netTo (netF n s) k = [] := by
    intro k
    induction k with
    | zero =>
      intro _
      rw [netTo, if_neg (by omega)]
      have := plTo_ok hn n (Nat.le_refl _)
      show plTo (plcs n) (plcs n).length ++ [] = []
      rw [plcs_len, this]
      rfl
    | succ k ih =>
      intro hk
      obtain ⟨a, ha⟩ : ∃ a, (netF n s).arcs[k]? = some a := ⟨_, List.getElem?_eq_getElem (by omega)⟩
      rw [netTo_succ ha, ih (by omega), List.nil_append]
      unfold arFs
      rw [List.map_eq_nil_iff]
      obtain ⟨s', i, j, e, g1, g2, g3⟩ := h1.src a (List.mem_of_getElem? ha)
      have hpl : (netF n s).places.length = n := plcs_len n
      have hf := frm_bd (s := s') (a := 1) (b := 50) (by omega)
      have ht := trv_ok (nx 1 s')
      unfold arcE
      have w1 : arcOk (netF n s).places.length a = true := by
        rw [hpl, e]
        unfold arcOk placeB arcF
        simp
        omega
      have w2 : arcBad a = false := by
        rw [e]
        unfold arcBad arcF
        simp
        omega
      have w3 : mrk.hasB (((netF n s).arcs.take k).map wayK) (wayK a) = false := by
        unfold mrk.hasB
        rw [decide_eq_false_iff_not]
        intro hm
        obtain ⟨b, hb, hw⟩ := List.mem_map.1 hm
        obtain ⟨j', hj'⟩ := List.mem_iff_getElem?.1 hb
        rw [List.getElem?_take] at hj'
        split at hj'
        · rename_i hjk
          obtain ⟨q1, rfl⟩ := List.getElem?_eq_some_iff.1 hj'
          obtain ⟨q2, rfl⟩ := List.getElem?_eq_some_iff.1 ha
          exact (List.pairwise_iff_getElem.1 h1.two) j' k q1 q2 hjk hw
        · cases hj'
      rw [w1, w2, w3]
      have w4 : tvTo a.travel a.travel.length = [] := by rw [e]; exact ht.1
      have w5 : slTo a.slow a.slow.length = [] := by rw [e]; rfl
      rw [w4, w5]
      rfl
  exact key _ (Nat.le_refl _)
/-! Types. -/
theorem tyN_ok : ∀ i, i < 6 → nameB (tyN i) = true := by decide +kernel
theorem tyN_ne : ∀ i, i < 6 → ∀ j, j < i → flt.sameS (tyN j) (tyN i) = false := by decide +kernel
theorem tys_at (places : Nat) (s : Int) : ∀ k, (tysTo places s k).1.length = k ∧ ∀ (i : Nat) t, (tysTo places s k).1[i]? = some t → i < k ∧ ∃ s', t = tyF s' i places
  | 0 => ⟨rfl, fun i t h => by simp [tysTo] at h⟩
  | k + 1 => by
    obtain ⟨h1, h2⟩ := tys_at places s k
    refine ⟨by rw [tysTo, List.length_append, h1]; rfl, fun i t h => ?_⟩
    rw [tysTo] at h
    rcases Nat.lt_or_ge i k with hi | hi
    · rw [List.getElem?_append_left (by omega)] at h
      exact ⟨by omega, (h2 i t h).2⟩
    · rw [List.getElem?_append_right (by omega), h1] at h
      have hi' : i = k := by
        have := (List.getElem?_eq_some_iff.1 h).1
        simp at this
        omega
      subst hi'
      rw [Nat.sub_self] at h
      exact ⟨by omega, _, (Option.some.inj h).symm⟩
theorem tys_dims {places : Nat} {s : Int} {k : Nat} (h : 1 ≤ k) : flt.dimsN (tysTo places s k).1 = 1 := by
  obtain ⟨h1, h2⟩ := tys_at places s k
  cases hl : (tysTo places s k).1 with
  | nil => rw [hl] at h1; simp at h1; omega
  | cons t l =>
    obtain ⟨_, s', e⟩ := h2 0 t (by rw [hl]; rfl)
    show t.cap.length = 1
    rw [e]
    rfl
theorem tys_ok {places : Nat} (hp : 2 ≤ places) {s : Int} {n : Nat} (h1 : 1 ≤ n) (h6 : n ≤ 6) : ∀ k, flt.fltsTo ((places : Int) - 1) (tysTo places s n).1 k = []
  | 0 => by
    unfold flt.fltsTo
    rw [if_pos]
    rw [(tys_at places s n).1]
    unfold flt.inB
    simp
    omega
  | k + 1 => by
    rw [flt.fltsTo, tys_ok hp h1 h6 k, List.nil_append]
    unfold flt.fltsAt
    split
    · rename_i t ht
      rw [List.map_eq_nil_iff, tys_dims h1]
      obtain ⟨hk, s', e⟩ := (tys_at places s n).2 k t ht
      have a0 := frm_bd (s := s') (a := 1) (b := 3) (by omega)
      have a1 := frm_bd (s := nx 1 s') (a := 0) (b := (places : Int) - 1) (by omega)
      have a2 := frm_bd (s := nx 2 s') (a := 5) (b := 30) (by omega)
      have a3 := frm_bd (s := nx 3 s') (a := 0) (b := 3) (by omega)
      have a4 := frm_bd (s := nx 4 s') (a := 0) (b := 100) (by omega)
      have a5 := frm_bd (s := nx 5 s') (a := 200) (b := 900) (by omega)
      have a6 := frm_bd (s := nx 6 s') (a := 100) (b := 400) (by omega)
      have a7 := frm_bd (s := nx 7 s') (a := 0) (b := 40) (by omega)
      have a8 := frm_bd (s := nx 8 s') (a := 0) (b := 500) (by omega)
      have a9 := frm_bd (s := nx 9 s') (a := 0) (b := 9) (by omega)
      have a10 := frm_bd (s := nx 10 s') (a := 0) (b := 5) (by omega)
      have w1 : nameB t.name = true := by rw [e]; exact tyN_ok k (by omega)
      have w2 : (((tysTo places s n).1.take k).any fun x => flt.sameS x.name t.name) = false := by
        rw [List.any_eq_false]
        intro x hx
        obtain ⟨j, hj⟩ := List.mem_iff_getElem?.1 hx
        rw [List.getElem?_take] at hj
        split at hj
        · rename_i hjk
          obtain ⟨_, s2, e2⟩ := (tys_at places s n).2 j x hj
          have := tyN_ne k (by omega) j hjk
          rw [e, e2]
          show ¬ flt.sameS (tyN j) (tyN k) = true
          rw [this]
          decide
        · cases hj
      have w3 : flt.inB t.count 0 10 = true := by rw [e]; unfold flt.inB tyF; simp; omega
      have w4 : (flt.inB t.frm 0 ((places : Int) - 1) && flt.inB t.to 0 ((places : Int) - 1)) = true := by rw [e]; unfold flt.inB tyF; simp; omega
      have w5 : flt.capB t.cap 1 = true := by rw [e]; unfold flt.capB flt.inB tyF; simp; omega
      have w6 : flt.inB t.skills 0 1073741823 = true := by rw [e]; unfold flt.inB tyF; simp; omega
      have w7 : (flt.inB t.opn 0 t.close && decide (t.close ≤ 4096)) = true := by rw [e]; unfold flt.inB tyF; simp; omega
      have w8 : (flt.inB t.drive 1 4096 && flt.inB t.rest 0 4096) = true := by rw [e]; unfold flt.inB tyF; simp; omega
      have w9 : (flt.inB t.profile 0 7 && flt.inB t.fixed 0 100000 && flt.inB t.mile 0 100 && flt.inB t.tick 0 100) = true := by rw [e]; unfold flt.inB tyF; simp; omega
      unfold flt.errsL
      rw [w1, w2, w3, w4, w5, w6, w7, w8, w9]
      rfl
    · rfl
/-! Orders. -/
theorem ordN_ok : ∀ i, i < 10 → nameB (ordN i) = true := by decide +kernel
theorem ordN_ne : ∀ i, i < 10 → ∀ j, j < i → sameS (ordN j) (ordN i) = false := by decide +kernel
theorem ords_at (dims places : Nat) (s : Int) : ∀ k, (ordsTo dims places s k).length = k ∧ ∀ (i : Nat) o, (ordsTo dims places s k)[i]? = some o → i < k ∧ o = ordF (nx i s) dims places i
  | 0 => ⟨rfl, fun i t h => by simp [ordsTo] at h⟩
  | k + 1 => by
    obtain ⟨h1, h2⟩ := ords_at dims places s k
    refine ⟨by rw [ordsTo, List.length_append, h1]; rfl, fun i o h => ?_⟩
    rw [ordsTo] at h
    rcases Nat.lt_or_ge i k with hi | hi
    · rw [List.getElem?_append_left (by omega)] at h
      exact ⟨by omega, (h2 i o h).2⟩
    · rw [List.getElem?_append_right (by omega), h1] at h
      have hi' : i = k := by
        have := (List.getElem?_eq_some_iff.1 h).1
        simp at this
        omega
      subst hi'
      rw [Nat.sub_self] at h
      exact ⟨by omega, (Option.some.inj h).symm⟩
theorem load_len (s : Int) : ∀ k, (loadTo s k).length = k
  | 0 => rfl
  | k + 1 => by rw [loadTo, List.length_append, load_len s k]; rfl
theorem load_bd (s : Int) : ∀ k, ∀ v ∈ loadTo s k, 0 ≤ v ∧ v ≤ 9
  | 0, v, h => by cases h
  | k + 1, v, h => by
    rw [loadTo] at h
    rcases List.mem_append.1 h with h | h
    · exact load_bd s k v h
    · rw [List.mem_singleton] at h
      rw [h]
      exact frm_bd (by omega)
theorem stp_place (s : Int) {places : Nat} (h : 1 ≤ places) : 0 ≤ (stpF s places).place ∧ (stpF s places).place ≤ (places : Int) - 1 := by
  have := frm_bd (s := s) (a := 0) (b := (places : Int) - 1) (by omega)
  unfold stpF
  exact this
theorem stp_win (s : Int) {places : Nat} (h : 1 ≤ places) : win.chk (stpF s places).place (stpF s places).opn (stpF s places).close (stpF s places).service = 0 := by
  have h0 := stp_place s h
  have h1 := frm_bd (s := nx 1 s) (a := 0) (b := 300) (by omega)
  have h2 := frm_bd (s := nx 2 s) (a := 30) (b := 400) (by omega)
  have h3 := frm_bd (s := nx 3 s) (a := 0) (b := 20) (by omega)
  unfold win.chk
  rw [if_pos]
  refine Or.inr ?_
  unfold win.Good
  unfold stpF at h0 ⊢
  simp only at h0 ⊢
  omega
theorem no_win : win.chk noStp.place noStp.opn noStp.close noStp.service = 0 := by decide
/-- An order that is drawn, but for its name among others. -/
theorem ord_num {s : Int} {dims places n types : Nat} (hp : 1 ≤ places) (ht : 1 ≤ types) : loads.rightB (ordF s dims places n).load dims = true ∧ (inB (ordF s dims places n).pick.place (-1) ((places : Int) - 1) && inB (ordF s dims places n).drop.place (-1) ((places : Int) - 1)) = true ∧ (((ordF s dims places n).pick.place != -1) || ((ordF s dims places n).drop.place != -1)) = true ∧ ord.winB (ordF s dims places n) = true ∧ inB (ordF s dims places n).skills 0 1073741823 = true ∧ ord.numB (ordF s dims places n) types = true := by
  have hk := frm_bd (s := nx dims s) (a := 0) (b := 2) (by omega)
  have s1 := stp_place (sPick s dims) hp
  have s2 := stp_place (sDrop s dims) hp
  have hn : noStp.place = -1 := rfl
  refine ⟨?_, ?_, ?_, ?_, ?_, ?_⟩
  · unfold loads.rightB
    simp only [Bool.and_eq_true, decide_eq_true_eq, List.all_eq_true]
    exact ⟨fun v hv => by have := load_bd s dims v hv; omega, by show ((loadTo s dims).length : Int) = dims; rw [load_len]⟩
  · unfold inB ordF
    simp only
    split <;> split <;> simp [hn] <;> omega
  · unfold ordF kindF
    simp only
    split
    · rename_i h0
      rw [if_neg (by omega)]
      simp [hn]
      omega
    · simp
      left
      omega
  · unfold ord.winB ordF
    simp only
    split <;> split <;> simp [stp_win _ hp, no_win]
  · have := frm_bd (s := sRest s dims) (a := 0) (b := 1) (by omega)
    unfold inB ordF
    simp
    omega
  · unfold ord.numB inB ordF penF
    simp only
    split
    · simp; omega
    · split
      · simp; omega
      · split <;> (simp; omega)
theorem ords_ok {places : Nat} (hp : 1 ≤ places) {types : Nat} (ht : 1 ≤ types) (s : Int) {n : Nat} (hn : n ≤ 10) : ord.ofltsTo ((places : Int) - 1) (1 : Nat) types (ordsTo 1 places s n) (ordsTo 1 places s n).length = [] := by
  rw [ofltsTo_nil (ordsTo 1 places s n).length]
  obtain ⟨h1, h2⟩ := ords_at 1 places s n
  refine ⟨by omega, fun j o hj ho => ?_⟩
  obtain ⟨hjn, e⟩ := h2 j o ho
  obtain ⟨w3, w4, w5, w6, w7, w8⟩ := ord_num (s := nx j s) (dims := 1) (n := j) hp ht
  have w1 : nameB o.name = true := by rw [e]; exact ordN_ok j (by omega)
  have w2 : (((ordsTo 1 places s n).take j).any fun x => sameS x.name o.name) = false := by
    rw [List.any_eq_false]
    intro x hx
    obtain ⟨i, hi⟩ := List.mem_iff_getElem?.1 hx
    rw [List.getElem?_take] at hi
    split at hi
    · rename_i hij
      obtain ⟨_, e2⟩ := h2 i x hi
      have := ordN_ne j (by omega) i hij
      rw [e, e2]
      show ¬ sameS (ordN i) (ordN j) = true
      rw [this]
      decide
    · cases hi
  rw [← e] at w3 w4 w5 w6 w7 w8
  unfold ord.errsO
  rw [w1, w2, w3, w4, w5, w6, w7, w8]
  rfl
/-- Instances that are drawn are accepted. -/
theorem gen_ok (seed : Int) {places types orders : Nat} (hp : 2 ≤ places ∧ places ≤ 8) (ht : 1 ≤ types ∧ types ≤ 6) (ho : orders ≤ 10) : insF (genI seed places types orders) = [] := by
  rw [insF_nil]
  have hpl : (genI seed places types orders).net.places.length = places := plcs_len places
  have hty : (genI seed places types orders).types.length = types := (tys_at _ _ _).1
  refine ⟨?_, ?_, ?_, ?_⟩
  · unfold insN
    exact net_ok hp.2 seed
  · unfold insT
    rw [hpl]
    exact tys_ok hp.1 ht.1 ht.2 _
  · unfold insO
    rw [hpl, hty, show flt.dimsN (genI seed places types orders).types = 1 from tys_dims ht.1]
    exact ords_ok (by omega) ht.1 _ ho
  · rfl
end Go.Proofs.YtamhjodppdodfaaDoor.gen
