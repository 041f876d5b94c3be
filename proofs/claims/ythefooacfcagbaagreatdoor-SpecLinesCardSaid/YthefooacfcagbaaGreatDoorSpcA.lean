/- spec: the texts of lists, stops and points. The program. -/
import Derived.Test.YthefooacfcagbaaGreatDoorStrF
import Derived.Test.YthefooacfcagbaaGreatDoorSpcL
import Derived.Test.YthefooacfcagbaaGreatDoorFrR
import Derived.Test.YthefooacfcagbaaGreatDoorShelf
namespace Go.Proofs.YthefooacfcagbaaGreatDoor.spc
open Go.RowKit
open Go.Proofs.YthefooacfcagbaaGreatDoor.lib Go.Proofs.YthefooacfcagbaaGreatDoor.rd Go.Proofs.YthefooacfcagbaaGreatDoor.app Go.Proofs.YthefooacfcagbaaGreatDoor.els Go.Proofs.YthefooacfcagbaaGreatDoor.typ Go.Proofs.YthefooacfcagbaaGreatDoor.big Go.Proofs.YthefooacfcagbaaGreatDoor.gen
open Go.Proofs.YthefooacfcagbaaGreatDoor.txt (in64 By strV strV_of decW decW_any Tabs elem_str toList_data push_one)
set_option linter.unusedVariables false
set_option linter.unusedSimpArgs false

/-- strings.Join of a row of the call's own. -/
theorem sjoin_any (S : ByteArray) (L : List By) (g n c base : Nat) (w : World) (hn : n = L.length) (hown : w.ownsRow base 9 1 (.slice (some ⟨g, 0, none⟩) n c) n (L.map strV)) (h0 : 0 < n) (hn1 : n ≤ 100000) (hlen : (Lib.join L S.data.toList).length ≤ 140737488355328) :
    Calls Tryz.prog 42 #[.slice (some ⟨g, 0, none⟩) n c, .string S] w fun e w' => e = .returned (.string ⟨(Lib.join L S.data.toList).toArray⟩) ∧ Below w.heap.size w w' := by
  obtain ⟨xs, hxs⟩ : ∃ xs : List ByteArray, xs = L.map fun l => ⟨l.toArray⟩ := ⟨_, rfl⟩
  have hxl : xs.length = n := by rw [hxs, hn]; simp
  have hxm : xs.map (·.data.toList) = L := by rw [hxs, List.map_map]; exact List.map_id L
  have hcap : xs.length ≤ c := by
    rw [hxl]
    rcases hown.2 with ⟨h, hz⟩ | ⟨g0, cap0, cur, h, _, hg, hnc, _⟩
    · cases h
    · injection h with e1 e2 e3
      omega
  have hbk : g < w.heap.size := by
    obtain ⟨g1, c1, hv, _, hlt⟩ := hown.form h0
    injection hv with e1 e2 e3
    have e4 : g = g1 := congrArg Addr.block (Option.some.inj e1)
    omega
  have hcells : ∀ (j : Nat) x, xs[j]? = some x → w.cell? ⟨g, 0 + j, none⟩ = some (.string x) := by
    intro j x hx
    have hj : j < n := by rw [← hxl]; exact (List.getElem?_eq_some_iff.1 hx).1
    have h := hown.cellAt j (by omega)
    rw [Nat.zero_add, h, List.getElem?_map]
    rw [hxs, List.getElem?_map] at hx
    cases hL : L[j]? with
    | none => rw [hL] at hx; cases hx
    | some l =>
      rw [hL] at hx
      have hx2 := Option.some.inj hx
      show some (strV l) = some (Value.string x)
      rw [← hx2]; rfl
  have hc := Tryz.strings_Join g 0 c xs S w hcells hbk (by omega) hcap (by rw [hxm]; exact hlen)
  rw [hxl, hxm] at hc
  exact hc
/-- A row of texts grows with a loop. -/
def SRel (W0 : World) (L : List By) (m : Nat) (pv iv : Value) (wr : World) : Prop := Below W0.heap.size W0 wr ∧ ∃ (k c : Nat) (A : Option Addr), k ≤ m ∧ iv = .int .i64 k ∧ pv = .slice A k c ∧ Hid (wr.ownsRow W0.heap.size 9 1 (.slice A k c) k ((L.take k).map strV))
theorem SRel.step {W w' : World} {L : List By} {k c g : Nat} {x : By} {B : ByteArray} (hx : L[k]? = some x) (hB : B.data.toList = x) (h : w'.ownsRow W.heap.size 9 1 (.slice (some ⟨g, 0, none⟩) (k + 1) c) (k + 1) ((L.take k).map strV ++ [.string B])) : w'.ownsRow W.heap.size 9 1 (.slice (some ⟨g, 0, none⟩) (k + 1) c) (k + 1) ((L.take (k + 1)).map strV) := by
  rw [List.take_add_one, hx, Option.toList_some, List.map_append, List.map_cons, List.map_nil, ← hB, ← strV_of]
  exact h
theorem join_len20 {L : List By} (S : By) (hS : S.length = 1) (h : ∀ x ∈ L, x.length ≤ 60) (hn : L.length ≤ 100000) : (Lib.join L S).length ≤ 10000000 := by
  cases L with
  | nil => simp [Lib.join_nil]
  | cons x r =>
    have key : ∀ M : List By, (∀ x ∈ M, x.length ≤ 60) → Lib.lens M ≤ 60 * M.length := by
      intro M
      induction M with
      | nil => intro _; simp [Lib.lens]
      | cons y M ih =>
        intro hM
        have h1 := ih fun z hz => hM z (List.mem_cons_of_mem _ hz)
        have h2 := hM y (List.mem_cons_self ..)
        simp only [Lib.lens, List.map_cons, List.sum_cons, List.length_cons] at h1 ⊢
        omega
    rw [Lib.join_length]
    have := key (x :: r) h
    rw [List.length_cons] at hn this
    rw [hS]
    omega
set_option maxRecDepth 20000 in
set_option maxHeartbeats 1000000 in
theorem list_any (l : List Int) (A : Option Addr) (n c : Nat) (hn : n = l.length) (w : World) (ht : Tabs w) (hI : Ints w w.heap.size A l) (h64 : ∀ x ∈ l, in64 x) (hlen : n ≤ 100000) :
    Calls Tryz.prog 21 #[.slice A n c] w fun e w' => e = .returned (.string ⟨(listF l).toArray⟩) ∧ Below w.heap.size w w' := by
  have HI := Lib.hid (fun w' (h' : Below w.heap.size w w') => hI.below h')
  have HTb : Hid (∀ w', Below w.heap.size w w' → Tabs w') := Lib.hid (fun w' h => ht.below h)
  have H64 := Lib.hid h64
  have HN := Lib.hid hn
  obtain ⟨r, hr⟩ : ∃ r, listF l = r := ⟨_, rfl⟩
  have HR := Lib.hid hr
  rw [hr]
  clear hI ht h64 hr
  go_enter Tryz.func21, Tryz.ntmps21
  by_cases h0 : n = 0
  · have hr : r = [46] := by
      rw [← HR.out]
      unfold listF
      rw [if_pos (List.eq_nil_of_length_eq_zero (by omega))]
    subst hr
    subst h0
    clear hn
    go_wp2
    go_ret
    exact ⟨rfl, Below.refl _ _⟩
  · have hn0 : ¬ (n : Int) = 0 := by omega
    clear hn
    go_upto_region 5 with fail
    try simp only [show ((n : Int) == 0) = false by simpa using h0, show decide ((n : Int) = 0) = false by simpa using h0, show (n == 0) = false by simpa using h0, show decide (n = 0) = false by simpa using h0]
    go_loopw [3, 11] (SRel w (l.map Lib.itoa) n) (fun _ i _ => n - (intOf i).toNat)
    case atStart => exact ⟨Below.refl _ _, 0, 0, none, by omega, rfl, rfl, Lib.hid (World.ownsRow_nil _ _ _ _)⟩
    case round =>
      obtain ⟨hb, k, c1, A1, hk, rfl, rfl, hrow⟩ := hrel
      have HBV := Lib.hid hb
      have hbz := hb.size
      clear hb
      by_cases hlt : k < n
      · obtain ⟨ad, x, hA, hadb, hx, hcell⟩ := (HI.out _ HBV.out).at_ (k := k) (by rw [← HN.out]; exact hlt)
        have hx64 := H64.out _ (List.mem_of_getElem? hx)
        have HX := Lib.hid (show (l.map Lib.itoa)[k]? = some (Lib.itoa x) by rw [List.getElem?_map, hx]; rfl)
        have hk0 : (0 : Int) ≤ (k : Int) := by omega
        have hkn : (k : Int) < (n : Int) := by omega
        have hT := HTb.out _ HBV.out
        subst hA
        clear hx
        go_wp2_with (first
          | (go_at_call 41; refine (decW_any x hx64 _ hT).mono ?_; rintro e2 w2 ⟨rfl, hb2⟩; have hbz2 := hb2.size; have hrow2 := own_below hrow.out hb2)
          | (at_builtin; refine push_one elem_str rfl _ _ rfl w.heap.size _ k ((List.take k (l.map Lib.itoa)).map strV) rfl hrow2 _ rfl rfl (by omega) (by omega) ?_; intro g' c' w3 hown3 hb4))
        go_roundw
        case rel => exact ⟨(HBV.out.trans (hb2.mono hbz)).trans hb4, k + 1, c', _, by omega, by go_num, rfl, Lib.hid (SRel.step HX.out (by unfold decW; simp) hown3)⟩
        case measure => simp [intOf]; omega
      · have hkn : ¬ (k : Int) < (n : Int) := by omega
        have hke : k = n := by omega
        subst hke
        obtain ⟨g, c2, hv, _, _⟩ := hrow.out.form (by omega)
        injection hv with e1 e2 e3
        subst e1
        have hall : (l.map Lib.itoa).take k = l.map Lib.itoa := List.take_of_length_le (by rw [List.length_map, ← HN.out]; exact Nat.le_refl _)
        have hjl : (Lib.join (l.map Lib.itoa) [44]).length ≤ 140737488355328 := Nat.le_trans (join_len20 [44] rfl (fun y hy => by
          obtain ⟨z, hz, rfl⟩ := List.mem_map.1 hy
          have := itoa_len (H64.out z hz)
          omega) (by rw [List.length_map, ← HN.out]; exact hlen)) (by decide)
        have HJ := Lib.hid (sjoin_any ⟨#[44]⟩ (l.map Lib.itoa) g k c1 w.heap.size wr (by rw [List.length_map]; exact HN.out) (by rw [← hall]; exact hrow.out) (by omega) hlen hjl)
        have hr : r = Lib.join (l.map Lib.itoa) [44] := by
          rw [← HR.out]
          unfold listF
          rw [if_neg (fun e => by rw [HN.out, e] at h0; exact h0 rfl)]
        subst hr
        clear hall hjl e2 e3 hrow
        go_wp2_with (go_at_call 42; refine HJ.out.mono ?_; rintro e w1 ⟨rfl, hb1⟩)
        go_ret
        exact ⟨rfl, HBV.out.trans (hb1.mono hbz)⟩
end Go.Proofs.YthefooacfcagbaaGreatDoor.spc
