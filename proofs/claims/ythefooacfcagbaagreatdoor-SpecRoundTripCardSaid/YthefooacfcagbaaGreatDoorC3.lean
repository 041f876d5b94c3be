/- Joined texts: InsI InsJ. -/
import Derived.Test.YthefooacfcagbaaGreatDoorC2
import Derived.Test.YthefooacfcagbaaGreatDoorC1
import Derived.Deep.RegionHeld3
import Derived.Deep.RegionWith
import Derived.Outline
namespace Go.Proofs.YthefooacfcagbaaGreatDoor.ins
open Go.RowKit
open lib rd typ app flts note txt und cat rul net
set_option linter.unusedVariables false
set_option linter.unusedSimpArgs false
def OkE (E : List Int) : Prop := ∀ e ∈ E, -100 ≤ e ∧ e ≤ 100
def OkF (fs : List Flt) : Prop := ∀ f ∈ fs, (-100 ≤ f.err ∧ f.err ≤ 100) ∧ f.at_.size ≤ 1000
theorem OkE.nil : OkE [] := fun e h => by cases h
theorem OkE.push {xs : List Int} {r : Bool} {u : Int} (h : OkE xs) (hu : -100 ≤ u ∧ u ≤ 100) : OkE (pushIf xs r u) := fun e he => by
 rcases pushIf_mem he with h1 | rfl
 ·exact h e h1
 ·exact hu
theorem OkE.append {xs ys : List Int} (h : OkE xs) (h' : OkE ys) : OkE (xs ++ ys) := fun e he => by
 rcases List.mem_append.1 he with h1 | h1
 ·exact h e h1
 ·exact h' e h1
theorem OkF.nil : OkF [] := fun e h => by cases h
theorem OkF.append {xs ys : List Flt} (h : OkF xs) (h' : OkF ys) : OkF (xs ++ ys) := fun e he => by
 rcases List.mem_append.1 he with h1 | h1
 ·exact h e h1
 ·exact h' e h1
theorem OkF.one {e : Int} {s : ByteArray} (h : -100 ≤ e ∧ e ≤ 100) (hs : s.size ≤ 1000) : OkF [⟨e, s⟩] := fun f hf => by
 rw [List.mem_singleton] at hf
 subst hf
 exact ⟨h, hs⟩
theorem OkF.of {E : List Int} {s : ByteArray} (h : OkE E) (hs : s.size ≤ 1000) : OkF (E.map fun e => ⟨e, s⟩) := fun f hf => by
 obtain ⟨e, he, rfl⟩ := List.mem_map.1 hf
 exact ⟨h e he, hs⟩
theorem OkF.fits {fs : List Flt} (h : OkF fs) : ∀ f ∈ fs, FltFits f := fun f hf => by
 obtain ⟨⟨h1, h2⟩, h3⟩ := h f hf
 unfold FltFits
 omega
theorem dec_sz (n : Nat) : (decS n).size ≤ 1000 := Nat.le_trans (decS_size n) (by decide)
theorem OkF.mk {i : Nat} {E : List Int} (h : OkE E) : OkF (mkF i E) := OkF.of h (dec_sz i)
theorem tvTo_ok (l : List Pt) : ∀ j, OkF (trv.tvTo l j)
 | 0 => by
  unfold trv.tvTo
  split
  ·exact OkF.one (by decide) (by decide)
  ·exact OkF.nil
 | j + 1 => by
  rw [trv.tvTo]
  refine (tvTo_ok l j).append ?_
  unfold trv.tvAt
  split
  ·unfold trv.tvP
   refine OkF.append ?_ ?_
   all_goals
    split
    ·exact OkF.one (by decide) (dec_sz j)
    ·exact OkF.nil
  ·exact OkF.nil
theorem slTo_ok (l : List Pt) : ∀ j, OkE (slTo l j)
 | 0 => by
  unfold slTo
  split
  ·intro e he; simp at he; omega
  ·exact OkE.nil
 | j + 1 => by
  rw [slTo]
  refine (slTo_ok l j).append ?_
  unfold slAt
  split
  ·unfold slP
   split
   ·intro e he; simp at he; omega
   ·exact OkE.nil
  ·exact OkE.nil
theorem arcE_ok (P : Int) (ks : List (Int × Int × Int)) (x : Arc) : OkE (arcE P ks x) := by
 unfold arcE
 refine ((((OkE.nil.push ?_).push ?_).push ?_).append ?_).append (slTo_ok _ _)
 ·decide
 ·decide
 ·decide
 ·intro e he
  obtain ⟨f, hf, rfl⟩ := List.mem_map.1 he
  exact (tvTo_ok _ _ f hf).1
theorem plc_sz (i : Nat) : (plcS i).size ≤ 1000 := by
 have := decS_size i
 unfold plcS
 rw [ByteArray.size_append]
 exact Nat.le_trans (Nat.add_le_add_left this _) (by decide)
theorem arc_sz (i : Nat) : (arcS i).size ≤ 1000 := by
 have := decS_size i
 unfold arcS
 rw [ByteArray.size_append]
 exact Nat.le_trans (Nat.add_le_add_left this _) (by decide)
theorem plTo_ok (l : List ByteArray) : ∀ j, OkF (plTo l j)
 | 0 => by
  unfold plTo
  split
  ·exact OkF.one (by decide) (by decide)
  ·exact OkF.nil
 | j + 1 => by
  rw [plTo]
  refine (plTo_ok l j).append ?_
  unfold plAt
  split
  ·unfold plP
   split
   ·split
    ·exact OkF.one (by decide) (plc_sz j)
    ·exact OkF.nil
   ·exact OkF.one (by decide) (plc_sz j)
  ·exact OkF.nil
theorem netTo_ok (n : Net) : ∀ j, OkF (netTo n j)
 | 0 => by
  unfold netTo
  refine (plTo_ok _ _).append ?_
  split
  ·exact OkF.one (by decide) (by decide)
  ·exact OkF.nil
 | j + 1 => by
  rw [netTo]
  refine (netTo_ok n j).append ?_
  unfold arAt
  split
  ·exact OkF.of (arcE_ok _ _ _) (arc_sz j)
  ·exact OkF.nil
theorem fltsTo_ok (P : Int) (l : List Ty) : ∀ j, OkF (flt.fltsTo P l j)
 | 0 => by
  unfold flt.fltsTo
  split
  ·exact OkF.nil
  ·exact OkF.one (by decide) (by decide)
 | j + 1 => by
  rw [flt.fltsTo]
  refine (fltsTo_ok P l j).append ?_
  unfold flt.fltsAt
  split
  ·refine OkF.mk (i := j) ?_
   unfold flt.errsL
   repeat (refine OkE.push ?_ (by decide))
   exact OkE.nil
  ·exact OkF.nil
theorem ofltsTo_ok (P dims types : Int) (l : List Ord) : ∀ j, OkF (ord.ofltsTo P dims types l j)
 | 0 => by
  unfold ord.ofltsTo
  split
  ·exact OkF.nil
  ·exact OkF.one (by decide) (by decide)
 | j + 1 => by
  rw [ord.ofltsTo]
  refine (ofltsTo_ok P dims types l j).append ?_
  unfold ord.ofltsAt
  split
  ·refine OkF.mk (i := j) ?_
   unfold ord.errsO
   repeat (refine OkE.push ?_ (by decide))
   exact OkE.nil
  ·exact OkF.nil
theorem at_sz (word : ByteArray) (hw : word.size ≤ 900) (i : Nat) : (atS word i).size ≤ 1000 := by
 have := decS_size i
 unfold atS
 rw [ByteArray.size_append, ByteArray.size_append]
 have h1 : (⟨#[32]⟩ : ByteArray).size = 1 := rfl
 omega
theorem pairsTo_ok (orders : Int) (word : ByteArray) (hw : word.size ≤ 900) (same : Int × Int → Int × Int → Bool) (l : List (Int × Int)) : ∀ j, OkF (pairsTo orders word same l j)
 | 0 => by
  unfold pairsTo
  split
  ·exact OkF.nil
  ·exact OkF.one (by decide) (by omega)
 | j + 1 => by
  rw [pairsTo]
  refine (pairsTo_ok orders word hw same l j).append ?_
  unfold pairAt
  split
  ·unfold pairP
   split
   ·exact OkF.one (by decide) (at_sz word hw j)
   ·split
    ·exact OkF.one (by decide) (at_sz word hw j)
    ·exact OkF.nil
  ·exact OkF.nil
theorem rulesF_ok (orders : Int) (a b : List (Int × Int)) : OkF (rulesF orders a b) := (pairsTo_ok _ _ (by decide) _ _ _).append (pairsTo_ok _ _ (by decide) _ _ _)
def netS : ByteArray := ⟨#[110, 101, 116]⟩
def typesS : ByteArray := ⟨#[116, 121, 112, 101, 115]⟩
def ordersS : ByteArray := ⟨#[111, 114, 100, 101, 114, 115]⟩
def rulesS : ByteArray := ⟨#[114, 117, 108, 101, 115]⟩
def insN (x : Ins) : List Flt := netTo x.net x.net.arcs.length
def insT (x : Ins) : List Flt := flt.fltsTo ((x.net.places.length : Int) - 1) x.types x.types.length
def insO (x : Ins) : List Flt := ord.ofltsTo ((x.net.places.length : Int) - 1) (flt.dimsN x.types) x.types.length x.orders x.orders.length
def insR (x : Ins) : List Flt := rulesF x.orders.length x.apart x.before
def insF (x : Ins) : List Flt := catL [undL netS (insN x), undL typesS (insT x), undL ordersS (insO x), undL rulesS (insR x)] 4
end Go.Proofs.YthefooacfcagbaaGreatDoor.ins
namespace Go.Proofs.YthefooacfcagbaaGreatDoor.ins
open Go.RowKit
open lib rd typ app flts note txt und cat rul net
set_option linter.unusedVariables false
set_option linter.unusedSimpArgs false
structure Lim (x : Ins) : Prop where
 places : x.net.places.length ≤ 100
 arcs : x.net.arcs.length ≤ 10000
 points : ∀ a ∈ x.net.arcs, a.travel.length ≤ 100 ∧ a.slow.length ≤ 1000
 few : ∀ (j : Nat) a, x.net.arcs[j]? = some a → arcE x.net.places.length ((x.net.arcs.take j).map wayK) a ≠ [] → j < 100
 net : (insN x).length ≤ 200000
 types : x.types.length ≤ 20
 orders : x.orders.length ≤ 20
 apart : x.apart.length ≤ 24
 before : x.before.length ≤ 24
theorem undL_len (word : ByteArray) (fs : List Flt) : (undL word fs).length = fs.length := by unfold undL; rw [List.length_map]
theorem under_of (word : ByteArray) (A : Option Addr) (c : Nat) (fs : List Flt) (w : World) (base : Nat) (h : Fown w base A c fs) (hok : OkF fs) (hl : fs.length ≤ 1000000) (hws : word.size ≤ 1000000) :
  Calls Tryz.prog 44 #[.string word, .slice A fs.length c] w (FltsOut w (undL word fs)) :=
 under_any word A c fs w (flts_row h hok.fits (by omega)) hl hws (fun f hf => Nat.le_trans (hok f hf).2 (by decide))
theorem four_rows (w : World) {a b c d : List Flt} {A B C D : Option Addr} (ha : Reads w w.heap.size 2 A a.length (fcs a)) (hb : Reads w w.heap.size 2 B b.length (fcs b)) (hc : Reads w w.heap.size 2 C c.length (fcs c)) (hd : Reads w w.heap.size 2 D d.length (fcs d)) (ca cb cc cd : Nat) (t : TypeId) :
  FRows (w.alloc (.cells #[.slice A a.length ca, .slice B b.length cb, .slice C c.length cc, .slice D d.length cd] t)) (w.heap.size + 1) (some ⟨w.heap.size, 0, none⟩) [a, b, c, d] := fun i fs hi => by
 have hn := fun j u hu => World.news_of_block (w := w.alloc (.cells #[.slice A a.length ca, .slice B b.length cb, .slice C c.length cc, .slice D d.length cd] t)) (B := w.heap.size) (heap_alloc_new w _) j u hu
 have hk : ∀ {X : Option Addr} {x : List Flt}, Reads w w.heap.size 2 X x.length (fcs x) → Reads (w.alloc (.cells #[.slice A a.length ca, .slice B b.length cb, .slice C c.length cc, .slice D d.length cd] t)) (w.heap.size + 1) 2 X x.length (fcs x) := fun h => (h.alloc (Nat.le_refl _) _).more (by omega)
 rcases i with _ | _ | _ | _ | i
 ·simp at hi
  subst hi
  exact ⟨_, A, ca, rfl, Nat.lt_succ_self _, hn 0 _ rfl, hk ha⟩
 ·simp at hi
  subst hi
  exact ⟨_, B, cb, rfl, Nat.lt_succ_self _, hn 1 _ rfl, hk hb⟩
 ·simp at hi
  subst hi
  exact ⟨_, C, cc, rfl, Nat.lt_succ_self _, hn 2 _ rfl, hk hc⟩
 ·simp at hi
  subst hi
  exact ⟨_, D, cd, rfl, Nat.lt_succ_self _, hn 3 _ rfl, hk hd⟩
 ·simp at hi
theorem keepF {w w' : World} {base c : Nat} {A : Option Addr} {fs : List Flt} (h : Fown w base A c fs) (hb : Below w.heap.size w w') : Fown w' base A c fs := own_below h hb
theorem rowF {w : World} {base c : Nat} {A : Option Addr} {fs : List Flt} (h : Fown w base A c fs) : Reads w w.heap.size 2 A fs.length (fcs fs) := Reads.of_own h
set_option maxRecDepth 100000 in
set_option maxHeartbeats 8000000 in
theorem icheck_any (x : Ins) (Q : InP) (w : World) (h : InAt w w.heap.size x Q) (hl : Lim x) : Calls Tryz.prog 19 #[InV x Q] w (FltsOut w (insF x)) := by
 obtain ⟨A0, c0, A1, c1, A2, c2, A3, c3, A4, c4, A5, c5⟩ := Q
 obtain ⟨E, hE⟩ : ∃ E, insF x = E := ⟨_, rfl⟩
 obtain ⟨E1, hE1⟩ : ∃ E, insN x = E := ⟨_, rfl⟩
 obtain ⟨E2, hE2⟩ : ∃ E, insT x = E := ⟨_, rfl⟩
 obtain ⟨E3, hE3⟩ : ∃ E, insO x = E := ⟨_, rfl⟩
 obtain ⟨E4, hE4⟩ : ∃ E, insR x = E := ⟨_, rfl⟩
 have o1 : OkF E1 := by rw [← hE1]; exact netTo_ok _ _
 have o2 : OkF E2 := by rw [← hE2]; exact fltsTo_ok _ _ _
 have o3 : OkF E3 := by rw [← hE3]; exact ofltsTo_ok _ _ _ _ _
 have o4 : OkF E4 := by rw [← hE4]; exact rulesF_ok _ _ _
 have l1 : E1.length ≤ 200000 := by rw [← hE1]; exact hl.net
 have l2 : E2.length ≤ 1000 := by
  rw [← hE2]
  have := flt.fltsTo_len ((x.net.places.length : Int) - 1) x.types x.types.length
  have := hl.types
  unfold insT
  omega
 have l3 : E3.length ≤ 1000 := by
  rw [← hE3]
  have := ord.ofltsTo_len ((x.net.places.length : Int) - 1) (flt.dimsN x.types) x.types.length x.orders x.orders.length
  have := hl.orders
  unfold insO
  omega
 have l4 : E4.length ≤ 1000 := by
  rw [← hE4]
  have := pairsTo_len x.orders.length apartS looseB x.apart x.apart.length
  have := pairsTo_len x.orders.length beforeS eqg.twoEq x.before x.before.length
  have := hl.apart
  have := hl.before
  unfold insR rulesF
  rw [List.length_append]
  omega
 have HE : Hid (E = catL [undL netS E1, undL typesS E2, undL ordersS E3, undL rulesS E4] 4) := Lib.hid (by rw [← hE, ← hE1, ← hE2, ← hE3, ← hE4]; rfl)
 have HEL : Hid ((catL [undL netS E1, undL typesS E2, undL ordersS E3, undL rulesS E4] 4).length ≤ 1000000) := Lib.hid (by
  have e : catL [undL netS E1, undL typesS E2, undL ordersS E3, undL rulesS E4] 4 = undL netS E1 ++ (undL typesS E2 ++ (undL ordersS E3 ++ (undL rulesS E4 ++ []))) := rfl
  rw [e]
  simp only [List.length_append, undL_len, List.length_nil]
  omega)
 have k1 : ∀ w', InAt w' w'.heap.size x ⟨A0, c0, A1, c1, A2, c2, A3, c3, A4, c4, A5, c5⟩ → Calls Tryz.prog 45 #[.agg #[.slice A0 x.net.places.length c0, .slice A1 x.net.arcs.length c1]] w' (FltsOut w' E1) := fun w' hi => by
  rw [← hE1]
  exact ncheck_any x.net A0 c0 A1 c1 w' hi.places hi.arcs hl.places hl.arcs hl.points hl.few
 have k2 : ∀ w', InAt w' w'.heap.size x ⟨A0, c0, A1, c1, A2, c2, A3, c3, A4, c4, A5, c5⟩ → Calls Tryz.prog 46 #[.agg #[.slice A0 x.net.places.length c0, .slice A1 x.net.arcs.length c1], .slice A2 x.types.length c2] w' (flt.FltsOut w' E2) := fun w' hi => by
  rw [← hE2]
  exact flt.check_any x.net A0 c0 A1 c1 A2 c2 x.types w' hi.types hl.types hi.capT hi.places.len
 have k3 : ∀ w', InAt w' w'.heap.size x ⟨A0, c0, A1, c1, A2, c2, A3, c3, A4, c4, A5, c5⟩ → Calls Tryz.prog 47 #[.agg #[.slice A0 x.net.places.length c0, .slice A1 x.net.arcs.length c1], .int .i64 (flt.dimsN x.types), .int .i64 x.types.length, .slice A3 x.orders.length c3] w' (FltsOut w' E3) := fun w' hi => by
  rw [← hE3]
  exact ord.check_any x.net.places.length A0 c0 A1 x.net.arcs.length c1 (flt.dimsN x.types) x.types.length A3 c3 x.orders w' hi.orders hl.orders hi.capO hi.places.len
 have k4 : ∀ w', InAt w' w'.heap.size x ⟨A0, c0, A1, c1, A2, c2, A3, c3, A4, c4, A5, c5⟩ → Calls Tryz.prog 49 #[.int .i64 x.orders.length, .slice A4 x.apart.length c4, .slice A5 x.before.length c5] w' (FltsOut w' E4) := fun w' hi => by
  rw [← hE4]
  exact rcheck_any x.orders.length A4 c4 x.apart A5 c5 x.before w' hi.apart hi.before hl.apart hl.before hi.capA hi.capB
 have kd : ∀ w', InAt w' w'.heap.size x ⟨A0, c0, A1, c1, A2, c2, A3, c3, A4, c4, A5, c5⟩ → Calls Tryz.prog 48 #[.slice A2 x.types.length c2] w' fun e w'' => e = .returned (.int .i64 (flt.dimsN x.types)) ∧ w' = w'' := fun w' hi => flt.dims_any A2 c2 x.types w' _ hi.types
 obtain ⟨W0, hW0⟩ : ∃ W0, w.alloc (.cells #[.slice A0 x.net.places.length c0, .slice A1 x.net.arcs.length c1, .slice A2 x.types.length c2, .slice A3 x.orders.length c3, .slice A4 x.apart.length c4, .slice A5 x.before.length c5] 30) = W0 := ⟨_, rfl⟩
 have hB0 : Below w.heap.size w W0 := by rw [← hW0]; exact (Below.refl _ _).alloc (Nat.le_refl _) _
 have z0 := hB0.size
 have hs0 : w.heap.size < W0.heap.size := by rw [← hW0]; simp
 have HI : Hid (∀ w', Below W0.heap.size W0 w' → InAt w' w'.heap.size x ⟨A0, c0, A1, c1, A2, c2, A3, c3, A4, c4, A5, c5⟩) := Lib.hid fun w' hb => (h.go hB0).go hb
 have hS : ∀ w', Below W0.heap.size W0 w' → (Below W0.heap.size W0 w' ∧ w'.cell? ⟨w.heap.size, 0, none⟩ = some (.slice A0 x.net.places.length c0) ∧ w'.cell? ⟨w.heap.size, 1, none⟩ = some (.slice A1 x.net.arcs.length c1) ∧ w'.cell? ⟨w.heap.size, 2, none⟩ = some (.slice A2 x.types.length c2) ∧ w'.cell? ⟨w.heap.size, 3, none⟩ = some (.slice A3 x.orders.length c3) ∧ w'.cell? ⟨w.heap.size, 4, none⟩ = some (.slice A4 x.apart.length c4) ∧ w'.cell? ⟨w.heap.size, 5, none⟩ = some (.slice A5 x.before.length c5)) := fun w' hb => by
  have hk := fun (o : Nat) => hb.cell (p := ⟨w.heap.size, o, none⟩) hs0
  refine ⟨hb, (hk _).trans ?_, (hk _).trans ?_, (hk _).trans ?_, (hk _).trans ?_, (hk _).trans ?_, (hk _).trans ?_⟩
  all_goals (rw [← hW0]; simp)
 have B0 : Below W0.heap.size W0 W0 := Below.refl _ _
 have HW0 := Lib.hid hW0
 have HK := Lib.hid (And.intro k1 (And.intro k2 (And.intro k3 (And.intro k4 kd))))
 rw [hE]
 clear hE hE1 hE2 hE3 hE4 hW0 h hl k1 k2 k3 k4 kd
 simp only [InV]
 go_enter Tryz.func19, Tryz.ntmps19
 go_upto_region 1 with fail
 rw [HW0.out]
 (refine wp_region_held_drew (S := (fun w' => Below W0.heap.size W0 w' ∧ w'.cell? ⟨w.heap.size, 0, none⟩ = some (.slice A0 x.net.places.length c0) ∧ w'.cell? ⟨w.heap.size, 1, none⟩ = some (.slice A1 x.net.arcs.length c1) ∧ w'.cell? ⟨w.heap.size, 2, none⟩ = some (.slice A2 x.types.length c2) ∧ w'.cell? ⟨w.heap.size, 3, none⟩ = some (.slice A3 x.orders.length c3) ∧ w'.cell? ⟨w.heap.size, 4, none⟩ = some (.slice A4 x.apart.length c4) ∧ w'.cell? ⟨w.heap.size, 5, none⟩ = some (.slice A5 x.before.length c5))) (by kernel_rfl) ?_ (fun hHeld => ?_))
 ·exact hS _ (B0.drew)
 (refine lib.tk 0 ?_ rfl (by kernel_rfl) (fun _ _ _ h => h) ?_ (by assumption) ?_; rotate_left; (focus (intro w hSw; (try dsimp only at hSw); go_simp; all_goals with_reducible rfl)); (try simp only [lib.hly]))
 (refine lib.tk 1 ?_ rfl (by kernel_rfl) (fun _ _ _ h => h) ?_ (by assumption) ?_; rotate_left; (focus (intro w hSw; (try dsimp only at hSw); go_simp; all_goals with_reducible rfl)); (try simp only [lib.hly]))
 (refine lib.tk 4 ?_ rfl (by kernel_rfl) (fun _ _ _ h => h) ?_ (by assumption) ?_; rotate_left; (focus (intro w hSw; (try dsimp only at hSw); go_simp; all_goals with_reducible rfl)); (try simp only [lib.hly]))
 (refine lib.tk 5 ?_ rfl (by kernel_rfl) (fun _ _ _ h => h) ?_ (by assumption) ?_; rotate_left; (focus (intro w hSw; (try dsimp only at hSw); go_simp; all_goals with_reducible rfl)); (try simp only [lib.hly]))
 (refine lib.tk 6 ?_ rfl (by kernel_rfl) (fun _ _ _ h => h) ?_ (by assumption) ?_; rotate_left; (focus (intro w hSw; (try dsimp only at hSw); go_simp; all_goals with_reducible rfl)); (try simp only [lib.hly]))
 (refine lib.tk 7 ?_ rfl (by kernel_rfl) (fun _ _ _ h => h) ?_ (by assumption) ?_; rotate_left; (focus (intro w hSw; (try dsimp only at hSw); go_simp; all_goals with_reducible rfl)); (try simp only [lib.hly]))
 (refine lib.tk 10 ?_ rfl (by kernel_rfl) (fun _ _ _ h => h) ?_ (by assumption) ?_; rotate_left; (focus (intro w hSw; (try dsimp only at hSw); go_simp; all_goals with_reducible rfl)); (try simp only [lib.hly]))
 (refine lib.tk 11 ?_ rfl (by kernel_rfl) (fun _ _ _ h => h) ?_ (by assumption) ?_; rotate_left; (focus (intro w hSw; (try dsimp only at hSw); go_simp; all_goals with_reducible rfl)); (try simp only [lib.hly]))
 (refine lib.tk 12 ?_ rfl (by kernel_rfl) (fun _ _ _ h => h) ?_ (by assumption) ?_; rotate_left; (focus (intro w hSw; (try dsimp only at hSw); go_simp; all_goals with_reducible rfl)); (try simp only [lib.hly]))
 (refine lib.tk 13 ?_ rfl (by kernel_rfl) (fun _ _ _ h => h) ?_ (by assumption) ?_; rotate_left; (focus (intro w hSw; (try dsimp only at hSw); go_simp; all_goals with_reducible rfl)); (try simp only [lib.hly]))
 (refine lib.tk 15 ?_ rfl (by kernel_rfl) (fun _ _ _ h => h) ?_ (by assumption) ?_; rotate_left; (focus (intro w hSw; (try dsimp only at hSw); go_simp; all_goals with_reducible rfl)); (try simp only [lib.hly]))
 (refine lib.tk 16 ?_ rfl (by kernel_rfl) (fun _ _ _ h => h) ?_ (by assumption) ?_; rotate_left; (focus (intro w hSw; (try dsimp only at hSw); go_simp; all_goals with_reducible rfl)); (try simp only [lib.hly]))
 (refine lib.tk 17 ?_ rfl (by kernel_rfl) (fun _ _ _ h => h) ?_ (by assumption) ?_; rotate_left; (focus (intro w hSw; (try dsimp only at hSw); go_simp; all_goals with_reducible rfl)); (try simp only [lib.hly]))
 (refine lib.tk 18 ?_ rfl (by kernel_rfl) (fun _ _ _ h => h) ?_ (by assumption) ?_; rotate_left; (focus (intro w hSw; (try dsimp only at hSw); go_simp; all_goals with_reducible rfl)); (try simp only [lib.hly]))
 (refine lib.tk 19 ?_ rfl (by kernel_rfl) (fun _ _ _ h => h) ?_ (by assumption) ?_; rotate_left; (focus (intro w hSw; (try dsimp only at hSw); go_simp; all_goals with_reducible rfl)); (try simp only [lib.hly]))
 (refine lib.tk 22 ?_ rfl (by kernel_rfl) (fun _ _ _ h => h) ?_ (by assumption) ?_; rotate_left; (focus (intro w hSw; (try dsimp only at hSw); go_simp; all_goals with_reducible rfl)); (try simp only [lib.hly]))
 (refine lib.tk 23 ?_ rfl (by kernel_rfl) (fun _ _ _ h => h) ?_ (by assumption) ?_; rotate_left; (focus (intro w hSw; (try dsimp only at hSw); go_simp; all_goals with_reducible rfl)); (try simp only [lib.hly]))
 (refine lib.tk 24 ?_ rfl (by kernel_rfl) (fun _ _ _ h => h) ?_ (by assumption) ?_; rotate_left; (focus (intro w hSw; (try dsimp only at hSw); go_simp; all_goals with_reducible rfl)); (try simp only [lib.hly]))
 (refine lib.tk 25 ?_ rfl (by kernel_rfl) (fun _ _ _ h => h) ?_ (by assumption) ?_; rotate_left; (focus (intro w hSw; (try dsimp only at hSw); go_simp; all_goals with_reducible rfl)); (try simp only [lib.hly]))
 (refine lib.tk 26 ?_ rfl (by kernel_rfl) (fun _ _ _ h => h) ?_ (by assumption) ?_; rotate_left; (focus (intro w hSw; (try dsimp only at hSw); go_simp; all_goals with_reducible rfl)); (try simp only [lib.hly]))
 (refine lib.tk 27 ?_ rfl (by kernel_rfl) (fun _ _ _ h => h) ?_ (by assumption) ?_; rotate_left; (focus (intro w hSw; (try dsimp only at hSw); go_simp; all_goals with_reducible rfl)); (try simp only [lib.hly]))
 (refine lib.tk 28 ?_ rfl (by kernel_rfl) (fun _ _ _ h => h) ?_ (by assumption) ?_; rotate_left; (focus (intro w hSw; (try dsimp only at hSw); go_simp; all_goals with_reducible rfl)); (try simp only [lib.hly]))
 (refine wpAnyH_ready (rs := [2]) (by kernel_rfl) (by simp) ?_; refine AllReadyH.cons rfl (fun K hK => ?_) AllReadyH.nil; go_simp)
 go_at_call 45; refine (HK.out.1 _ (HI.out _ B0.drew)).mono ?_
 rintro e w1 ⟨F1, cF1, rfl, ownw1, bw1⟩
 have Bw1 : Below W0.heap.size W0 w1 := Below.trans (B0.drew) (bw1.mono (by first | omega | (simp <;> omega)))
 have zw1 := Bw1.size
 (refine hK.out _ _ ?_ (fun hHeld => ?_))
 ·exact hS _ Bw1
 clear hK K
 (try simp only [lib.hly])
 (refine wpAnyH_ready (rs := [3]) (by kernel_rfl) (by simp) ?_; refine AllReadyH.cons rfl (fun K hK => ?_) AllReadyH.nil; go_simp)
 go_at_call 44; refine (under_of netS F1 cF1 E1 _ _ ownw1 o1 (by omega) (by decide)).mono ?_
 rintro e w2 ⟨U1, cU1, rfl, ownw2, bw2⟩
 have Bw2 : Below W0.heap.size W0 w2 := Below.trans (Bw1) (bw2.mono (by first | omega | (simp <;> omega)))
 have zw2 := Bw2.size
 (refine hK.out _ _ ?_ (fun hHeld => ?_))
 ·exact hS _ Bw2
 clear hK K
 (try simp only [lib.hly])
 as_aux_lemma =>
  (refine wpAnyH_ready (rs := [8]) (by kernel_rfl) (by simp) ?_; refine AllReadyH.cons rfl (fun K hK => ?_) AllReadyH.nil; go_simp)
  go_at_call 46; refine (HK.out.2.1 _ (HI.out _ Bw2)).mono ?_
  rintro e w3 ⟨F2, cF2, rfl, ownw3, bw3⟩
  have Bw3 : Below W0.heap.size W0 w3 := Below.trans (Bw2) (bw3.mono (by first | omega | (simp <;> omega)))
  have zw3 := Bw3.size
  (refine hK.out _ _ ?_ (fun hHeld => ?_))
  ·exact hS _ Bw3
  clear hK K
  (try simp only [lib.hly])
  (refine wpAnyH_ready (rs := [9]) (by kernel_rfl) (by simp) ?_; refine AllReadyH.cons rfl (fun K hK => ?_) AllReadyH.nil; go_simp)
  go_at_call 44; refine (under_of typesS F2 cF2 E2 _ _ ownw3 o2 (by omega) (by decide)).mono ?_
  rintro e w4 ⟨U2, cU2, rfl, ownw4, bw4⟩
  have Bw4 : Below W0.heap.size W0 w4 := Below.trans (Bw3) (bw4.mono (by first | omega | (simp <;> omega)))
  have zw4 := Bw4.size
  (refine hK.out _ _ ?_ (fun hHeld => ?_))
  ·exact hS _ Bw4
  clear hK K
  (try simp only [lib.hly])
  as_aux_lemma =>
   (refine wpAnyH_ready (rs := [14]) (by kernel_rfl) (by simp) ?_; refine AllReadyH.cons rfl (fun K hK => ?_) AllReadyH.nil; go_simp)
   go_at_call 48
   refine (HK.out.2.2.2.2 _ (HI.out _ Bw4)).mono ?_
   rintro e we ⟨rfl, rfl⟩
   (refine hK.out _ _ ?_ (fun hHeld => ?_))
   ·exact hS _ Bw4
   clear hK K
   (try simp only [lib.hly])
   (refine wpAnyH_ready (rs := [20]) (by kernel_rfl) (by simp) ?_; refine AllReadyH.cons rfl (fun K hK => ?_) AllReadyH.nil; go_simp)
   go_at_call 47; refine (HK.out.2.2.1 _ (HI.out _ Bw4)).mono ?_
   rintro e w5 ⟨F3, cF3, rfl, ownw5, bw5⟩
   have Bw5 : Below W0.heap.size W0 w5 := Below.trans (Bw4) (bw5.mono (by first | omega | (simp <;> omega)))
   have zw5 := Bw5.size
   (refine hK.out _ _ ?_ (fun hHeld => ?_))
   ·exact hS _ Bw5
   clear hK K
   (try simp only [lib.hly])
   (refine wpAnyH_ready (rs := [21]) (by kernel_rfl) (by simp) ?_; refine AllReadyH.cons rfl (fun K hK => ?_) AllReadyH.nil; go_simp)
   go_at_call 44; refine (under_of ordersS F3 cF3 E3 _ _ ownw5 o3 (by omega) (by decide)).mono ?_
   rintro e w6 ⟨U3, cU3, rfl, ownw6, bw6⟩
   have Bw6 : Below W0.heap.size W0 w6 := Below.trans (Bw5) (bw6.mono (by first | omega | (simp <;> omega)))
   have zw6 := Bw6.size
   (refine hK.out _ _ ?_ (fun hHeld => ?_))
   ·exact hS _ Bw6
   clear hK K
   (try simp only [lib.hly])
   as_aux_lemma =>
    (refine wpAnyH_ready (rs := [29]) (by kernel_rfl) (by simp) ?_; refine AllReadyH.cons rfl (fun K hK => ?_) AllReadyH.nil; go_simp)
    go_at_call 49; refine (HK.out.2.2.2.1 _ (HI.out _ Bw6)).mono ?_
    rintro e w7 ⟨F4, cF4, rfl, ownw7, bw7⟩
    have Bw7 : Below W0.heap.size W0 w7 := Below.trans (Bw6) (bw7.mono (by first | omega | (simp <;> omega)))
    have zw7 := Bw7.size
    (refine hK.out _ _ ?_ (fun hHeld => ?_))
    ·exact hS _ Bw7
    clear hK K
    (try simp only [lib.hly])
    (refine wpAnyH_ready (rs := [30]) (by kernel_rfl) (by simp) ?_; refine AllReadyH.cons rfl (fun K hK => ?_) AllReadyH.nil; go_simp)
    go_at_call 44; refine (under_of rulesS F4 cF4 E4 _ _ ownw7 o4 (by omega) (by decide)).mono ?_
    rintro e w8 ⟨U4, cU4, rfl, ownw8, bw8⟩
    have Bw8 : Below W0.heap.size W0 w8 := Below.trans (Bw7) (bw8.mono (by first | omega | (simp <;> omega)))
    have zw8 := Bw8.size
    (refine hK.out _ _ ?_ (fun hHeld => ?_))
    ·exact hS _ Bw8
    clear hK K
    (try simp only [lib.hly])
    (refine wpAnyH_ready (rs := [31]) (by kernel_rfl) (by simp) ?_; refine AllReadyH.cons rfl (fun K hK => ?_) AllReadyH.nil)
    go_simp
    have B9 : Below W0.heap.size W0 (w8.alloc (.cells #[.slice U1 (undL netS E1).length cU1, .slice U2 (undL typesS E2).length cU2, .slice U3 (undL ordersS E3).length cU3, .slice U4 (undL rulesS E4).length cU4] 50)) := Bw8.alloc zw8 _
    (refine hK.out _ _ ?_ (fun hHeld => ?_))
    ·exact hS _ B9
    clear hK K
    (try simp only [lib.hly])
    have u2 := rowF (keepF (keepF (keepF (keepF (keepF (keepF ownw2 bw3) bw4) bw5) bw6) bw7) bw8)
    have u4 := rowF (keepF (keepF (keepF (keepF ownw4 bw5) bw6) bw7) bw8)
    have u6 := rowF (keepF (keepF ownw6 bw7) bw8)
    have HFR := Lib.hid (four_rows w8 u2 u4 u6 (rowF ownw8) cU1 cU2 cU3 cU4 50)
    clear u2 u4 u6
    (refine wpAnyH_ready (rs := [32]) (by kernel_rfl) (by simp) ?_; refine AllReadyH.cons rfl (fun K hK => ?_) AllReadyH.nil; go_simp)
    go_at_call 43
    refine (concat_any (some ⟨w8.heap.size, 0, none⟩) 4 [undL netS E1, undL typesS E2, undL ordersS E3, undL rulesS E4] _ (by have h := HFR.out; rw [World.size_alloc]; exact h) (Nat.le_trans (Nat.le_refl 4) (by omega)) HEL.out).mono ?_
    rintro e w9 ⟨G, cG, rfl, hownG, hbG⟩
    have BG : Below W0.heap.size W0 w9 := B9.trans (hbG.mono B9.size)
    (refine hK.out _ _ ?_ (fun hHeld => ?_))
    ·exact hS _ BG
    clear hK K
    (try simp only [lib.hly])
    (refine lib.tk 33 ?_ rfl (by kernel_rfl) (fun _ _ _ h => h) ?_ (by assumption) ?_; rotate_left; (focus (intro w hSw; (try dsimp only at hSw); go_simp; all_goals with_reducible rfl)); (try simp only [lib.hly]))
    (refine wpAnyH_done (by kernel_rfl) ?_ _)
    go_wp2_with fail
    go_ret
    have e : catL [undL netS E1, undL typesS E2, undL ordersS E3, undL rulesS E4] [undL netS E1, undL typesS E2, undL ordersS E3, undL rulesS E4].length = E := HE.out.symm
    rw [e] at hownG
    exact ⟨G, cG, by rw [HE.out]; rfl, own_less hownG (by have := B9.size; omega), hB0.trans (BG.mono z0)⟩
end Go.Proofs.YthefooacfcagbaaGreatDoor.ins
