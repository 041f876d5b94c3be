/- Joined texts: InsI InsJ Flat SamP AddA AddH LtlA BldG. -/
import Derived.Test.YtofabhenmplkoaaGreatDoorZ3
import Derived.Test.YtofabhenmplkoaaGreatDoorZ2
import Derived.Test.YtofabhenmplkoaaGreatDoorZ1
import Derived.Deep.RegionHeld3
import Derived.Deep.RegionWith
import Derived.Outline
import Derived.Test.YtofabhenmplkoaaGreatDoorBase
import Derived.Great.BuildSlice
import Derived.Deep.DeepCutAuto
import Derived.RangeFuncBox
set_option linter.unusedVariables false
set_option linter.unusedSimpArgs false
namespace Go.Proofs.YtofabhenmplkoaaGreatDoor.ins
open Go.RowKit
open lib rd typ app flts note txt und cat rul net
def OkE (E : List Int) : Prop := ∀ e ∈ E, -100 ≤ e ∧ e ≤ 100
def OkF (fs : List Flt) : Prop := ∀ f ∈ fs, (-100 ≤ f.err ∧ f.err ≤ 100) ∧ f.at_.size ≤ 1000
theorem OkE.nil : OkE [] := fun e h => by cases h
theorem OkE.push {xs : List Int} {r : Bool} {u : Int} (h : OkE xs) (hu : -100 ≤ u ∧ u ≤ 100) : OkE (pushIf xs r u) := fun e he => by
 rcases pushIf_mem he with h1 | rfl
 ·exact h e h1
 ·exact hu
theorem OkE.append {xs ys : List Int} (h : OkE xs) (h' : OkE ys) : OkE (xs ++ ys) := fun e he => by
 rcases List.mem_append.1 he with h1 | h1
 ·exact h e h1
 ·exact h' e h1
theorem OkF.nil : OkF [] := fun e h => by cases h
theorem OkF.append {xs ys : List Flt} (h : OkF xs) (h' : OkF ys) : OkF (xs ++ ys) := fun e he => by
 rcases List.mem_append.1 he with h1 | h1
 ·exact h e h1
 ·exact h' e h1
theorem OkF.one {e : Int} {s : ByteArray} (h : -100 ≤ e ∧ e ≤ 100) (hs : s.size ≤ 1000) : OkF [⟨e, s⟩] := fun f hf => by
 rw [List.mem_singleton] at hf
 subst hf
 exact ⟨h, hs⟩
theorem OkF.of {E : List Int} {s : ByteArray} (h : OkE E) (hs : s.size ≤ 1000) : OkF (E.map fun e => ⟨e, s⟩) := fun f hf => by
 obtain ⟨e, he, rfl⟩ := List.mem_map.1 hf
 exact ⟨h e he, hs⟩
theorem OkF.fits {fs : List Flt} (h : OkF fs) : ∀ f ∈ fs, FltFits f := fun f hf => by
 obtain ⟨⟨h1, h2⟩, h3⟩ := h f hf
 unfold FltFits
 omega
theorem dec_sz (n : Nat) : (decS n).size ≤ 1000 := Nat.le_trans (decS_size n) (by decide)
theorem OkF.mk {i : Nat} {E : List Int} (h : OkE E) : OkF (mkF i E) := OkF.of h (dec_sz i)
theorem tvTo_ok (l : List Pt) : ∀ j, OkF (trv.tvTo l j)
 | 0 => by
  unfold trv.tvTo
  split
  ·exact OkF.one (by decide) (by decide)
  ·exact OkF.nil
 | j + 1 => by
  rw [trv.tvTo]
  refine (tvTo_ok l j).append ?_
  unfold trv.tvAt
  split
  ·unfold trv.tvP
   refine OkF.append ?_ ?_
   all_goals
    split
    ·exact OkF.one (by decide) (dec_sz j)
    ·exact OkF.nil
  ·exact OkF.nil
theorem slTo_ok (l : List Pt) : ∀ j, OkE (slTo l j)
 | 0 => by
  unfold slTo
  split
  ·intro e he; simp at he; omega
  ·exact OkE.nil
 | j + 1 => by
  rw [slTo]
  refine (slTo_ok l j).append ?_
  unfold slAt
  split
  ·unfold slP
   split
   ·intro e he; simp at he; omega
   ·exact OkE.nil
  ·exact OkE.nil
theorem arcE_ok (P : Int) (ks : List (Int × Int × Int)) (x : Arc) : OkE (arcE P ks x) := by
 unfold arcE
 refine ((((OkE.nil.push ?_).push ?_).push ?_).append ?_).append (slTo_ok _ _)
 ·decide
 ·decide
 ·decide
 ·intro e he
  obtain ⟨f, hf, rfl⟩ := List.mem_map.1 he
  exact (tvTo_ok _ _ f hf).1
theorem plc_sz (i : Nat) : (plcS i).size ≤ 1000 := by
 have := decS_size i
 unfold plcS
 rw [ByteArray.size_append]
 exact Nat.le_trans (Nat.add_le_add_left this _) (by decide)
theorem arc_sz (i : Nat) : (arcS i).size ≤ 1000 := by
 have := decS_size i
 unfold arcS
 rw [ByteArray.size_append]
 exact Nat.le_trans (Nat.add_le_add_left this _) (by decide)
theorem plTo_ok (l : List ByteArray) : ∀ j, OkF (plTo l j)
 | 0 => by
  unfold plTo
  split
  ·exact OkF.one (by decide) (by decide)
  ·exact OkF.nil
 | j + 1 => by
  rw [plTo]
  refine (plTo_ok l j).append ?_
  unfold plAt
  split
  ·unfold plP
   split
   ·split
    ·exact OkF.one (by decide) (plc_sz j)
    ·exact OkF.nil
   ·exact OkF.one (by decide) (plc_sz j)
  ·exact OkF.nil
theorem netTo_ok (n : Net) : ∀ j, OkF (netTo n j)
 | 0 => by
  unfold netTo
  refine (plTo_ok _ _).append ?_
  split
  ·exact OkF.one (by decide) (by decide)
  ·exact OkF.nil
 | j + 1 => by
  rw [netTo]
  refine (netTo_ok n j).append ?_
  unfold arAt
  split
  ·exact OkF.of (arcE_ok _ _ _) (arc_sz j)
  ·exact OkF.nil
theorem fltsTo_ok (P : Int) (l : List Ty) : ∀ j, OkF (flt.fltsTo P l j)
 | 0 => by
  unfold flt.fltsTo
  split
  ·exact OkF.nil
  ·exact OkF.one (by decide) (by decide)
 | j + 1 => by
  rw [flt.fltsTo]
  refine (fltsTo_ok P l j).append ?_
  unfold flt.fltsAt
  split
  ·refine OkF.mk (i := j) ?_
   unfold flt.errsL
   repeat (refine OkE.push ?_ (by decide))
   exact OkE.nil
  ·exact OkF.nil
theorem ofltsTo_ok (P dims types : Int) (l : List Ord) : ∀ j, OkF (ord.ofltsTo P dims types l j)
 | 0 => by
  unfold ord.ofltsTo
  split
  ·exact OkF.nil
  ·exact OkF.one (by decide) (by decide)
 | j + 1 => by
  rw [ord.ofltsTo]
  refine (ofltsTo_ok P dims types l j).append ?_
  unfold ord.ofltsAt
  split
  ·refine OkF.mk (i := j) ?_
   unfold ord.errsO
   repeat (refine OkE.push ?_ (by decide))
   exact OkE.nil
  ·exact OkF.nil
theorem at_sz (word : ByteArray) (hw : word.size ≤ 900) (i : Nat) : (atS word i).size ≤ 1000 := by
 have := decS_size i
 unfold atS
 rw [ByteArray.size_append, ByteArray.size_append]
 have h1 : (⟨#[32]⟩ : ByteArray).size = 1 := rfl
 omega
theorem pairsTo_ok (orders : Int) (word : ByteArray) (hw : word.size ≤ 900) (same : Int × Int → Int × Int → Bool) (l : List (Int × Int)) : ∀ j, OkF (pairsTo orders word same l j)
 | 0 => by
  unfold pairsTo
  split
  ·exact OkF.nil
  ·exact OkF.one (by decide) (by omega)
 | j + 1 => by
  rw [pairsTo]
  refine (pairsTo_ok orders word hw same l j).append ?_
  unfold pairAt
  split
  ·unfold pairP
   split
   ·exact OkF.one (by decide) (at_sz word hw j)
   ·split
    ·exact OkF.one (by decide) (at_sz word hw j)
    ·exact OkF.nil
  ·exact OkF.nil
theorem rulesF_ok (orders : Int) (a b : List (Int × Int)) : OkF (rulesF orders a b) := (pairsTo_ok _ _ (by decide) _ _ _).append (pairsTo_ok _ _ (by decide) _ _ _)
def netS : ByteArray := ⟨#[110, 101, 116]⟩
def typesS : ByteArray := ⟨#[116, 121, 112, 101, 115]⟩
def ordersS : ByteArray := ⟨#[111, 114, 100, 101, 114, 115]⟩
def rulesS : ByteArray := ⟨#[114, 117, 108, 101, 115]⟩
def insN (x : Ins) : List Flt := netTo x.net x.net.arcs.length
def insT (x : Ins) : List Flt := flt.fltsTo ((x.net.places.length : Int) - 1) x.types x.types.length
def insO (x : Ins) : List Flt := ord.ofltsTo ((x.net.places.length : Int) - 1) (flt.dimsN x.types) x.types.length x.orders x.orders.length
def insR (x : Ins) : List Flt := rulesF x.orders.length x.apart x.before
def insF (x : Ins) : List Flt := catL [undL netS (insN x), undL typesS (insT x), undL ordersS (insO x), undL rulesS (insR x)] 4
structure Lim (x : Ins) : Prop where
 places : x.net.places.length ≤ 100
 arcs : x.net.arcs.length ≤ 10000
 points : ∀ a ∈ x.net.arcs, a.travel.length ≤ 100 ∧ a.slow.length ≤ 1000
 few : ∀ (j : Nat) a, x.net.arcs[j]? = some a → arcE x.net.places.length ((x.net.arcs.take j).map wayK) a ≠ [] → j < 100
 net : (insN x).length ≤ 200000
 types : x.types.length ≤ 20
 orders : x.orders.length ≤ 20
 apart : x.apart.length ≤ 24
 before : x.before.length ≤ 24
theorem undL_len (word : ByteArray) (fs : List Flt) : (undL word fs).length = fs.length := by unfold undL; rw [List.length_map]
theorem under_of (word : ByteArray) (A : Option Addr) (c : Nat) (fs : List Flt) (w : World) (base : Nat) (h : Fown w base A c fs) (hok : OkF fs) (hl : fs.length ≤ 1000000) (hws : word.size ≤ 1000000) :
  Calls Tryz.prog 138 #[.string word, .slice A fs.length c] w (FltsOut w (undL word fs)) :=
 under_any word A c fs w (flts_row h hok.fits (by omega)) hl hws (fun f hf => Nat.le_trans (hok f hf).2 (by decide))
theorem four_rows (w : World) {a b c d : List Flt} {A B C D : Option Addr} (ha : Reads w w.heap.size 2 A a.length (fcs a)) (hb : Reads w w.heap.size 2 B b.length (fcs b)) (hc : Reads w w.heap.size 2 C c.length (fcs c)) (hd : Reads w w.heap.size 2 D d.length (fcs d)) (ca cb cc cd : Nat) (t : TypeId) :
  FRows (w.alloc (.cells #[.slice A a.length ca, .slice B b.length cb, .slice C c.length cc, .slice D d.length cd] t)) (w.heap.size + 1) (some ⟨w.heap.size, 0, none⟩) [a, b, c, d] := fun i fs hi => by
 have hn := fun j u hu => World.news_of_block (w := w.alloc (.cells #[.slice A a.length ca, .slice B b.length cb, .slice C c.length cc, .slice D d.length cd] t)) (B := w.heap.size) (heap_alloc_new w _) j u hu
 have hk : ∀ {X : Option Addr} {x : List Flt}, Reads w w.heap.size 2 X x.length (fcs x) → Reads (w.alloc (.cells #[.slice A a.length ca, .slice B b.length cb, .slice C c.length cc, .slice D d.length cd] t)) (w.heap.size + 1) 2 X x.length (fcs x) := fun h => (h.alloc (Nat.le_refl _) _).more (by omega)
 rcases i with _ | _ | _ | _ | i
 ·simp at hi
  subst hi
  exact ⟨_, A, ca, rfl, Nat.lt_succ_self _, hn 0 _ rfl, hk ha⟩
 ·simp at hi
  subst hi
  exact ⟨_, B, cb, rfl, Nat.lt_succ_self _, hn 1 _ rfl, hk hb⟩
 ·simp at hi
  subst hi
  exact ⟨_, C, cc, rfl, Nat.lt_succ_self _, hn 2 _ rfl, hk hc⟩
 ·simp at hi
  subst hi
  exact ⟨_, D, cd, rfl, Nat.lt_succ_self _, hn 3 _ rfl, hk hd⟩
 ·simp at hi
theorem keepF {w w' : World} {base c : Nat} {A : Option Addr} {fs : List Flt} (h : Fown w base A c fs) (hb : Below w.heap.size w w') : Fown w' base A c fs := own_below h hb
theorem rowF {w : World} {base c : Nat} {A : Option Addr} {fs : List Flt} (h : Fown w base A c fs) : Reads w w.heap.size 2 A fs.length (fcs fs) := Reads.of_own h
set_option maxRecDepth 100000 in
set_option maxHeartbeats 8000000 in
theorem icheck_any (x : Ins) (Q : InP) (w : World) (h : InAt w w.heap.size x Q) (hl : Lim x) : Calls Tryz.prog 86 #[InV x Q] w (FltsOut w (insF x)) := by
 obtain ⟨A0, c0, A1, c1, A2, c2, A3, c3, A4, c4, A5, c5⟩ := Q
 obtain ⟨E, hE⟩ : ∃ E, insF x = E := ⟨_, rfl⟩
 obtain ⟨E1, hE1⟩ : ∃ E, insN x = E := ⟨_, rfl⟩
 obtain ⟨E2, hE2⟩ : ∃ E, insT x = E := ⟨_, rfl⟩
 obtain ⟨E3, hE3⟩ : ∃ E, insO x = E := ⟨_, rfl⟩
 obtain ⟨E4, hE4⟩ : ∃ E, insR x = E := ⟨_, rfl⟩
 have o1 : OkF E1 := by rw [← hE1]; exact netTo_ok _ _
 have o2 : OkF E2 := by rw [← hE2]; exact fltsTo_ok _ _ _
 have o3 : OkF E3 := by rw [← hE3]; exact ofltsTo_ok _ _ _ _ _
 have o4 : OkF E4 := by rw [← hE4]; exact rulesF_ok _ _ _
 have l1 : E1.length ≤ 200000 := by rw [← hE1]; exact hl.net
 have l2 : E2.length ≤ 1000 := by
  rw [← hE2]
  have := flt.fltsTo_len ((x.net.places.length : Int) - 1) x.types x.types.length
  have := hl.types
  unfold insT
  omega
 have l3 : E3.length ≤ 1000 := by
  rw [← hE3]
  have := ord.ofltsTo_len ((x.net.places.length : Int) - 1) (flt.dimsN x.types) x.types.length x.orders x.orders.length
  have := hl.orders
  unfold insO
  omega
 have l4 : E4.length ≤ 1000 := by
  rw [← hE4]
  have := pairsTo_len x.orders.length apartS looseB x.apart x.apart.length
  have := pairsTo_len x.orders.length beforeS eqg.twoEq x.before x.before.length
  have := hl.apart
  have := hl.before
  unfold insR rulesF
  rw [List.length_append]
  omega
 have HE : Hid (E = catL [undL netS E1, undL typesS E2, undL ordersS E3, undL rulesS E4] 4) := Lib.hid (by rw [← hE, ← hE1, ← hE2, ← hE3, ← hE4]; rfl)
 have HEL : Hid ((catL [undL netS E1, undL typesS E2, undL ordersS E3, undL rulesS E4] 4).length ≤ 1000000) := Lib.hid (by
  have e : catL [undL netS E1, undL typesS E2, undL ordersS E3, undL rulesS E4] 4 = undL netS E1 ++ (undL typesS E2 ++ (undL ordersS E3 ++ (undL rulesS E4 ++ []))) := rfl
  rw [e]
  simp only [List.length_append, undL_len, List.length_nil]
  omega)
 have k1 : ∀ w', InAt w' w'.heap.size x ⟨A0, c0, A1, c1, A2, c2, A3, c3, A4, c4, A5, c5⟩ → Calls Tryz.prog 139 #[.agg #[.slice A0 x.net.places.length c0, .slice A1 x.net.arcs.length c1]] w' (FltsOut w' E1) := fun w' hi => by
  rw [← hE1]
  exact ncheck_any x.net A0 c0 A1 c1 w' hi.places hi.arcs hl.places hl.arcs hl.points hl.few
 have k2 : ∀ w', InAt w' w'.heap.size x ⟨A0, c0, A1, c1, A2, c2, A3, c3, A4, c4, A5, c5⟩ → Calls Tryz.prog 140 #[.agg #[.slice A0 x.net.places.length c0, .slice A1 x.net.arcs.length c1], .slice A2 x.types.length c2] w' (flt.FltsOut w' E2) := fun w' hi => by
  rw [← hE2]
  exact flt.check_any x.net A0 c0 A1 c1 A2 c2 x.types w' hi.types hl.types hi.capT hi.places.len
 have k3 : ∀ w', InAt w' w'.heap.size x ⟨A0, c0, A1, c1, A2, c2, A3, c3, A4, c4, A5, c5⟩ → Calls Tryz.prog 141 #[.agg #[.slice A0 x.net.places.length c0, .slice A1 x.net.arcs.length c1], .int .i64 (flt.dimsN x.types), .int .i64 x.types.length, .slice A3 x.orders.length c3] w' (FltsOut w' E3) := fun w' hi => by
  rw [← hE3]
  exact ord.check_any x.net.places.length A0 c0 A1 x.net.arcs.length c1 (flt.dimsN x.types) x.types.length A3 c3 x.orders w' hi.orders hl.orders hi.capO hi.places.len
 have k4 : ∀ w', InAt w' w'.heap.size x ⟨A0, c0, A1, c1, A2, c2, A3, c3, A4, c4, A5, c5⟩ → Calls Tryz.prog 143 #[.int .i64 x.orders.length, .slice A4 x.apart.length c4, .slice A5 x.before.length c5] w' (FltsOut w' E4) := fun w' hi => by
  rw [← hE4]
  exact rcheck_any x.orders.length A4 c4 x.apart A5 c5 x.before w' hi.apart hi.before hl.apart hl.before hi.capA hi.capB
 have kd : ∀ w', InAt w' w'.heap.size x ⟨A0, c0, A1, c1, A2, c2, A3, c3, A4, c4, A5, c5⟩ → Calls Tryz.prog 142 #[.slice A2 x.types.length c2] w' fun e w'' => e = .returned (.int .i64 (flt.dimsN x.types)) ∧ w' = w'' := fun w' hi => flt.dims_any A2 c2 x.types w' _ hi.types
 obtain ⟨W0, hW0⟩ : ∃ W0, w.alloc (.cells #[.slice A0 x.net.places.length c0, .slice A1 x.net.arcs.length c1, .slice A2 x.types.length c2, .slice A3 x.orders.length c3, .slice A4 x.apart.length c4, .slice A5 x.before.length c5] 30) = W0 := ⟨_, rfl⟩
 have hB0 : Below w.heap.size w W0 := by rw [← hW0]; exact (Below.refl _ _).alloc (Nat.le_refl _) _
 have z0 := hB0.size
 have hs0 : w.heap.size < W0.heap.size := by rw [← hW0]; simp
 have HI : Hid (∀ w', Below W0.heap.size W0 w' → InAt w' w'.heap.size x ⟨A0, c0, A1, c1, A2, c2, A3, c3, A4, c4, A5, c5⟩) := Lib.hid fun w' hb => (h.go hB0).go hb
 have hS : ∀ w', Below W0.heap.size W0 w' → (Below W0.heap.size W0 w' ∧ w'.cell? ⟨w.heap.size, 0, none⟩ = some (.slice A0 x.net.places.length c0) ∧ w'.cell? ⟨w.heap.size, 1, none⟩ = some (.slice A1 x.net.arcs.length c1) ∧ w'.cell? ⟨w.heap.size, 2, none⟩ = some (.slice A2 x.types.length c2) ∧ w'.cell? ⟨w.heap.size, 3, none⟩ = some (.slice A3 x.orders.length c3) ∧ w'.cell? ⟨w.heap.size, 4, none⟩ = some (.slice A4 x.apart.length c4) ∧ w'.cell? ⟨w.heap.size, 5, none⟩ = some (.slice A5 x.before.length c5)) := fun w' hb => by
  have hk := fun (o : Nat) => hb.cell (p := ⟨w.heap.size, o, none⟩) hs0
  refine ⟨hb, (hk _).trans ?_, (hk _).trans ?_, (hk _).trans ?_, (hk _).trans ?_, (hk _).trans ?_, (hk _).trans ?_⟩
  all_goals (rw [← hW0]; simp)
 have B0 : Below W0.heap.size W0 W0 := Below.refl _ _
 have HW0 := Lib.hid hW0
 have HK := Lib.hid (And.intro k1 (And.intro k2 (And.intro k3 (And.intro k4 kd))))
 rw [hE]
 clear hE hE1 hE2 hE3 hE4 hW0 h hl k1 k2 k3 k4 kd
 simp only [InV]
 go_enter Tryz.func86, Tryz.ntmps86
 go_upto_region 1 with fail
 rw [HW0.out]
 (refine wp_region_held_drew (S := (fun w' => Below W0.heap.size W0 w' ∧ w'.cell? ⟨w.heap.size, 0, none⟩ = some (.slice A0 x.net.places.length c0) ∧ w'.cell? ⟨w.heap.size, 1, none⟩ = some (.slice A1 x.net.arcs.length c1) ∧ w'.cell? ⟨w.heap.size, 2, none⟩ = some (.slice A2 x.types.length c2) ∧ w'.cell? ⟨w.heap.size, 3, none⟩ = some (.slice A3 x.orders.length c3) ∧ w'.cell? ⟨w.heap.size, 4, none⟩ = some (.slice A4 x.apart.length c4) ∧ w'.cell? ⟨w.heap.size, 5, none⟩ = some (.slice A5 x.before.length c5))) (by kernel_rfl) ?_ (fun hHeld => ?_))
 ·exact hS _ (B0.drew)
 (refine lib.tk 0 ?_ rfl (by kernel_rfl) (fun _ _ _ h => h) ?_ (by assumption) ?_; rotate_left; (focus (intro w hSw; (try dsimp only at hSw); go_simp; all_goals with_reducible rfl)); (try simp only [lib.hly]))
 (refine lib.tk 1 ?_ rfl (by kernel_rfl) (fun _ _ _ h => h) ?_ (by assumption) ?_; rotate_left; (focus (intro w hSw; (try dsimp only at hSw); go_simp; all_goals with_reducible rfl)); (try simp only [lib.hly]))
 (refine lib.tk 4 ?_ rfl (by kernel_rfl) (fun _ _ _ h => h) ?_ (by assumption) ?_; rotate_left; (focus (intro w hSw; (try dsimp only at hSw); go_simp; all_goals with_reducible rfl)); (try simp only [lib.hly]))
 (refine lib.tk 5 ?_ rfl (by kernel_rfl) (fun _ _ _ h => h) ?_ (by assumption) ?_; rotate_left; (focus (intro w hSw; (try dsimp only at hSw); go_simp; all_goals with_reducible rfl)); (try simp only [lib.hly]))
 (refine lib.tk 6 ?_ rfl (by kernel_rfl) (fun _ _ _ h => h) ?_ (by assumption) ?_; rotate_left; (focus (intro w hSw; (try dsimp only at hSw); go_simp; all_goals with_reducible rfl)); (try simp only [lib.hly]))
 (refine lib.tk 7 ?_ rfl (by kernel_rfl) (fun _ _ _ h => h) ?_ (by assumption) ?_; rotate_left; (focus (intro w hSw; (try dsimp only at hSw); go_simp; all_goals with_reducible rfl)); (try simp only [lib.hly]))
 (refine lib.tk 10 ?_ rfl (by kernel_rfl) (fun _ _ _ h => h) ?_ (by assumption) ?_; rotate_left; (focus (intro w hSw; (try dsimp only at hSw); go_simp; all_goals with_reducible rfl)); (try simp only [lib.hly]))
 (refine lib.tk 11 ?_ rfl (by kernel_rfl) (fun _ _ _ h => h) ?_ (by assumption) ?_; rotate_left; (focus (intro w hSw; (try dsimp only at hSw); go_simp; all_goals with_reducible rfl)); (try simp only [lib.hly]))
 (refine lib.tk 12 ?_ rfl (by kernel_rfl) (fun _ _ _ h => h) ?_ (by assumption) ?_; rotate_left; (focus (intro w hSw; (try dsimp only at hSw); go_simp; all_goals with_reducible rfl)); (try simp only [lib.hly]))
 (refine lib.tk 13 ?_ rfl (by kernel_rfl) (fun _ _ _ h => h) ?_ (by assumption) ?_; rotate_left; (focus (intro w hSw; (try dsimp only at hSw); go_simp; all_goals with_reducible rfl)); (try simp only [lib.hly]))
 (refine lib.tk 15 ?_ rfl (by kernel_rfl) (fun _ _ _ h => h) ?_ (by assumption) ?_; rotate_left; (focus (intro w hSw; (try dsimp only at hSw); go_simp; all_goals with_reducible rfl)); (try simp only [lib.hly]))
 (refine lib.tk 16 ?_ rfl (by kernel_rfl) (fun _ _ _ h => h) ?_ (by assumption) ?_; rotate_left; (focus (intro w hSw; (try dsimp only at hSw); go_simp; all_goals with_reducible rfl)); (try simp only [lib.hly]))
 (refine lib.tk 17 ?_ rfl (by kernel_rfl) (fun _ _ _ h => h) ?_ (by assumption) ?_; rotate_left; (focus (intro w hSw; (try dsimp only at hSw); go_simp; all_goals with_reducible rfl)); (try simp only [lib.hly]))
 (refine lib.tk 18 ?_ rfl (by kernel_rfl) (fun _ _ _ h => h) ?_ (by assumption) ?_; rotate_left; (focus (intro w hSw; (try dsimp only at hSw); go_simp; all_goals with_reducible rfl)); (try simp only [lib.hly]))
 (refine lib.tk 19 ?_ rfl (by kernel_rfl) (fun _ _ _ h => h) ?_ (by assumption) ?_; rotate_left; (focus (intro w hSw; (try dsimp only at hSw); go_simp; all_goals with_reducible rfl)); (try simp only [lib.hly]))
 (refine lib.tk 22 ?_ rfl (by kernel_rfl) (fun _ _ _ h => h) ?_ (by assumption) ?_; rotate_left; (focus (intro w hSw; (try dsimp only at hSw); go_simp; all_goals with_reducible rfl)); (try simp only [lib.hly]))
 (refine lib.tk 23 ?_ rfl (by kernel_rfl) (fun _ _ _ h => h) ?_ (by assumption) ?_; rotate_left; (focus (intro w hSw; (try dsimp only at hSw); go_simp; all_goals with_reducible rfl)); (try simp only [lib.hly]))
 (refine lib.tk 24 ?_ rfl (by kernel_rfl) (fun _ _ _ h => h) ?_ (by assumption) ?_; rotate_left; (focus (intro w hSw; (try dsimp only at hSw); go_simp; all_goals with_reducible rfl)); (try simp only [lib.hly]))
 (refine lib.tk 25 ?_ rfl (by kernel_rfl) (fun _ _ _ h => h) ?_ (by assumption) ?_; rotate_left; (focus (intro w hSw; (try dsimp only at hSw); go_simp; all_goals with_reducible rfl)); (try simp only [lib.hly]))
 (refine lib.tk 26 ?_ rfl (by kernel_rfl) (fun _ _ _ h => h) ?_ (by assumption) ?_; rotate_left; (focus (intro w hSw; (try dsimp only at hSw); go_simp; all_goals with_reducible rfl)); (try simp only [lib.hly]))
 (refine lib.tk 27 ?_ rfl (by kernel_rfl) (fun _ _ _ h => h) ?_ (by assumption) ?_; rotate_left; (focus (intro w hSw; (try dsimp only at hSw); go_simp; all_goals with_reducible rfl)); (try simp only [lib.hly]))
 (refine lib.tk 28 ?_ rfl (by kernel_rfl) (fun _ _ _ h => h) ?_ (by assumption) ?_; rotate_left; (focus (intro w hSw; (try dsimp only at hSw); go_simp; all_goals with_reducible rfl)); (try simp only [lib.hly]))
 (refine wpAnyH_ready (rs := [2]) (by kernel_rfl) (by simp) ?_; refine AllReadyH.cons rfl (fun K hK => ?_) AllReadyH.nil; go_simp)
 go_at_call 139; refine (HK.out.1 _ (HI.out _ B0.drew)).mono ?_
 rintro e w1 ⟨F1, cF1, rfl, ownw1, bw1⟩
 have Bw1 : Below W0.heap.size W0 w1 := Below.trans (B0.drew) (bw1.mono (by first | omega | (simp <;> omega)))
 have zw1 := Bw1.size
 (refine hK.out _ _ ?_ (fun hHeld => ?_))
 ·exact hS _ Bw1
 clear hK K
 (try simp only [lib.hly])
 (refine wpAnyH_ready (rs := [3]) (by kernel_rfl) (by simp) ?_; refine AllReadyH.cons rfl (fun K hK => ?_) AllReadyH.nil; go_simp)
 go_at_call 138; refine (under_of netS F1 cF1 E1 _ _ ownw1 o1 (by omega) (by decide)).mono ?_
 rintro e w2 ⟨U1, cU1, rfl, ownw2, bw2⟩
 have Bw2 : Below W0.heap.size W0 w2 := Below.trans (Bw1) (bw2.mono (by first | omega | (simp <;> omega)))
 have zw2 := Bw2.size
 (refine hK.out _ _ ?_ (fun hHeld => ?_))
 ·exact hS _ Bw2
 clear hK K
 (try simp only [lib.hly])
 as_aux_lemma =>
  (refine wpAnyH_ready (rs := [8]) (by kernel_rfl) (by simp) ?_; refine AllReadyH.cons rfl (fun K hK => ?_) AllReadyH.nil; go_simp)
  go_at_call 140; refine (HK.out.2.1 _ (HI.out _ Bw2)).mono ?_
  rintro e w3 ⟨F2, cF2, rfl, ownw3, bw3⟩
  have Bw3 : Below W0.heap.size W0 w3 := Below.trans (Bw2) (bw3.mono (by first | omega | (simp <;> omega)))
  have zw3 := Bw3.size
  (refine hK.out _ _ ?_ (fun hHeld => ?_))
  ·exact hS _ Bw3
  clear hK K
  (try simp only [lib.hly])
  (refine wpAnyH_ready (rs := [9]) (by kernel_rfl) (by simp) ?_; refine AllReadyH.cons rfl (fun K hK => ?_) AllReadyH.nil; go_simp)
  go_at_call 138; refine (under_of typesS F2 cF2 E2 _ _ ownw3 o2 (by omega) (by decide)).mono ?_
  rintro e w4 ⟨U2, cU2, rfl, ownw4, bw4⟩
  have Bw4 : Below W0.heap.size W0 w4 := Below.trans (Bw3) (bw4.mono (by first | omega | (simp <;> omega)))
  have zw4 := Bw4.size
  (refine hK.out _ _ ?_ (fun hHeld => ?_))
  ·exact hS _ Bw4
  clear hK K
  (try simp only [lib.hly])
  as_aux_lemma =>
   (refine wpAnyH_ready (rs := [14]) (by kernel_rfl) (by simp) ?_; refine AllReadyH.cons rfl (fun K hK => ?_) AllReadyH.nil; go_simp)
   go_at_call 142
   refine (HK.out.2.2.2.2 _ (HI.out _ Bw4)).mono ?_
   rintro e we ⟨rfl, rfl⟩
   (refine hK.out _ _ ?_ (fun hHeld => ?_))
   ·exact hS _ Bw4
   clear hK K
   (try simp only [lib.hly])
   (refine wpAnyH_ready (rs := [20]) (by kernel_rfl) (by simp) ?_; refine AllReadyH.cons rfl (fun K hK => ?_) AllReadyH.nil; go_simp)
   go_at_call 141; refine (HK.out.2.2.1 _ (HI.out _ Bw4)).mono ?_
   rintro e w5 ⟨F3, cF3, rfl, ownw5, bw5⟩
   have Bw5 : Below W0.heap.size W0 w5 := Below.trans (Bw4) (bw5.mono (by first | omega | (simp <;> omega)))
   have zw5 := Bw5.size
   (refine hK.out _ _ ?_ (fun hHeld => ?_))
   ·exact hS _ Bw5
   clear hK K
   (try simp only [lib.hly])
   (refine wpAnyH_ready (rs := [21]) (by kernel_rfl) (by simp) ?_; refine AllReadyH.cons rfl (fun K hK => ?_) AllReadyH.nil; go_simp)
   go_at_call 138; refine (under_of ordersS F3 cF3 E3 _ _ ownw5 o3 (by omega) (by decide)).mono ?_
   rintro e w6 ⟨U3, cU3, rfl, ownw6, bw6⟩
   have Bw6 : Below W0.heap.size W0 w6 := Below.trans (Bw5) (bw6.mono (by first | omega | (simp <;> omega)))
   have zw6 := Bw6.size
   (refine hK.out _ _ ?_ (fun hHeld => ?_))
   ·exact hS _ Bw6
   clear hK K
   (try simp only [lib.hly])
   as_aux_lemma =>
    (refine wpAnyH_ready (rs := [29]) (by kernel_rfl) (by simp) ?_; refine AllReadyH.cons rfl (fun K hK => ?_) AllReadyH.nil; go_simp)
    go_at_call 143; refine (HK.out.2.2.2.1 _ (HI.out _ Bw6)).mono ?_
    rintro e w7 ⟨F4, cF4, rfl, ownw7, bw7⟩
    have Bw7 : Below W0.heap.size W0 w7 := Below.trans (Bw6) (bw7.mono (by first | omega | (simp <;> omega)))
    have zw7 := Bw7.size
    (refine hK.out _ _ ?_ (fun hHeld => ?_))
    ·exact hS _ Bw7
    clear hK K
    (try simp only [lib.hly])
    (refine wpAnyH_ready (rs := [30]) (by kernel_rfl) (by simp) ?_; refine AllReadyH.cons rfl (fun K hK => ?_) AllReadyH.nil; go_simp)
    go_at_call 138; refine (under_of rulesS F4 cF4 E4 _ _ ownw7 o4 (by omega) (by decide)).mono ?_
    rintro e w8 ⟨U4, cU4, rfl, ownw8, bw8⟩
    have Bw8 : Below W0.heap.size W0 w8 := Below.trans (Bw7) (bw8.mono (by first | omega | (simp <;> omega)))
    have zw8 := Bw8.size
    (refine hK.out _ _ ?_ (fun hHeld => ?_))
    ·exact hS _ Bw8
    clear hK K
    (try simp only [lib.hly])
    (refine wpAnyH_ready (rs := [31]) (by kernel_rfl) (by simp) ?_; refine AllReadyH.cons rfl (fun K hK => ?_) AllReadyH.nil)
    go_simp
    have B9 : Below W0.heap.size W0 (w8.alloc (.cells #[.slice U1 (undL netS E1).length cU1, .slice U2 (undL typesS E2).length cU2, .slice U3 (undL ordersS E3).length cU3, .slice U4 (undL rulesS E4).length cU4] 46)) := Bw8.alloc zw8 _
    (refine hK.out _ _ ?_ (fun hHeld => ?_))
    ·exact hS _ B9
    clear hK K
    (try simp only [lib.hly])
    have u2 := rowF (keepF (keepF (keepF (keepF (keepF (keepF ownw2 bw3) bw4) bw5) bw6) bw7) bw8)
    have u4 := rowF (keepF (keepF (keepF (keepF ownw4 bw5) bw6) bw7) bw8)
    have u6 := rowF (keepF (keepF ownw6 bw7) bw8)
    have HFR := Lib.hid (four_rows w8 u2 u4 u6 (rowF ownw8) cU1 cU2 cU3 cU4 46)
    clear u2 u4 u6
    (refine wpAnyH_ready (rs := [32]) (by kernel_rfl) (by simp) ?_; refine AllReadyH.cons rfl (fun K hK => ?_) AllReadyH.nil; go_simp)
    go_at_call 137
    refine (concat_any (some ⟨w8.heap.size, 0, none⟩) 4 [undL netS E1, undL typesS E2, undL ordersS E3, undL rulesS E4] _ (by have h := HFR.out; rw [World.size_alloc]; exact h) (Nat.le_trans (Nat.le_refl 4) (by omega)) HEL.out).mono ?_
    rintro e w9 ⟨G, cG, rfl, hownG, hbG⟩
    have BG : Below W0.heap.size W0 w9 := B9.trans (hbG.mono B9.size)
    (refine hK.out _ _ ?_ (fun hHeld => ?_))
    ·exact hS _ BG
    clear hK K
    (try simp only [lib.hly])
    (refine lib.tk 33 ?_ rfl (by kernel_rfl) (fun _ _ _ h => h) ?_ (by assumption) ?_; rotate_left; (focus (intro w hSw; (try dsimp only at hSw); go_simp; all_goals with_reducible rfl)); (try simp only [lib.hly]))
    (refine wpAnyH_done (by kernel_rfl) ?_ _)
    go_wp2_with fail
    go_ret
    have e : catL [undL netS E1, undL typesS E2, undL ordersS E3, undL rulesS E4] [undL netS E1, undL typesS E2, undL ordersS E3, undL rulesS E4].length = E := HE.out.symm
    rw [e] at hownG
    exact ⟨G, cG, by rw [HE.out]; rfl, zY hownG (by have := B9.size; omega), hB0.trans (BG.mono z0)⟩
end Go.Proofs.YtofabhenmplkoaaGreatDoor.ins
namespace Go.Proofs.YtofabhenmplkoaaGreatDoor.rd
open Go.RowKit
open lib big
def CellsOf {X : Type} (r : Rd X) (w : World) (B : Nat) (l : List X) (CS : List Value) : Prop :=
 CS.length = l.length * r.size ∧ ∀ (i : Nat) (x : X), l[i]? = some x → ∃ cs, r.at_ w B cs x ∧ ∀ (j : Nat) (u : Value), cs[j]? = some u → CS[i * r.size + j]? = some u
theorem CellsOf.nil {X : Type} {r : Rd X} {w : World} {B : Nat} : CellsOf r w B [] [] := ⟨by simp, fun i x h => by simp at h⟩
theorem CellsOf.snoc {X : Type} {r : Rd X} {w : World} {B : Nat} {l : List X} {CS cs : List Value} {x : X} (h : CellsOf r w B l CS) (hx : r.at_ w B cs x) : CellsOf r w B (l ++ [x]) (CS ++ cs) := by
 have hs := r.len hx
 refine ⟨by rw [List.length_append, List.length_append, h.1, hs]; simp [Nat.add_mul], fun i y hy => ?_⟩
 rcases Nat.lt_or_ge i l.length with hi | hi
 ·rw [List.getElem?_append_left hi] at hy
  obtain ⟨cs', h1, h2⟩ := h.2 i y hy
  refine ⟨cs', h1, fun j u hu => ?_⟩
  have := h2 j u hu
  rw [List.getElem?_append_left (List.getElem?_eq_some_iff.1 this).1]
  exact this
 ·rw [List.getElem?_append_right hi] at hy
  rcases Nat.eq_or_lt_of_le hi with e | hlt
  ·rw [← e, Nat.sub_self] at hy
   simp at hy
   subst hy
   refine ⟨cs, hx, fun j u hu => ?_⟩
   rw [List.getElem?_append_right (by rw [h.1, e]; omega), h.1, e, Nat.add_sub_cancel_left]
   exact hu
  ·rw [List.getElem?_eq_none (by simp; omega)] at hy
   cases hy
theorem CellsOf.keep {X : Type} {r : Rd X} {w w' : World} {B : Nat} {l : List X} {CS : List Value} (h : CellsOf r w B l CS) (hb : Below B w w') : CellsOf r w' B l CS :=
 ⟨h.1, fun i x hi => by obtain ⟨cs, h1, h2⟩ := h.2 i x hi; exact ⟨cs, r.keep (fun _ hp => hb.cell hp) h1, h2⟩⟩
theorem CellsOf.more {X : Type} {r : Rd X} {w : World} {B B' : Nat} {l : List X} {CS : List Value} (h : CellsOf r w B l CS) (hB : B ≤ B') : CellsOf r w B' l CS :=
 ⟨h.1, fun i x hi => by obtain ⟨cs, h1, h2⟩ := h.2 i x hi; exact ⟨cs, r.more hB h1, h2⟩⟩
theorem RowAt.cells {X : Type} {r : Rd X} {w : World} {B : Nat} {A : Option Addr} {l : List X} (hpos : 0 < r.size) (h : RowAt r w B A l) :
  ∃ CS, CellsOf r w B l CS ∧ (∀ ad, A = some ad → CellsAt w ad CS) ∧ (0 < l.length → ∃ ad, A = some ad ∧ ad.block < B) ∧ ∀ P : Value → Prop, (∀ cs x, r.at_ w B cs x → ∀ u ∈ cs, P u) → ∀ u ∈ CS, P u := by
 obtain ⟨L, hL, hp⟩ := choose_list (n := l.length) (p := fun i cs => ∃ x ad, l[i]? = some x ∧ A = some ad ∧ ad.block < B ∧ r.at_ w B cs x ∧ ∀ (j : Nat) (u : Value), cs[j]? = some u → w.cell? (ad.add (i * r.size + j)) = some u) fun i hi => by
  obtain ⟨ad, cs, h1, h2, h3, h4⟩ := h.2 i _ (List.getElem?_eq_getElem hi)
  exact ⟨cs, _, ad, List.getElem?_eq_getElem hi, h1, h2, h3, h4⟩
 have hlen : ∀ (i : Nat) cs, L[i]? = some cs → cs.length = r.size := fun i cs hi => by
  obtain ⟨x, ad, _, _, _, h3, _⟩ := hp i cs hi
  exact r.len h3
 have key : ∀ (M : List (List Value)), (∀ (i : Nat) cs, M[i]? = some cs → cs.length = r.size) → M.flatten.length = M.length * r.size ∧ ∀ (i : Nat) cs, M[i]? = some cs → ∀ j, j < r.size → M.flatten[i * r.size + j]? = cs[j]? := by
  intro M
  induction M with
  | nil => intro _; exact ⟨by simp, fun i cs hi => by simp at hi⟩
  | cons c M ih =>
   intro hM
   obtain ⟨h1, h2⟩ := ih fun i cs hi => hM (i + 1) cs (by simpa using hi)
   have h0 := hM 0 c rfl
   refine ⟨by rw [List.flatten_cons, List.length_append, h1, h0, List.length_cons, Nat.add_mul]; omega, fun i cs hi j hj => ?_⟩
   rw [List.flatten_cons]
   rcases i with _ | i
   ·simp at hi
    subst hi
    rw [Nat.zero_mul, Nat.zero_add, List.getElem?_append_left (by omega)]
   ·rw [List.getElem?_append_right (by rw [h0, Nat.succ_mul]; omega), h0]
    have e : (i + 1) * r.size + j - r.size = i * r.size + j := by rw [Nat.succ_mul]; omega
    rw [e]
    exact h2 i cs (by simpa using hi) j hj
 obtain ⟨k1, k2⟩ := key L hlen
 refine ⟨L.flatten, ⟨by rw [k1, hL], fun i x hi => ?_⟩, fun ad hA j u hu => ?_, fun h0 => ?_, fun P hP u hu => ?_⟩
 ·have hil := (List.getElem?_eq_some_iff.1 hi).1
  obtain ⟨cs, hcs⟩ : ∃ cs, L[i]? = some cs := ⟨_, List.getElem?_eq_getElem (by omega)⟩
  obtain ⟨x', ad, h1, _, _, h3, _⟩ := hp i cs hcs
  rw [hi] at h1
  obtain rfl := Option.some.inj h1
  refine ⟨cs, h3, fun j u hu => ?_⟩
  have hj : j < r.size := by rw [← r.len h3]; exact (List.getElem?_eq_some_iff.1 hu).1
  rw [k2 i cs hcs j hj]
  exact hu
 ·have hjl : j < l.length * r.size := by have := (List.getElem?_eq_some_iff.1 hu).1; rw [k1, hL] at this; exact this
  have hdm := Nat.div_add_mod j r.size
  have hmod := Nat.mod_lt j hpos
  have hil : j / r.size < l.length := Nat.div_lt_of_lt_mul (by rw [Nat.mul_comm]; exact hjl)
  obtain ⟨cs, hcs⟩ : ∃ cs, L[j / r.size]? = some cs := ⟨_, List.getElem?_eq_getElem (by omega)⟩
  obtain ⟨x', ad', _, hA', _, h3, h4⟩ := hp _ cs hcs
  rw [hA] at hA'
  obtain rfl := Option.some.inj hA'
  have e : j / r.size * r.size + j % r.size = j := by rw [Nat.mul_comm]; exact hdm
  have h5 := k2 _ cs hcs (j % r.size) hmod
  rw [e, hu] at h5
  have h6 := h4 (j % r.size) u h5.symm
  rw [e] at h6
  exact h6
 ·obtain ⟨ad, cs, h1, h2, _⟩ := h.2 0 _ (List.getElem?_eq_getElem h0)
  exact ⟨ad, h1, h2⟩
 ·obtain ⟨cs, hcs, hu⟩ := List.mem_flatten.1 hu
  obtain ⟨i, hi⟩ := List.mem_iff_getElem?.1 hcs
  obtain ⟨x', ad, _, _, _, h3, _⟩ := hp i cs hi
  exact hP cs x' h3 u hu
theorem RowAt.of_cells {X : Type} {r : Rd X} {w : World} {B : Nat} {ad : Addr} {l : List X} {CS : List Value} (hl : l.length ≤ 17592186043904) (hb : ad.block < B) (h : CellsOf r w B l CS) (hc : CellsAt w ad CS) : RowAt r w B (some ad) l :=
 ⟨hl, fun i x hi => by
  obtain ⟨cs, h1, h2⟩ := h.2 i x hi
  exact ⟨ad, cs, rfl, hb, h1, fun j u hu => hc _ u (h2 j u hu)⟩⟩
theorem RowAt.of_own {X : Type} {r : Rd X} {w : World} {base c : Nat} {e : TypeId} {A : Option Addr} {l : List X} {CS : List Value} (h : CellsOf r w w.heap.size l CS) (hown : w.ownsRow base e r.size (.slice A l.length c) l.length CS) (hl : l.length ≤ 17592186043904) : RowAt r w w.heap.size A l := by
 rcases hown.2 with ⟨h1, h2⟩ | ⟨g, cap, cur, h1, h2, h3, h4⟩
 ·injection h1 with h1 _ _
  subst h1
  have : l = [] := List.eq_nil_of_length_eq_zero h2
  subst this
  exact RowAt.nil
 ·injection h1 with h1 _ _
  subst h1
  exact RowAt.of_cells hl (Array.getElem?_eq_some_iff.1 h3).1 h fun j u hu => hown.cells (g := g) rfl j u hu
end Go.Proofs.YtofabhenmplkoaaGreatDoor.rd
namespace Go.Proofs.YtofabhenmplkoaaGreatDoor.ins
open Go.RowKit
open lib rd typ eqg note big eqs
theorem sameS_self (a : ByteArray) : sameS a a = true := by simp [sameS]
theorem sameO_self (a : Ord) : ord.sameO a a = true := by simp [ord.sameO, sameB, sameS, ord.numsO, ord.stpEq]
theorem sameT_self (a : Ty) : flt.sameT a a = true := by simp [flt.sameT, flt.sameB, flt.sameS, flt.numsB]
theorem sameI_self (a : Ins) : sameI a a = true := by
 unfold sameI
 rw [eqL_self sameS_self, eqL_self sameA_self, eqL_self sameT_self, eqL_self sameO_self, eqL_self twoEq_self, eqL_self twoEq_self]
 rfl
theorem stIns : StructOf 30 6 := ⟨⟨_, Tryz.underlying30⟩, by kernel_rfl⟩
theorem SixAt.cells {w : World} {k : Nat} {cs : List Value} (h : SixAt w k cs) : CellsAt w ⟨k, 0, none⟩ cs := fun j u hu => h.cell hu
open lib rd typ app big flts ord
theorem clip_any (A : Option Addr) (n c : Nat) (hn : n ≤ c) (hl : n ≤ 17592186043904) (w : World) : Calls Tryz.prog 160 #[.slice A n c] w fun e w' => e = .returned (.slice A n n) ∧ w = w' := by
 have h0 : (0 : Int) ≤ (n : Int) := by omega
 have h1 : (n : Int) ≤ (c : Int) := by omega
 rcases A with _ | ad
 all_goals
  go_enter Tryz.func160, Tryz.ntmps160
  go_wp2
  go_ret
  exact ⟨by first | rfl | simp, rfl⟩
section
variable {t e : TypeId} {z : Value} {size bytes : Nat} (E : ElemOf t e z size bytes)
include E
theorem run_appClip (w : World) (A : Option Addr) (n : Nat) (CS : List Value) (hl : CS.length = n * size) (hA : 0 < n → ∃ ad, A = some ad) (hC : ∀ ad, A = some ad → CellsAt w ad CS) (ad2 : Addr) (c2 : Nat) (news : List Value) (hn2 : news.length = size) (hC2 : CellsAt w ad2 news) (h1 : ∀ u ∈ news, u.oneCell' = true) (hn : n ≤ 1000000) (ty : TypeId) :
  ∃ A' c' w', (Builtin.append_ #[t, t] ty #[.slice A n n, .slice (some ad2) 1 c2]).run Tryz.prog w = .ok (.slice A' (n + 1) c') w' ∧ w'.ownsRow w.heap.size e size (.slice A' (n + 1) c') (n + 1) (CS ++ news) ∧ w.grownBy w' none := by
 obtain ⟨i0, hi, hz0, hz1, hz2⟩ := info_parts E.info
 have hb := E.by_
 have hmul : (n + 1) * bytes ≤ (n + 1) * 100000 := Nat.mul_le_mul_left _ hb
 rcases A with _ | ad
 ·have h0 : n = 0 := by
   rcases Nat.eq_zero_or_pos n with h | h
   ·exact h
   ·obtain ⟨ad, h⟩ := hA h
    cases h
  subst h0
  obtain rfl : CS = [] := List.eq_nil_of_length_eq_zero (by simpa using hl)
  obtain ⟨g', c', w', h2, h3, h4, _⟩ := run_app E w w.heap.size none 0 0 [] (World.ownsRow_nil _ _ _ _) ad2 c2 news hn2 hC2 h1 (by omega) (by unfold maxLen; omega) (Nat.le_refl _) ty
  exact ⟨_, c', w', h2, h3, h4⟩
 ·obtain ⟨v', w', h2, h3, h4⟩ := run_append_arg_grows (P := Tryz.prog) w t ty e i0 z size bytes E.sl hi hz0 hz1 hz2 E.zs E.pos ad n n CS hl (hC ad rfl) ad2 1 c2 news (by omega) hC2 (by omega) (by unfold maxLen; omega) (by omega)
  obtain ⟨A', c', rfl⟩ := own_form h3
  exact ⟨A', c', w', h2, h3, h4⟩
theorem step_appClip {o : Oper} {a : Act} {w : World} {ops : Array Oper} {K : Act → World → Prop} {Q : Exit → Act → World → Prop} {E' : Prop} (hgd : o.guard = none) (s x : Operand)
  (ho : o.op = .call { callee := .builtin .append, args := #[s, x], argTypes := #[t, t] }) (A : Option Addr) (n : Nat) (CS : List Value) (hs : a.eval s = .slice A n n) (hl : CS.length = n * size) (hA : 0 < n → ∃ ad, A = some ad) (hC : ∀ ad, A = some ad → CellsAt w ad CS)
  (ad2 : Addr) (c2 : Nat) (news : List Value) (hx : a.eval x = .slice (some ad2) 1 c2) (hn2 : news.length = size) (hC2 : CellsAt w ad2 news) (h1 : ∀ u ∈ news, u.oneCell' = true) (hn : n ≤ 1000000)
  (h : ∀ A' c' w', w'.ownsRow w.heap.size e size (.slice A' (n + 1) c') (n + 1) (CS ++ news) → w.grownBy w' none → K (a.put o.dst (.slice A' (n + 1) c')) w') :
  if Region.wanted o (yielded ops a.tmps) = true then Oper.wp Tryz.prog o a w K Q else E' := by
 have hw : Region.wanted o (yielded ops a.tmps) = true := by simp [Region.wanted, hgd]
 rw [if_pos hw]
 obtain ⟨A', c', w', hr, h2, h3⟩ := run_appClip E w A n CS hl hA hC ad2 c2 news hn2 hC2 h1 hn o.type
 unfold Oper.wp execOp
 simp only [ho, resolve, invoke, builtin, Sem.run_bind, Sem.run_pure, Result.andThen_ok, List.map_toArray, List.map_cons, List.map_nil, hs, hx, hr]
 exact h A' c' w' h2 h3
theorem step_lit1 {o : Oper} {a : Act} {w : World} {ops : Array Oper} {K : Act → World → Prop} {Q : Exit → Act → World → Prop} {E' : Prop} (hgd : o.guard = none) (x : Operand) (ho : o.op = .buildSlice t 1 #[(0, x)])
  (cs : List Value) (zs : List Value) (hx : a.eval x = .agg cs.toArray) (hs : size ≤ 1000) (hz : (List.range (1 * size)).map (fun i => z.cells[i % z.cells.size]!) = zs) (hf : Instr.fill (fun i => some (i * size, size)) zs.toArray [(0, .agg cs.toArray)] = some cs.toArray)
  (h : K (a.put o.dst (.slice (some ⟨w.heap.size, 0, none⟩) 1 1)) (w.alloc (.cells cs.toArray e))) :
  if Region.wanted o (yielded ops a.tmps) = true then Oper.wp Tryz.prog o a w K Q else E' := by
 have hw : Region.wanted o (yielded ops a.tmps) = true := by simp [Region.wanted, hgd]
 rw [if_pos hw]
 obtain ⟨i0, hi, hz0, hz1, hz2⟩ := info_parts E.info
 have hp := E.pos
 refine wp_buildSlice t e 1 #[(0, x)] ho cs.toArray i0 z E.sl hi hz0 (by rw [hz1]; omega) (by rw [hz1]; omega) ?_ h
 have e1 : (Array.range (1 * i0.size)).map (fun i => z.cells[i % z.cells.size]!) = zs.toArray := by
  rw [hz1, ← hz]
  apply Array.ext'
  simp
 rw [e1, hz1]
 have e2 : (Array.map (fun x => match x with | (i, x) => (i, a.eval x)) #[(0, x)]).toList = [(0, .agg cs.toArray)] := by simp [hx]
 rw [e2]
 exact hf
end
def ordZs : List Value := [.string ⟨#[]⟩, .slice none 0 0, .int .i64 0, .int .i64 0, .int .i64 0, .int .i64 0, .int .i64 0, .int .i64 0, .int .i64 0, .int .i64 0, .int .i64 0, .int .i64 0, .int .i64 0, .int .i64 0, .int .i64 0, .bool false]
theorem ord_zs : (List.range (1 * 16)).map (fun i => (Value.agg #[.string ⟨#[]⟩, .slice none 0 0, .int .i64 0, .int .i64 0, .int .i64 0, .int .i64 0, .int .i64 0, .int .i64 0, .int .i64 0, .int .i64 0, .int .i64 0, .int .i64 0, .int .i64 0, .int .i64 0, .int .i64 0, .bool false]).cells[i % (Value.agg #[.string ⟨#[]⟩, .slice none 0 0, .int .i64 0, .int .i64 0, .int .i64 0, .int .i64 0, .int .i64 0, .int .i64 0, .int .i64 0, .int .i64 0, .int .i64 0, .int .i64 0, .int .i64 0, .int .i64 0, .int .i64 0, .bool false]).cells.size]!) = ordZs := by kernel_rfl
theorem ord_fill1 (o : Ord) (C : Option Addr) (c : Nat) : Instr.fill (fun i => some (i * 16, 16)) ordZs.toArray [(0, .agg (zA o C c).toArray)] = some (zA o C c).toArray := by kernel_rfl
def addI (x : Ins) (o : Ord) : Ins := ⟨x.net, x.types, x.orders ++ [o], x.apart, x.before⟩
def addR (x : Ins) (o : Ord) : Ins × Int := if 10 ≤ x.orders.length then (nilI, 4) else match insF (addI x o) with
 | [] => (addI x o, 0)
 | f :: _ => (nilI, f.err)
theorem addR_full {x : Ins} {o : Ord} (h : 10 ≤ x.orders.length) : addR x o = (nilI, 4) := by unfold addR; rw [if_pos h]
theorem addR_good {x : Ins} {o : Ord} (h : ¬ 10 ≤ x.orders.length) (hf : insF (addI x o) = []) : addR x o = (addI x o, 0) := by unfold addR; rw [if_neg h, hf]
theorem addR_bad {x : Ins} {o : Ord} {f : Flt} {fs : List Flt} (h : ¬ 10 ≤ x.orders.length) (hf : insF (addI x o) = f :: fs) : addR x o = (nilI, f.err) := by unfold addR; rw [if_neg h, hf]
theorem nil_at (w : World) : InAt w w.heap.size nilI nilP := ⟨RowAt.nil, RowAt.nil, RowAt.nil, RowAt.nil, RowAt.nil, RowAt.nil, Nat.le_refl _, Nat.le_refl _, Nat.le_refl _, Nat.le_refl _⟩
theorem orBlk_at {w : World} {k : Nat} {o : Ord} {C : Option Addr} {c : Nat} (h : OrBlk w k o C c) : CellsAt w ⟨k, 0, none⟩ (zA o C c) := fun j u hu => World.news_of_block (w := w) (B := k) h j u (by simpa using hu)
theorem insCs_add (x : Ins) (o : Ord) (P : InP) (A : Option Addr) (c : Nat) : (insCs x P).set 3 (.slice A (x.orders.length + 1) c) = insCs (addI x o) ⟨P.a0, P.c0, P.a1, P.c1, P.a2, P.c2, A, c, P.a4, P.c4, P.a5, P.c5⟩ := by
 simp [insCs, addI]
theorem cellsAt_set {w : World} {g : Nat} {cs : List Value} (h : CellsAt w ⟨g, 0, none⟩ cs) (b i : Nat) {v : Value} (hne : g ≠ b) : CellsAt (w.setCell ⟨b, i, none⟩ v) ⟨g, 0, none⟩ cs := h.heap (Below.heap_setCell _ _ _ _ hne)
theorem own_other {w w' : World} {base : Nat} {e : TypeId} {size n : Nat} {v : Value} {xs : List Value} {b : Nat} (h : w.ownsRow base e size v n xs) (hk : ∀ k, k ≠ b → w'.heap[k]? = w.heap[k]?) (hb : b < base) : w'.ownsRow base e size v n xs := by
 rcases h.2 with ⟨h1, h2⟩ | ⟨g, cap, cur, h1, h2, h3, h4⟩
 ·exact ⟨h.1, .inl ⟨h1, h2⟩⟩
 ·exact ⟨h.1, .inr ⟨g, cap, cur, h1, h2, (hk g (by omega)).trans h3, h4⟩⟩
theorem yE {t : TypeId} {n : Nat} (T : StructOf t n) {o : Oper} {a : Act} {w : World} {ops : Array Oper} {K : Act → World → Prop} {Q : Exit → Act → World → Prop} {E' : Prop} (hgd : o.guard = none) (p v : Operand) (ho : o.op = Op.store t p v)
  (g : Nat) (old cs : List Value) (hp : a.eval p = .pointer (some ⟨g, 0, none⟩)) (hv : a.eval v = .agg cs.toArray) (hb : w.heap[g]? = some (.cells old.toArray t (0, 0))) (hold : old.length = n) (hn : cs.length = n) (h1 : ∀ u ∈ cs, u.oneCell' = true)
  (h : ∀ w', w'.heap[g]? = some (.cells cs.toArray t (0, 0)) → (∀ k, k ≠ g → w'.heap[k]? = w.heap[k]?) → w'.heap.size = w.heap.size → Below g w w' → K (a.put o.dst undef) w') :
  if Region.wanted o (yielded ops a.tmps) = true then Oper.wp Tryz.prog o a w K Q else E' := by
 have hw : Region.wanted o (yielded ops a.tmps) = true := by simp [Region.wanted, hgd]
 rw [if_pos hw]
 have hr := run_storeVar_row (P := Tryz.prog) w g t t old.toArray cs.toArray hb (by rw [T.size]; simp [hn]) (by simp [hold, hn]) (Array.all_eq_true_iff_forall_mem.2 fun u hu => h1 u (by simpa using hu))
 have hr2 : (Instr.storeAt t (.pointer (some ⟨g, 0, none⟩)) (.agg cs.toArray)).run Tryz.prog w = .ok () (w.setRow g cs.toArray) := by
  simp only [Instr.storeAt, Instr.sureAddr, Sem.run_bind, Sem.run_pure, Result.andThen]
  exact hr
 have hot : ∀ k, k ≠ g → (w.setRow g cs.toArray).heap[k]? = w.heap[k]? := fun k hk => by
  simp only [World.setRow, Array.getElem?_modify]
  rw [if_neg (fun e => hk e.symm)]
 have hsz : (w.setRow g cs.toArray).heap.size = w.heap.size := by simp [World.setRow]
 unfold Oper.wp execOp
 simp only [ho, hp, hv, Sem.run_bind, hr2, Result.andThen_ok, Sem.run_pure]
 exact h _ (setRow_heap w g old.toArray cs.toArray t (0, 0) hb) hot hsz ⟨rfl, rfl, rfl, Nat.le_of_eq hsz.symm, fun k hk => hot k (by omega)⟩
theorem nilCs_one : ∀ u ∈ nilCs, u.oneCell' = true := fun u hu => by
 simp only [nilCs, List.mem_cons, List.not_mem_nil, or_false] at hu
 rcases hu with rfl | rfl | rfl | rfl | rfl | rfl <;> rfl
theorem mrk_cell {w w' : World} {q o : Nat} {v : Option Value} (e : w'.heap[q]? = w.heap[q]?) (h : w.cell? ⟨q, o, none⟩ = v) : w'.cell? ⟨q, o, none⟩ = v := by
 rw [← h]
 unfold World.cell?
 simp only [e]
theorem stOrd' : StructOf 35 16 := ⟨⟨_, Tryz.underlying35⟩, by kernel_rfl⟩
open lib rd typ
def oaO : Ord := ⟨⟨#[111, 97]⟩, [1], ⟨-1, 0, 0, 0⟩, ⟨0, 0, 50, 0⟩, 0, -1, 1, -1, -1, false⟩
open lib rd typ big app
def zOrd : List Value := [.string ⟨#[]⟩, .slice none 0 0, .int .i64 0, .int .i64 0, .int .i64 0, .int .i64 0, .int .i64 0, .int .i64 0, .int .i64 0, .int .i64 0, .int .i64 0, .int .i64 0, .int .i64 0, .int .i64 0, .int .i64 0, .bool false]
def zTy : List Value := [.string ⟨#[]⟩, .int .i64 0, .int .i64 0, .int .i64 0, .slice none 0 0, .int .i64 0, .int .i64 0, .int .i64 0, .int .i64 0, .int .i64 0, .int .i64 0, .int .i64 0, .int .i64 0, .int .i64 0]
theorem bOrd : BuildOf 35 (.agg zOrd.toArray) #[(0, 1), (1, 1), (2, 4), (6, 4), (10, 1), (11, 1), (12, 1), (13, 1), (14, 1), (15, 1)] := ⟨⟨_, Tryz.underlying35, fun w => by kernel_rfl⟩, fun w => by kernel_rfl⟩
theorem bTy : BuildOf 56 (.agg zTy.toArray) #[(0, 1), (1, 1), (2, 1), (3, 1), (4, 1), (5, 1), (6, 1), (7, 1), (8, 1), (9, 1), (10, 1), (11, 1), (12, 1), (13, 1)] := ⟨⟨_, Tryz.underlying56, fun w => by kernel_rfl⟩, fun w => by kernel_rfl⟩
def IBlk (w : World) (k : Nat) (x : Int) : Prop := w.heap[k]? = some (.cells #[.int .i64 x] 3 (0, 0))
structure LtlA (w wx : World) : Prop where
 res : SixAt wx w.heap.size nilCs
 ld : IBlk wx (w.heap.size + 1) 1
 oa : ord.OrBlk wx (w.heap.size + 1 + 1) oaO (some ⟨w.heap.size + 1, 0, none⟩) 1
 bel : Below w.heap.size w wx
structure LtlB (o : Ord) (w wx : World) : Prop where
 a : LtlA w wx
 ob : ord.OrBlk wx (w.heap.size + 1 + 1 + 1) o (some ⟨w.heap.size + 1, 0, none⟩) 1
theorem LtlA.keep {w wx wy : World} (h : LtlA w wx) (hk : ∀ k, k < w.heap.size + 1 + 1 + 1 → wy.heap[k]? = wx.heap[k]?) (hb : Below w.heap.size w wy) : LtlA w wy :=
 ⟨(hk _ (by omega)).trans h.res, (hk _ (by omega)).trans h.ld, (hk _ (by omega)).trans h.oa, hb⟩
theorem tyCells_one (o : Ty) (C : Option Addr) (c : Nat) : ∀ u ∈ zG o C c, u.oneCell' = true := fun u hu => by
 simp only [zG, List.mem_cons, List.not_mem_nil, or_false] at hu
 rcases hu with rfl | rfl | rfl | rfl | rfl | rfl | rfl | rfl | rfl | rfl | rfl | rfl | rfl | rfl <;> rfl
theorem LtlB.set {w wx : World} {o o' : Ord} (h : LtlB o w wx) (i : Nat) (u : Value) (hs : wx.heap.size = w.heap.size + 1 + 1 + 1 + 1) (e : ((zA o (some ⟨w.heap.size + 1, 0, none⟩) 1).toArray.setIfInBounds i u) = (zA o' (some ⟨w.heap.size + 1, 0, none⟩) 1).toArray) : LtlB o' w (wx.setCell ⟨w.heap.size + 1 + 1 + 1, i, none⟩ u) := by
 refine ⟨h.a.keep (fun k hk => Below.heap_setCell _ _ _ _ (show k ≠ w.heap.size + 1 + 1 + 1 by omega)) (h.a.bel.setCell (p := ⟨w.heap.size + 1 + 1 + 1, i, none⟩) (show w.heap.size ≤ w.heap.size + 1 + 1 + 1 by omega) u), ?_⟩
 have h1 := heap_setCell_same wx (w.heap.size + 1 + 1 + 1) i _ _ u h.ob
 rw [e] at h1
 exact h1
theorem ty_elem : ElemOf 26 56 (.agg zTy.toArray) 14 136 := ⟨Tryz.underlying26, by kernel_rfl, rfl, by decide, by decide⟩
theorem ty_range : (List.range (1 * 14)).map (fun i => (Value.agg zTy.toArray).cells[i % (Value.agg zTy.toArray).cells.size]!) = zTy := by kernel_rfl
end Go.Proofs.YtofabhenmplkoaaGreatDoor.ins
