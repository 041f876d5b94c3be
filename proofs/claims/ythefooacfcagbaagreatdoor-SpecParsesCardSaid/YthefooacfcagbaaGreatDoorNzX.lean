import Derived.Test.YthefooacfcagbaaGreatDoorC2
import Derived.Test.YthefooacfcagbaaGreatDoorC1
import Derived.Deep.RegionHeld3
import Derived.Deep.RegionWith
import Derived.Outline
/- Joined texts: InsI InsJ. -/
namespace Go.Proofs.YthefooacfcagbaaGreatDoor.ins
open Go.RowKit
open lib rd typ app flts note txt und cat rul net
set_option linter.unusedVariables false
set_option linter.unusedSimpArgs false
def OkE (E : List Int) : Prop := ∀ e ∈ E, -100 ≤ e ∧ e ≤ 100
def OkF (fs : List Flt) : Prop := ∀ f ∈ fs, (-100 ≤ f.err ∧ f.err ≤ 100) ∧ f.at_.size ≤ 1000
theorem OkE.nil : OkE [] := fun e h => by cases h
theorem OkE.push {xs : List Int} {r : Bool} {u : Int} (h : OkE xs) (hu : -100 ≤ u ∧ u ≤ 100) : OkE (pushIf xs r u) := fun e he => by
 rcases pushIf_mem he with h1 | rfl
 ·exact h e h1
 ·exact hu
theorem OkE.append {xs ys : List Int} (h : OkE xs) (h' : OkE ys) : OkE (xs ++ ys) := fun e he => by
 rcases List.mem_append.1 he with h1 | h1
 ·exact h e h1
 ·exact h' e h1
theorem OkF.nil : OkF [] := fun e h => by cases h
theorem OkF.append {xs ys : List Flt} (h : OkF xs) (h' : OkF ys) : OkF (xs ++ ys) := fun e he => by
 rcases List.mem_append.1 he with h1 | h1
 ·exact h e h1
 ·exact h' e h1
theorem OkF.one {e : Int} {s : ByteArray} (h : -100 ≤ e ∧ e ≤ 100) (hs : s.size ≤ 1000) : OkF [⟨e, s⟩] := fun f hf => by
 rw [List.mem_singleton] at hf
 subst hf
 exact ⟨h, hs⟩
theorem OkF.of {E : List Int} {s : ByteArray} (h : OkE E) (hs : s.size ≤ 1000) : OkF (E.map fun e => ⟨e, s⟩) := fun f hf => by
 obtain ⟨e, he, rfl⟩ := List.mem_map.1 hf
 exact ⟨h e he, hs⟩
theorem OkF.fits {fs : List Flt} (h : OkF fs) : ∀ f ∈ fs, FltFits f := fun f hf => by
 obtain ⟨⟨h1, h2⟩, h3⟩ := h f hf
 unfold FltFits
 omega
theorem dec_sz (n : Nat) : (decS n).size ≤ 1000 := Nat.le_trans (decS_size n) (by decide)
theorem OkF.mk {i : Nat} {E : List Int} (h : OkE E) : OkF (mkF i E) := OkF.of h (dec_sz i)
theorem tvTo_ok (l : List Pt) : ∀ j, OkF (trv.tvTo l j)
 | 0 => by
  unfold trv.tvTo
  split
  ·exact OkF.one (by decide) (by decide)
  ·exact OkF.nil
 | j + 1 => by
  rw [trv.tvTo]
  refine (tvTo_ok l j).append ?_
  unfold trv.tvAt
  split
  ·unfold trv.tvP
   refine OkF.append ?_ ?_
   all_goals
    split
    ·exact OkF.one (by decide) (dec_sz j)
    ·exact OkF.nil
  ·exact OkF.nil
theorem slTo_ok (l : List Pt) : ∀ j, OkE (slTo l j)
 | 0 => by
  unfold slTo
  split
  ·intro e he; simp at he; omega
  ·exact OkE.nil
 | j + 1 => by
  rw [slTo]
  refine (slTo_ok l j).append ?_
  unfold slAt
  split
  ·unfold slP
   split
   ·intro e he; simp at he; omega
   ·exact OkE.nil
  ·exact OkE.nil
theorem arcE_ok (P : Int) (ks : List (Int × Int × Int)) (x : Arc) : OkE (arcE P ks x) := by
 unfold arcE
 refine ((((OkE.nil.push ?_).push ?_).push ?_).append ?_).append (slTo_ok _ _)
 ·decide
 ·decide
 ·decide
 ·intro e he
  obtain ⟨f, hf, rfl⟩ := List.mem_map.1 he
  exact (tvTo_ok _ _ f hf).1
theorem plc_sz (i : Nat) : (plcS i).size ≤ 1000 := by
 have := decS_size i
 unfold plcS
 rw [ByteArray.size_append]
 exact Nat.le_trans (Nat.add_le_add_left this _) (by decide)
theorem arc_sz (i : Nat) : (arcS i).size ≤ 1000 := by
 have := decS_size i
 unfold arcS
 rw [ByteArray.size_append]
 exact Nat.le_trans (Nat.add_le_add_left this _) (by decide)
theorem plTo_ok (l : List ByteArray) : ∀ j, OkF (plTo l j)
 | 0 => by
  unfold plTo
  split
  ·exact OkF.one (by decide) (by decide)
  ·exact OkF.nil
 | j + 1 => by
  rw [plTo]
  refine (plTo_ok l j).append ?_
  unfold plAt
  split
  ·unfold plP
   split
   ·split
    ·exact OkF.one (by decide) (plc_sz j)
    ·exact OkF.nil
   ·exact OkF.one (by decide) (plc_sz j)
  ·exact OkF.nil
theorem netTo_ok (n : Net) : ∀ j, OkF (netTo n j)
 | 0 => by
  unfold netTo
  refine (plTo_ok _ _).append ?_
  split
  ·exact OkF.one (by decide) (by decide)
  ·exact OkF.nil
 | j + 1 => by
  rw [netTo]
  refine (netTo_ok n j).append ?_
  unfold arAt
  split
  ·exact OkF.of (arcE_ok _ _ _) (arc_sz j)
  ·exact OkF.nil
theorem fltsTo_ok (P : Int) (l : List Ty) : ∀ j, OkF (flt.fltsTo P l j)
 | 0 => by
  unfold flt.fltsTo
  split
  ·exact OkF.nil
  ·exact OkF.one (by decide) (by decide)
 | j + 1 => by
  rw [flt.fltsTo]
  refine (fltsTo_ok P l j).append ?_
  unfold flt.fltsAt
  split
  ·refine OkF.mk (i := j) ?_
   unfold flt.errsL
   repeat (refine OkE.push ?_ (by decide))
   exact OkE.nil
  ·exact OkF.nil
theorem ofltsTo_ok (P dims types : Int) (l : List Ord) : ∀ j, OkF (ord.ofltsTo P dims types l j)
 | 0 => by
  unfold ord.ofltsTo
  split
  ·exact OkF.nil
  ·exact OkF.one (by decide) (by decide)
 | j + 1 => by
  rw [ord.ofltsTo]
  refine (ofltsTo_ok P dims types l j).append ?_
  unfold ord.ofltsAt
  split
  ·refine OkF.mk (i := j) ?_
   unfold ord.errsO
   repeat (refine OkE.push ?_ (by decide))
   exact OkE.nil
  ·exact OkF.nil
theorem at_sz (word : ByteArray) (hw : word.size ≤ 900) (i : Nat) : (atS word i).size ≤ 1000 := by
 have := decS_size i
 unfold atS
 rw [ByteArray.size_append, ByteArray.size_append]
 have h1 : (⟨#[32]⟩ : ByteArray).size = 1 := rfl
 omega
theorem pairsTo_ok (orders : Int) (word : ByteArray) (hw : word.size ≤ 900) (same : Int × Int → Int × Int → Bool) (l : List (Int × Int)) : ∀ j, OkF (pairsTo orders word same l j)
 | 0 => by
  unfold pairsTo
  split
  ·exact OkF.nil
  ·exact OkF.one (by decide) (by omega)
 | j + 1 => by
  rw [pairsTo]
  refine (pairsTo_ok orders word hw same l j).append ?_
  unfold pairAt
  split
  ·unfold pairP
   split
   ·exact OkF.one (by decide) (at_sz word hw j)
   ·split
    ·exact OkF.one (by decide) (at_sz word hw j)
    ·exact OkF.nil
  ·exact OkF.nil
theorem rulesF_ok (orders : Int) (a b : List (Int × Int)) : OkF (rulesF orders a b) := (pairsTo_ok _ _ (by decide) _ _ _).append (pairsTo_ok _ _ (by decide) _ _ _)
def netS : ByteArray := ⟨#[110, 101, 116]⟩
def typesS : ByteArray := ⟨#[116, 121, 112, 101, 115]⟩
def ordersS : ByteArray := ⟨#[111, 114, 100, 101, 114, 115]⟩
def rulesS : ByteArray := ⟨#[114, 117, 108, 101, 115]⟩
def insN (x : Ins) : List Flt := netTo x.net x.net.arcs.length
def insT (x : Ins) : List Flt := flt.fltsTo ((x.net.places.length : Int) - 1) x.types x.types.length
def insO (x : Ins) : List Flt := ord.ofltsTo ((x.net.places.length : Int) - 1) (flt.dimsN x.types) x.types.length x.orders x.orders.length
def insR (x : Ins) : List Flt := rulesF x.orders.length x.apart x.before
def insF (x : Ins) : List Flt := catL [undL netS (insN x), undL typesS (insT x), undL ordersS (insO x), undL rulesS (insR x)] 4
end Go.Proofs.YthefooacfcagbaaGreatDoor.ins
namespace Go.Proofs.YthefooacfcagbaaGreatDoor.ins
open Go.RowKit
open lib rd typ app flts note txt und cat rul net
set_option linter.unusedVariables false
set_option linter.unusedSimpArgs false
theorem undL_len (word : ByteArray) (fs : List Flt) : (undL word fs).length = fs.length := by unfold undL; rw [List.length_map]
theorem under_of (word : ByteArray) (A : Option Addr) (c : Nat) (fs : List Flt) (w : World) (base : Nat) (h : Fown w base A c fs) (hok : OkF fs) (hl : fs.length ≤ 1000000) (hws : word.size ≤ 1000000) :
  Calls Tryz.prog 44 #[.string word, .slice A fs.length c] w (FltsOut w (undL word fs)) :=
 under_any word A c fs w (flts_row h hok.fits (by omega)) hl hws (fun f hf => Nat.le_trans (hok f hf).2 (by decide))
theorem four_rows (w : World) {a b c d : List Flt} {A B C D : Option Addr} (ha : Reads w w.heap.size 2 A a.length (fcs a)) (hb : Reads w w.heap.size 2 B b.length (fcs b)) (hc : Reads w w.heap.size 2 C c.length (fcs c)) (hd : Reads w w.heap.size 2 D d.length (fcs d)) (ca cb cc cd : Nat) (t : TypeId) :
  FRows (w.alloc (.cells #[.slice A a.length ca, .slice B b.length cb, .slice C c.length cc, .slice D d.length cd] t)) (w.heap.size + 1) (some ⟨w.heap.size, 0, none⟩) [a, b, c, d] := fun i fs hi => by
 have hn := fun j u hu => World.news_of_block (w := w.alloc (.cells #[.slice A a.length ca, .slice B b.length cb, .slice C c.length cc, .slice D d.length cd] t)) (B := w.heap.size) (heap_alloc_new w _) j u hu
 have hk : ∀ {X : Option Addr} {x : List Flt}, Reads w w.heap.size 2 X x.length (fcs x) → Reads (w.alloc (.cells #[.slice A a.length ca, .slice B b.length cb, .slice C c.length cc, .slice D d.length cd] t)) (w.heap.size + 1) 2 X x.length (fcs x) := fun h => (h.alloc (Nat.le_refl _) _).more (by omega)
 rcases i with _ | _ | _ | _ | i
 ·simp at hi
  subst hi
  exact ⟨_, A, ca, rfl, Nat.lt_succ_self _, hn 0 _ rfl, hk ha⟩
 ·simp at hi
  subst hi
  exact ⟨_, B, cb, rfl, Nat.lt_succ_self _, hn 1 _ rfl, hk hb⟩
 ·simp at hi
  subst hi
  exact ⟨_, C, cc, rfl, Nat.lt_succ_self _, hn 2 _ rfl, hk hc⟩
 ·simp at hi
  subst hi
  exact ⟨_, D, cd, rfl, Nat.lt_succ_self _, hn 3 _ rfl, hk hd⟩
 ·simp at hi
theorem keepF {w w' : World} {base c : Nat} {A : Option Addr} {fs : List Flt} (h : Fown w base A c fs) (hb : Below w.heap.size w w') : Fown w' base A c fs := own_below h hb
theorem rowF {w : World} {base c : Nat} {A : Option Addr} {fs : List Flt} (h : Fown w base A c fs) : Reads w w.heap.size 2 A fs.length (fcs fs) := Reads.of_own h
end Go.Proofs.YthefooacfcagbaaGreatDoor.ins

/- No violation is OK. Printed from InsI's lemmas on sizes. -/
namespace Go.Proofs.YthefooacfcagbaaGreatDoor.nz
open Go.RowKit
open lib rd typ app flts note txt und cat rul net
set_option linter.unusedVariables false
set_option linter.unusedSimpArgs false
def OkE (E : List Int) : Prop := ∀ e ∈ E, e ≠ 0
def OkF (fs : List Flt) : Prop := ∀ f ∈ fs, f.err ≠ 0 ∧ f.at_.size ≤ 1000
theorem OkE.nil : OkE [] := fun e h => by cases h
theorem OkE.push {xs : List Int} {r : Bool} {u : Int} (h : OkE xs) (hu : u ≠ 0) : OkE (pushIf xs r u) := fun e he => by
 rcases pushIf_mem he with h1 | rfl
 ·exact h e h1
 ·exact hu
theorem OkE.append {xs ys : List Int} (h : OkE xs) (h' : OkE ys) : OkE (xs ++ ys) := fun e he => by
 rcases List.mem_append.1 he with h1 | h1
 ·exact h e h1
 ·exact h' e h1
theorem OkF.nil : OkF [] := fun e h => by cases h
theorem OkF.append {xs ys : List Flt} (h : OkF xs) (h' : OkF ys) : OkF (xs ++ ys) := fun e he => by
 rcases List.mem_append.1 he with h1 | h1
 ·exact h e h1
 ·exact h' e h1
theorem OkF.one {e : Int} {s : ByteArray} (h : e ≠ 0) (hs : s.size ≤ 1000) : OkF [⟨e, s⟩] := fun f hf => by
 rw [List.mem_singleton] at hf
 subst hf
 exact ⟨h, hs⟩
theorem OkF.of {E : List Int} {s : ByteArray} (h : OkE E) (hs : s.size ≤ 1000) : OkF (E.map fun e => ⟨e, s⟩) := fun f hf => by
 obtain ⟨e, he, rfl⟩ := List.mem_map.1 hf
 exact ⟨h e he, hs⟩
theorem dec_sz (n : Nat) : (decS n).size ≤ 1000 := Nat.le_trans (decS_size n) (by decide)
theorem OkF.mk {i : Nat} {E : List Int} (h : OkE E) : OkF (mkF i E) := OkF.of h (dec_sz i)
theorem tvTo_ok (l : List Pt) : ∀ j, OkF (trv.tvTo l j)
 | 0 => by
  unfold trv.tvTo
  split
  ·exact OkF.one (by decide) (by decide)
  ·exact OkF.nil
 | j + 1 => by
  rw [trv.tvTo]
  refine (tvTo_ok l j).append ?_
  unfold trv.tvAt
  split
  ·unfold trv.tvP
   refine OkF.append ?_ ?_
   all_goals
    split
    ·exact OkF.one (by decide) (dec_sz j)
    ·exact OkF.nil
  ·exact OkF.nil
theorem slTo_ok (l : List Pt) : ∀ j, OkE (slTo l j)
 | 0 => by
  unfold slTo
  split
  ·intro e he; simp at he; omega
  ·exact OkE.nil
 | j + 1 => by
  rw [slTo]
  refine (slTo_ok l j).append ?_
  unfold slAt
  split
  ·unfold slP
   split
   ·intro e he; simp at he; omega
   ·exact OkE.nil
  ·exact OkE.nil
theorem arcE_ok (P : Int) (ks : List (Int × Int × Int)) (x : Arc) : OkE (arcE P ks x) := by
 unfold arcE
 refine ((((OkE.nil.push ?_).push ?_).push ?_).append ?_).append (slTo_ok _ _)
 ·decide
 ·decide
 ·decide
 ·intro e he
  obtain ⟨f, hf, rfl⟩ := List.mem_map.1 he
  exact (tvTo_ok _ _ f hf).1
theorem plc_sz (i : Nat) : (plcS i).size ≤ 1000 := by
 have := decS_size i
 unfold plcS
 rw [ByteArray.size_append]
 exact Nat.le_trans (Nat.add_le_add_left this _) (by decide)
theorem arc_sz (i : Nat) : (arcS i).size ≤ 1000 := by
 have := decS_size i
 unfold arcS
 rw [ByteArray.size_append]
 exact Nat.le_trans (Nat.add_le_add_left this _) (by decide)
theorem plTo_ok (l : List ByteArray) : ∀ j, OkF (plTo l j)
 | 0 => by
  unfold plTo
  split
  ·exact OkF.one (by decide) (by decide)
  ·exact OkF.nil
 | j + 1 => by
  rw [plTo]
  refine (plTo_ok l j).append ?_
  unfold plAt
  split
  ·unfold plP
   split
   ·split
    ·exact OkF.one (by decide) (plc_sz j)
    ·exact OkF.nil
   ·exact OkF.one (by decide) (plc_sz j)
  ·exact OkF.nil
theorem netTo_ok (n : Net) : ∀ j, OkF (netTo n j)
 | 0 => by
  unfold netTo
  refine (plTo_ok _ _).append ?_
  split
  ·exact OkF.one (by decide) (by decide)
  ·exact OkF.nil
 | j + 1 => by
  rw [netTo]
  refine (netTo_ok n j).append ?_
  unfold arAt
  split
  ·exact OkF.of (arcE_ok _ _ _) (arc_sz j)
  ·exact OkF.nil
theorem fltsTo_ok (P : Int) (l : List Ty) : ∀ j, OkF (flt.fltsTo P l j)
 | 0 => by
  unfold flt.fltsTo
  split
  ·exact OkF.nil
  ·exact OkF.one (by decide) (by decide)
 | j + 1 => by
  rw [flt.fltsTo]
  refine (fltsTo_ok P l j).append ?_
  unfold flt.fltsAt
  split
  ·refine OkF.mk (i := j) ?_
   unfold flt.errsL
   repeat (refine OkE.push ?_ (by decide))
   exact OkE.nil
  ·exact OkF.nil
theorem ofltsTo_ok (P dims types : Int) (l : List Ord) : ∀ j, OkF (ord.ofltsTo P dims types l j)
 | 0 => by
  unfold ord.ofltsTo
  split
  ·exact OkF.nil
  ·exact OkF.one (by decide) (by decide)
 | j + 1 => by
  rw [ord.ofltsTo]
  refine (ofltsTo_ok P dims types l j).append ?_
  unfold ord.ofltsAt
  split
  ·refine OkF.mk (i := j) ?_
   unfold ord.errsO
   repeat (refine OkE.push ?_ (by decide))
   exact OkE.nil
  ·exact OkF.nil
theorem at_sz (word : ByteArray) (hw : word.size ≤ 900) (i : Nat) : (atS word i).size ≤ 1000 := by
 have := decS_size i
 unfold atS
 rw [ByteArray.size_append, ByteArray.size_append]
 have h1 : (⟨#[32]⟩ : ByteArray).size = 1 := rfl
 omega
theorem pairsTo_ok (orders : Int) (word : ByteArray) (hw : word.size ≤ 900) (same : Int × Int → Int × Int → Bool) (l : List (Int × Int)) : ∀ j, OkF (pairsTo orders word same l j)
 | 0 => by
  unfold pairsTo
  split
  ·exact OkF.nil
  ·exact OkF.one (by decide) (by omega)
 | j + 1 => by
  rw [pairsTo]
  refine (pairsTo_ok orders word hw same l j).append ?_
  unfold pairAt
  split
  ·unfold pairP
   split
   ·exact OkF.one (by decide) (at_sz word hw j)
   ·split
    ·exact OkF.one (by decide) (at_sz word hw j)
    ·exact OkF.nil
  ·exact OkF.nil
theorem rulesF_ok (orders : Int) (a b : List (Int × Int)) : OkF (rulesF orders a b) := (pairsTo_ok _ _ (by decide) _ _ _).append (pairsTo_ok _ _ (by decide) _ _ _)
end Go.Proofs.YthefooacfcagbaaGreatDoor.nz
