/- Instances under construction: what stands, and the row that grows. -/
import Derived.Test.YtamhjodppdodfaaDoorGenG
import Derived.Test.YtamhjodppdodfaaDoorGenH
import Derived.Test.YtamhjodppdodfaaDoorGenQ
import Derived.Test.YtamhjodppdodfaaDoorGenC
import Derived.Test.YtamhjodppdodfaaDoorZ4
namespace Go.Proofs.YtamhjodppdodfaaDoor.gen
open Go.RowKit
open Go.Proofs.YtamhjodppdodfaaDoor.lib Go.Proofs.YtamhjodppdodfaaDoor.rd Go.Proofs.YtamhjodppdodfaaDoor.app Go.Proofs.YtamhjodppdodfaaDoor.els Go.Proofs.YtamhjodppdodfaaDoor.typ Go.Proofs.YtamhjodppdodfaaDoor.txt Go.Proofs.YtamhjodppdodfaaDoor.big Go.Proofs.YtamhjodppdodfaaDoor.off Go.Proofs.YtamhjodppdodfaaDoor.ins Go.Proofs.YtamhjodppdodfaaDoor.ord
set_option linter.unusedVariables false
set_option linter.unusedSimpArgs false

/-- The blocks of what has been built. -/
def XIn (W : World) (ob B1 : Nat) (q : Nat) : Prop := W.heap.size ≤ q ∧ q ≠ ob ∧ q < B1
/-- What has been built stays where only other blocks turn. -/
def XKeep (W : World) (ob B1 : Nat) (F : World → Prop) : Prop := ∀ w w', Fr (XIn W ob B1) w w' → F w → F w'
structure XSt {X : Type} (r : Off X) (T e : TypeId) (W : World) (p ob B1 : Nat) (s : Int) (cells : List Value) (F : World → Prop) (xs : List X) (A : Option Addr) (c : Nat) (cs : List Value) (wx : World) : Prop where
  gs : GS W p T s wx
  blk : Blk wx ob 30 cells
  keep : XKeep W ob B1 F
  fin : F wx
  row : Row r e B1 wx xs A c cs
  size : B1 ≤ wx.heap.size
  lay : BPl W p B1 ob
section
variable {X : Type} {r : Off X} {T e : TypeId} {W wx wy : World} {p ob B1 : Nat} {s s' : Int} {cells : List Value} {F : World → Prop} {xs : List X} {A : Option Addr} {c : Nat} {cs : List Value}
theorem XSt.set (h : XSt r T e W p ob B1 s cells F xs A c cs wx) (i : Nat) (u : Value) : XSt r T e W p ob B1 s (cells.set i u) F xs A c cs (wx.setCell ⟨ob, i, none⟩ u) := by
  obtain ⟨h2, h3, h4⟩ := h.lay
  exact ⟨h.gs.set h3 i u, h.blk.set i u, h.keep, h.keep _ _ (Fr.set (q := ob) wx i u (fun q hq => hq.2.1)) h.fin, h.row.fr (Fr.set (q := ob) wx i u (fun q hq => by have h' : B1 ≤ q := hq; omega)), by have := h.size; simp [World.setCell]; omega, h.lay⟩
theorem XSt.drew (h : XSt r T e W p ob B1 s cells F xs A c cs wx) : XSt r T e W p ob B1 s cells F xs A c cs wx.drew := ⟨h.gs.drew, h.blk, h.keep, h.keep _ _ (Fr.drew wx) h.fin, h.row.fr (Fr.drew wx), h.size, h.lay⟩
theorem XSt.draw (h : XSt r T e W p ob B1 s cells F xs A c cs wx) (hb : Boxed wy p T (.int .i64 s')) (hg : wx.grownBy wy (some p)) : XSt r T e W p ob B1 s' cells F xs A c cs wy := by
  obtain ⟨h2, h3, h4⟩ := h.lay
  exact ⟨h.gs.draw hb hg, h.blk.kept hg (fun e => by injection e; omega), h.keep, h.keep _ _ (Fr.grown hg (fun q hq e => by have := hq.1; injection e; omega)) h.fin, h.row.fr (Fr.grown hg (fun q hq e => by have h' : B1 ≤ q := hq; injection e; omega)), Nat.le_trans h.size hg.size, h.lay⟩
theorem XSt.below (h : XSt r T e W p ob B1 s cells F xs A c cs wx) (hb : Below wx.heap.size wx wy) : XSt r T e W p ob B1 s cells F xs A c cs wy :=
  ⟨h.gs.below hb, h.blk.below hb, h.keep, h.keep _ _ (Fr.below hb) h.fin, h.row.fr (Fr.below hb), Nat.le_trans h.size hb.size, h.lay⟩
theorem XSt.own {n : Nat} (h : XSt r T e W p ob B1 s cells F xs A c cs wx) (hn : xs.length = n) : wx.ownsRow B1 e r.rd.size (.slice A n c) n cs := by
  subst hn
  exact h.row.own
theorem XSt.push {n : Nat} {x : X} {cx : List Value} {g c' : Nat} (h : XSt r T e W p ob B1 s cells F xs A c cs wx) (hn : xs.length = n) (hx : r.at_ wx (fun b => some b ≠ (Value.slice A n c).ownBlock ∧ B1 ≤ b) cx x)
    (hown : wy.ownsRow B1 e r.rd.size (.slice (some ⟨g, 0, none⟩) (n + 1) c') (n + 1) (cs ++ cx)) (hg : wx.grownBy wy (Value.slice A n c).ownBlock) (hd : (Value.slice A n c).ownBlock = some g ∨ wx.heap.size ≤ g) :
    XSt r T e W p ob B1 s cells F (xs ++ [x]) (some ⟨g, 0, none⟩) c' (cs ++ cx) wy := by
  subst hn
  obtain ⟨h2, h3, h4⟩ := h.lay
  have hne : ∀ q, q < B1 → some q ≠ (Value.slice A xs.length c).ownBlock := fun q hq e => by have := h.row.lo e.symm; omega
  exact ⟨h.gs.grow hg (fun q e => by have := h.row.lo e; omega), h.blk.kept hg (hne _ h4), h.keep, h.keep _ _ (Fr.grown hg (fun q hq => hne q hq.2.2)) h.fin, h.row.push hx hown hg hd, Nat.le_trans h.size hg.size, h.lay⟩
theorem own_cap {w : World} {base : Nat} {e : TypeId} {size n c : Nat} {A : Option Addr} {xs : List Value} (h : w.ownsRow base e size (.slice A n c) n xs) : n ≤ c := by
  rcases h.2 with ⟨h1, h2⟩ | ⟨g, cap, cur, h1, h2, h3, h4, h5⟩
  · injection h1
    omega
  · injection h1 with _ _ h6
    omega
/-- A row is done: the next one begins. -/
theorem XSt.next {Y : Type} {r' : Off Y} {e' : TypeId} (h : XSt r T e W p ob B1 s cells F xs A c cs wx) (hl : xs.length ≤ 17592186043904) :
    XSt r' T e' W p ob wx.heap.size s cells (fun w => F w ∧ RowOff r w (XIn W ob wx.heap.size) A xs) [] none 0 [] wx := by
  obtain ⟨h2, h3, h4⟩ := h.lay
  have h5 := h.size
  refine ⟨h.gs, h.blk, fun w w' hf hF => ⟨h.keep _ _ (hf.weak fun q hq => ⟨hq.1, hq.2.1, Nat.lt_of_lt_of_le hq.2.2 h5⟩) hF.1, rowOff_fr hF.2 hf⟩, ⟨h.fin, ?_⟩, Row.nil, Nat.le_refl _, h2, h3, h.blk.lt⟩
  exact (h.row.off hl).weak (fun b hb hq => ⟨by have h' : B1 ≤ b := hq; omega, by have h' : B1 ≤ b := hq; omega, hb⟩)
end
/-- The cells of an instance under construction. -/
def xC (A0 : Option Addr) (n0 c0 : Nat) (A1 : Option Addr) (n1 c1 : Nat) (A2 : Option Addr) (n2 c2 : Nat) (A3 : Option Addr) (n3 c3 : Nat) : List Value := [.slice A0 n0 c0, .slice A1 n1 c1, .slice A2 n2 c2, .slice A3 n3 c3, .slice none 0 0, .slice none 0 0]
theorem xC_one (A0 : Option Addr) (n0 c0 : Nat) (A1 : Option Addr) (n1 c1 : Nat) (A2 : Option Addr) (n2 c2 : Nat) (A3 : Option Addr) (n3 c3 : Nat) : ∀ u ∈ xC A0 n0 c0 A1 n1 c1 A2 n2 c2 A3 n3 c3, u.oneCell' = true := fun u hu => by
  simp only [xC, List.mem_cons, List.not_mem_nil, or_false] at hu
  rcases hu with rfl | rfl | rfl | rfl | rfl | rfl <;> rfl
/-- What Instance answers. -/
def genB (pl ty od : Int) : Prop := 2 ≤ pl ∧ pl ≤ 8 ∧ 1 ≤ ty ∧ ty ≤ 6 ∧ 0 ≤ od ∧ od ≤ 10
instance (pl ty od : Int) : Decidable (genB pl ty od) := by unfold genB; infer_instance
def genR (seed pl ty od : Int) : Ins × Int := if genB pl ty od then (genI seed pl.toNat ty.toNat od.toNat, 0) else (nilI, 2)
def InsOut (w : World) (r : Ins × Int) (e : Ending) (w' : World) : Prop := ∃ P, e = .returned (.tuple #[InV r.1 P, .int .i64 r.2]) ∧ InAt w' w'.heap.size r.1 P ∧ Below w.heap.size w w'
theorem tyN_size (i : Nat) : (tyN i).size ≤ 100 := by
  unfold tyN
  rw [ByteArray.size_append]
  have := decS_size i
  show 1 + _ ≤ _
  omega
theorem tyW_fits (nm : ByteArray) (s : Int) (places : Nat) (hn : nm.size ≤ 1000) (hp : 1 ≤ places) (hp9 : places ≤ 1000000) : TyFits (tyW nm s places) := by
  have f0 := frm_bd (s := s) (a := 1) (b := 3) (by omega)
  have f1 := frm_bd (s := nx 1 s) (a := 0) (b := (places : Int) - 1) (by omega)
  have f3 := frm_bd (s := nx 3 s) (a := 0) (b := 3) (by omega)
  have f4 := frm_bd (s := nx 4 s) (a := 0) (b := 100) (by omega)
  have f5 := frm_bd (s := nx 5 s) (a := 200) (b := 900) (by omega)
  have f6 := frm_bd (s := nx 6 s) (a := 100) (b := 400) (by omega)
  have f7 := frm_bd (s := nx 7 s) (a := 0) (b := 40) (by omega)
  have f8 := frm_bd (s := nx 8 s) (a := 0) (b := 500) (by omega)
  have f9 := frm_bd (s := nx 9 s) (a := 0) (b := 9) (by omega)
  have f10 := frm_bd (s := nx 10 s) (a := 0) (b := 5) (by omega)
  unfold TyFits tyW
  simp only
  refine ⟨by omega, ?_⟩
  omega
theorem stpF_fits (s : Int) (places : Nat) (hp : 1 ≤ places) (hp9 : places ≤ 1000000) : StpFits (stpF s places) := by
  have f0 := frm_bd (s := s) (a := 0) (b := (places : Int) - 1) (by omega)
  have f1 := frm_bd (s := nx 1 s) (a := 0) (b := 300) (by omega)
  have f2 := frm_bd (s := nx 2 s) (a := 30) (b := 400) (by omega)
  have f3 := frm_bd (s := nx 3 s) (a := 0) (b := 20) (by omega)
  unfold StpFits stpF
  simp only
  omega
theorem ordF_fits (s : Int) (dims places n : Nat) (hp : 1 ≤ places) (hp9 : places ≤ 1000000) : OrdFits (ordF s dims places n) := by
  have f0 := frm_bd (s := sRest s dims) (a := 0) (b := 1) (by omega)
  have hz : StpFits noStp := by unfold StpFits noStp; simp only; omega
  have hpe : ∀ i, -1 ≤ penF i ∧ penF i ≤ 2000 := fun i => by
    unfold penF
    split
    · omega
    · split
      · omega
      · split <;> omega
  have h5 := hpe (frm (nx 1 (sRest s dims)) 0 3)
  have hn := ordN_size n
  refine ⟨by show (ordN n).size ≤ _; omega, ?_, ?_, ?_⟩
  · show StpFits (if kindF s dims = 0 then noStp else stpF (sPick s dims) places)
    split
    · exact hz
    · exact stpF_fits _ _ hp hp9
  · show StpFits (if kindF s dims = 1 then noStp else stpF (sDrop s dims) places)
    split
    · exact hz
    · exact stpF_fits _ _ hp hp9
  · unfold ordF
    simp only
    omega
/-- A row that a call has made, in a block of one number. -/
theorem int_off {w : World} {g : Nat} {v : Int} {P : Nat → Prop} (h : w.heap[g]? = some (.cells #[.int .i64 v] 3 (0, 0))) (hP : ∀ q, g ≤ q → P q) : IntsOff w P (some ⟨g, 0, none⟩) [v] :=
  IntsOff.own (base := g) (c := 1) (e := 3) ⟨rfl, .inr ⟨g, 1, #[.int .i64 v], rfl, Nat.le_refl _, h, Nat.le_refl _, by unfold maxLen; omega, by simp, by simp⟩⟩ (by simp) hP
/-- An instance with k of its orders. -/
def insK (seed : Int) (np nt k : Nat) : Ins := ⟨netF np seed, (tysTo np (sTys seed np) nt).1, ordsTo 1 np (sOrds seed np nt) k, [], []⟩
theorem genI_K (seed : Int) (np nt no : Nat) : genI seed np nt no = insK seed np nt no := rfl
def RowsAt (w : World) (seed : Int) (np nt : Nat) (A0 A1 A2 : Option Addr) : Prop := RowAt rStr w w.heap.size A0 (netF np seed).places ∧ RowAt rArc w w.heap.size A1 (netF np seed).arcs ∧ RowAt rTy w w.heap.size A2 (tysTo np (sTys seed np) nt).1
theorem ins_at {e : TypeId} {wx : World} {B1 c0 c1 c2 c k np nt : Nat} {seed : Int} {cs : List Value} {A A0 A1 A2 : Option Addr} (h : Row oOrd e B1 wx (ordsTo 1 np (sOrds seed np nt) k) A c cs) (hF : RowsAt wx seed np nt A0 A1 A2) (hc : nt ≤ c2) (hk : k ≤ 10) :
    InAt wx wx.heap.size (insK seed np nt k) ⟨A0, c0, A1, c1, A2, c2, A, c, none, 0, none, 0⟩ := by
  obtain ⟨h1, h2, h3⟩ := hF
  have hl := (ords_at 1 np (sOrds seed np nt) k).1
  have ht := (tys_at np (sTys seed np) nt).1
  refine ⟨h1, h2, h3, ?_, RowAt.nil, RowAt.nil, ?_, ?_, Nat.le_refl _, Nat.le_refl _⟩
  · exact (h.off (by omega)).row
  · show (tysTo np (sTys seed np) nt).1.length ≤ c2
    omega
  · have := own_cap h.own
    exact this
/-- What the call of Order answers. -/
def OrdGot (w : World) (o : Ord) (e : Ending) (w' : World) : Prop := ∃ A c, e = .returned (.tuple #[.agg (OrdCells o A c).toArray, .int .i64 0]) ∧ w'.ownsRow w.heap.size 3 1 (.slice A o.load.length c) o.load.length (o.load.map (.int .i64)) ∧ Below w.heap.size w w'
theorem ordE_K (s seed : Int) {np nt k : Nat} (hp : 1 ≤ np) (ht : 1 ≤ nt) (hk : k < 10) : ordE s (insK seed np nt k) = .ok (ordF s 1 np k) := by
  have hl : (insK seed np nt k).orders.length = k := (ords_at 1 np (sOrds seed np nt) k).1
  have htl : (insK seed np nt k).types.length = nt := (tys_at np (sTys seed np) nt).1
  have hpl : (insK seed np nt k).net.places.length = np := plcs_len' np
  have hd : flt.dimsN (insK seed np nt k).types = 1 := tys_dims ht
  unfold ordE
  rw [hl, htl, hpl, hd, if_neg (by omega), if_neg (by omega)]
theorem ins_ord {G : Nat} (HC : ∀ (s : Int) (x : Ins) (P : InP) (w : World), InAt w w.heap.size x P → flt.dimsN x.types ≤ 1000 → x.net.places.length ≤ 1000000 → Calls Tryd.prog G #[.int .i64 s, InV x P] w (OrdOut w (ordE s x)))
    {T e : TypeId} {W wx : World} {p ob B1 c0 c1 c2 c k np nt na : Nat} {s s' seed : Int} {cells cs : List Value} {F : World → Prop} {A A0 A1 A2 : Option Addr} (h : XSt oOrd T e W p ob B1 s cells F (ordsTo 1 np (sOrds seed np nt) k) A c cs wx) (hF : ∀ w, F w → RowsAt w seed np nt A0 A1 A2) (hc : nt ≤ c2) (hp : 1 ≤ np ∧ np ≤ 8) (ht : 1 ≤ nt) (hk : k < 10) (hna : (netF np seed).arcs.length = na) :
    Calls Tryd.prog G #[.int .i64 s', .agg (xC A0 np c0 A1 na c1 A2 nt c2 A k c).toArray] wx (OrdGot wx (ordF s' 1 np k)) := by
  have hl : (insK seed np nt k).orders.length = k := (ords_at 1 np (sOrds seed np nt) k).1
  have htl : (insK seed np nt k).types.length = nt := (tys_at np (sTys seed np) nt).1
  have hpl : (insK seed np nt k).net.places.length = np := plcs_len' np
  have hna' : (insK seed np nt k).net.arcs.length = na := hna
  have hd : flt.dimsN (insK seed np nt k).types = 1 := tys_dims ht
  have h1 := HC s' (insK seed np nt k) ⟨A0, c0, A1, c1, A2, c2, A, c, none, 0, none, 0⟩ wx (ins_at h.row (hF _ h.fin) hc (by omega)) (by rw [hd]; omega) (by rw [hpl]; omega)
  rw [ordE_K s' seed hp.1 ht hk] at h1
  simp only [InV, hl, htl, hpl, hna'] at h1
  exact h1
end Go.Proofs.YtamhjodppdodfaaDoor.gen
