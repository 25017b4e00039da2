/- Law17: the condition of the rows that look at geometries gives what the walks need; a world that meets it; geometries opened. -/
import Derived.Test.YtkekidalckflhaaGreatDoorZKMgW
import Derived.Test.YtkekidalckflhaaGreatDoorZ5
import Derived.Test.YtkekidalckflhaaGreatDoorZ2
namespace Go.Proofs.YtkekidalckflhaaGreatDoor
open Go.Vc Go.RowKit Go.Sei

section
variable {H : Type} {enc : TypeId × Value → H} {P : Program} {w : World} {base : Nat} {spare : Nat → Bool} {held : Bool} {fuel : Nat} {t : TypeId} {cs : List Value} {x : DataW H × List MemPlace}
theorem open_i (ht : P.underlying t = some (.int .i64)) (h : DataW.trod enc P w base spare held fuel t cs = some x) : ∃ b : Int, cs = [i64 b] ∧ x.1 = .lit (.int .i64 b) := by
  obtain ⟨n, rfl, rfl, _⟩ := DataW.trod_int ht h
  exact ⟨n, rfl, rfl⟩
theorem open_is {n : Nat} {e : TypeId} (ht : P.underlying t = some (.array n e)) (he : P.underlying e = some (.int .i64)) (hc : P.cellsOf e = 1) (hn : P.cellsOf t = n)
    (h : DataW.trod enc P w base spare held fuel t cs = some x) : ∃ bs : List Int, bs.length = n ∧ cs = bs.map i64 ∧ x.1 = .agg (bs.map fun b => .lit (.int .i64 b)) := by
  obtain ⟨xs, m, rfl, rfl, hl, hx, hel⟩ := DataW.trod_array ht h
  rw [hn] at hl
  have each : ∀ i (h : i < n), ∃ b : Int, cs[i]? = some (i64 b) ∧ xs[i]?.map (·.1) = some (.lit (.int .i64 b)) := fun i hi => by
    have h1 := hel i hi
    rw [hc, List.getElem?_eq_getElem (by omega)] at h1
    obtain ⟨b, h2, h3⟩ := open_i he h1
    refine ⟨b, ?_, by rw [List.getElem?_eq_getElem (by omega), Option.map_some, h3]⟩
    have : ((cs.drop (i * 1)).take 1)[0]? = some (i64 b) := by rw [h2]; rfl
    simpa using this
  have : ∀ k, k ≤ n → ∃ bs : List Int, bs.length = k ∧ cs.take k = bs.map i64 ∧ (xs.take k).map (·.1) = bs.map fun b => .lit (.int .i64 b) := by
    intro k
    induction k with
    | zero => exact fun _ => ⟨[], rfl, by simp, by simp⟩
    | succ k ih =>
      intro hk
      obtain ⟨bs, h1, h2, h3⟩ := ih (by omega)
      obtain ⟨b, h4, h5⟩ := each k (by omega)
      have hk1 : k < cs.length := by omega
      have hk2 : k < xs.length := by omega
      rw [List.getElem?_eq_getElem hk1] at h4
      rw [List.getElem?_eq_getElem hk2] at h5
      refine ⟨bs ++ [b], by simp [h1], ?_, ?_⟩
      · rw [List.take_succ_eq_append_getElem hk1, h2, Option.some.inj h4]; simp
      · rw [List.take_succ_eq_append_getElem hk2, List.map_append, h3]
        simp at h5
        simp [h5]
  obtain ⟨bs, h1, h2, h3⟩ := this n (Nat.le_refl _)
  rw [List.take_of_length_le (by omega)] at h2 h3
  exact ⟨bs, h1, h2, by rw [← h3]⟩

end

abbrev seatLaidW : List (String × DataW Unit) := [("math/bits.deBruijn32tab", Rows.laid_math_bits_deBruijn32tab), ("math/bits.deBruijn64tab", Rows.laid_math_bits_deBruijn64tab), ("internal/strconv.uint64pow10", Rows.laid_internal_strconv_uint64pow10), ("unicode/utf8.acceptRanges", Rows.laid_unicode_utf8_acceptRanges), ("seisin/geo.bounds", Rows.laid_seisin_geo_bounds),
  ("strconv.ErrRange", Rows.laid_strconv_ErrRange), ("strconv.ErrSyntax", Rows.laid_strconv_ErrSyntax), ("seisin/msg.uses", Rows.laid_seisin_msg_uses), ("seisin/msg.classes", Rows.laid_seisin_msg_classes), ("seisin/msg.names", Rows.laid_seisin_msg_names), ("unicode/utf8.first", Rows.laid_unicode_utf8_first)]

theorem globw_of_laid {W : World} (h : laidMetH Tryz.prog seatLaidW W) (hsh : W.ShapedOpen Tryz.prog) : GlobW W := by
  have h0 : laidMet Tryz.prog seatLaidW W := h
  have h2 := h0.tail.tail
  have h3 := h2.tail.tail
  have h4 := h3.tail
  have h5 := h4.tail
  have h8 := h5.tail
  have h6 := h8.tail
  have h7 := h6.tail
  have pow : Lib.TabIs Tryz.prog W "internal/strconv.uint64pow10" .u64 Lib.pow10Tab :=
    Lib.tabIs_of_head (g := 4) (by kernel_rfl) (by kernel_rfl) Tryz.underlying110 Tryz.underlying78 (by kernel_rfl) (by kernel_rfl) h2
  have err : ∀ (n : String) (g : Nat) (nm : String) (d : DataW Unit) (r : List (String × DataW Unit)), Tryz.prog.globalNamed n = some g → (Tryz.prog.globals[g]?).map (·.type) = some 72 → laidMet Tryz.prog ((n, .iface nm d) :: r) W →
      ∃ ev, W.cell? ⟨g, 0, none⟩ = some ev ∧ (ev = .nilIface ∨ ∃ te pe, ev = .iface te pe) := fun n g nm d r hg ht h => by
    obtain ⟨ps, ⟨g', t', cs, fuel, p, q, hg', ht', hv, hd, _, _⟩, _⟩ := h
    obtain rfl := Option.some.inj (hg.symm.trans hg')
    obtain rfl := Option.some.inj (ht.symm.trans ht')
    obtain ⟨_, u, v, hc, _, _⟩ := iface_of_trod Tryz.underlying72 hd
    have := World.var?_cell hg hv 0
    have h0 : cs[0]? = some (.iface u v) := by
      have : cs.toList[0]? = some (.iface u v) := by rw [hc]; rfl
      simpa using this
    exact ⟨_, this.trans h0, .inr ⟨u, v, rfl⟩⟩
  have use : Cells W ⟨0, 0, none⟩ (usesL.map u8) := by
    obtain ⟨ps, ⟨g', t', cs, fuel, p, q, hg', ht', hv, hd, _, _⟩, _⟩ := h8
    obtain rfl := Option.some.inj ((show Tryz.prog.globalNamed "seisin/msg.uses" = some 0 by kernel_rfl).symm.trans hg')
    obtain rfl := Option.some.inj ((show (Tryz.prog.globals[0]?).map (·.type) = some 42 by kernel_rfl).symm.trans ht')
    obtain ⟨bs, h1, h2, h3⟩ := open_u8s Tryz.underlying42 Tryz.underlying5 (by kernel_rfl) (by kernel_rfl) hd
    have hbs : bs = usesL := by
      match bs, h1 with
      | [b0, b1, b2, b3, b4, b5, b6, b7, b8, b9, b10, b11, b12], _ =>
        simp only [Rows.laid_seisin_msg_uses, List.map_cons, List.map_nil, DataW.agg.injEq, List.cons.injEq, DataW.lit.injEq, Lit.int.injEq, true_and, and_true] at h3
        simp only [usesL, List.cons.injEq, and_true]
        obtain ⟨a0, a1, a2, a3, a4, a5, a6, a7, a8, a9, a10, a11, a12⟩ := h3
        refine ⟨?_, ?_, ?_, ?_, ?_, ?_, ?_, ?_, ?_, ?_, ?_, ?_, ?_⟩ <;> (apply UInt8.toNat_inj.1; simp; omega)
    subst hbs
    refine cells_mk fun i v hvv => ?_
    have hc := World.var?_cell hg' hv i
    rw [← hvv, ← h2]
    simpa using hc
  have bnd : Cells W ⟨3, 0, none⟩ (bndL.map i64) := by
    obtain ⟨ps, ⟨g', t', cs, fuel, p, q, hg', ht', hv, hd, _, _⟩, _⟩ := h3
    obtain rfl := Option.some.inj ((show Tryz.prog.globalNamed "seisin/geo.bounds" = some 3 by kernel_rfl).symm.trans hg')
    obtain rfl := Option.some.inj ((show (Tryz.prog.globals[3]?).map (·.type) = some 59 by kernel_rfl).symm.trans ht')
    obtain ⟨bs, h1, h2, h3⟩ := open_is Tryz.underlying59 Tryz.underlying3 (by kernel_rfl) (by kernel_rfl) hd
    have hbs : bs = bndL := by
      match bs, h1 with
      | [b0, b1, b2, b3, b4], _ =>
        simp only [Rows.laid_seisin_geo_bounds, List.map_cons, List.map_nil, DataW.agg.injEq, List.cons.injEq, DataW.lit.injEq, Lit.int.injEq, true_and, and_true] at h3
        simp only [bndL, List.cons.injEq, and_true]
        obtain ⟨a0, a1, a2, a3, a4⟩ := h3
        exact ⟨a0.symm, a1.symm, a2.symm, a3.symm, a4.symm⟩
    subst hbs
    refine cells_mk fun i v hvv => ?_
    have hc := World.var?_cell hg' hv i
    rw [← hvv, ← h2]
    simpa using hc
  have cls : Cells W ⟨1, 0, none⟩ (classes.map u8) := by
    obtain ⟨ps, ⟨g', t', cs, fuel, p, q, hg', ht', hv, hd, _, _⟩, _⟩ := h6
    obtain rfl := Option.some.inj ((show Tryz.prog.globalNamed "seisin/msg.classes" = some 1 by kernel_rfl).symm.trans hg')
    obtain rfl := Option.some.inj ((show (Tryz.prog.globals[1]?).map (·.type) = some 42 by kernel_rfl).symm.trans ht')
    obtain ⟨bs, h1, h2, h3⟩ := open_u8s Tryz.underlying42 Tryz.underlying5 (by kernel_rfl) (by kernel_rfl) hd
    have hbs : bs = classes := by
      match bs, h1 with
      | [b0, b1, b2, b3, b4, b5, b6, b7, b8, b9, b10, b11, b12], _ =>
        simp only [Rows.laid_seisin_msg_classes, List.map_cons, List.map_nil, DataW.agg.injEq, List.cons.injEq, DataW.lit.injEq, Lit.int.injEq, true_and, and_true] at h3
        simp only [classes, List.cons.injEq, and_true]
        obtain ⟨a0, a1, a2, a3, a4, a5, a6, a7, a8, a9, a10, a11, a12⟩ := h3
        refine ⟨?_, ?_, ?_, ?_, ?_, ?_, ?_, ?_, ?_, ?_, ?_, ?_, ?_⟩ <;> (apply UInt8.toNat_inj.1; simp; omega)
    subst hbs
    refine cells_mk fun i v hvv => ?_
    have hc := World.var?_cell hg' hv i
    rw [← hvv, ← h2]
    simpa using hc
  have nms : Cells W ⟨2, 0, none⟩ (kindNames.map strV) := by
    obtain ⟨ps, ⟨g', t', cs, fuel, p, q, hg', ht', hv, hd, _, _⟩, _⟩ := h7
    obtain rfl := Option.some.inj ((show Tryz.prog.globalNamed "seisin/msg.names" = some 2 by kernel_rfl).symm.trans hg')
    obtain rfl := Option.some.inj ((show (Tryz.prog.globals[2]?).map (·.type) = some 52 by kernel_rfl).symm.trans ht')
    obtain ⟨bs, h1, h2, h3⟩ := open_strs Tryz.underlying52 Tryz.underlying9 (by kernel_rfl) (by kernel_rfl) hd
    have hbs : bs = kindNames := by
      have h3' : (DataW.agg (kindNames.map fun b => .lit (.string b)) : DataW Unit) = .agg (bs.map fun b => .lit (.string b)) := h3
      have h4 := DataW.agg.inj h3'
      have hinj : ∀ (a b : List (List UInt8)), (a.map fun b => (DataW.lit (.string b) : DataW Unit)) = (b.map fun b => .lit (.string b)) → a = b := by
        intro a
        induction a with
        | nil => intro b h; cases b with
          | nil => rfl
          | cons y t => simp at h
        | cons x r ih => intro b h; cases b with
          | nil => simp at h
          | cons y t =>
            simp only [List.map_cons, List.cons.injEq, DataW.lit.injEq, Lit.string.injEq] at h
            rw [h.1, ih t h.2]
      exact (hinj _ _ h4).symm
    subst hbs
    refine cells_mk fun i v hvv => ?_
    have hc := World.var?_cell hg' hv i
    rw [← hvv, ← h2]
    simpa using hc
  have max : ∃ m, W.cell? ⟨5, 0, none⟩ = some (.int .i64 m) :=
    cell_of_shapedOpen_int (zero := #[.int .i64 0]) (t := 3) hsh (of_decide_eq_true (by kernel_rfl)) (by kernel_rfl) rfl (by kernel_rfl) (by kernel_rfl) Tryz.underlying3
  refine ⟨⟨cls, nms, World.block_lt_of_cell? W _ (cells_head nms), pow, max, err "strconv.ErrSyntax" 6 _ _ _ (by kernel_rfl) (by kernel_rfl) h5, err "strconv.ErrRange" 7 _ _ _ (by kernel_rfl) (by kernel_rfl) h4⟩, use, bnd⟩

noncomputable def laidWorldW (os : Os) : World :=
  { World.holding Tryz.prog os ⟨#[], #[], []⟩ with heap := setG (setG (layH (World.holding Tryz.prog os ⟨#[], #[], []⟩).heap) 0 (lit3 Rows.laid_seisin_msg_uses)) 3 (lit3 Rows.laid_seisin_geo_bounds) }
theorem laidWorldW_met (os : Os) (args : Array Value) : laidMetH Tryz.prog seatLaidW ((laidWorldW os).forCall (fun _ _ => 0) ⟨#[], args, []⟩).memory := by
  show laidMet Tryz.prog seatLaidW _
  exact laidMet_of_run' 8 (by kernel_rfl) (by kernel_rfl)

section
variable {H : Type} {enc : TypeId × Value → H} {w : World} {base : Nat} {spare : Nat → Bool} {held : Bool} {fuel : Nat} {cs : List Value} {x : DataW H × List MemPlace}
theorem cellsGeo : Tryz.prog.cellsOf 23 = 5 := by kernel_rfl
theorem cellsInt : Tryz.prog.cellsOf 3 = 1 := by kernel_rfl
set_option maxRecDepth 100000 in
theorem open_geo (h : DataW.trod enc Tryz.prog w base spare held fuel 23 cs = some x) : ∃ g : Geo, cs = g.enc := by
  obtain ⟨xs, n, rfl, rfl, hl, hx, hel⟩ := DataW.trod_struct Tryz.underlying23 h
  rw [cellsGeo] at hl
  have hx : xs.length = 5 := hx
  have e0 : DataW.trod enc Tryz.prog w base spare held n 3 ((cs.drop 0).take (Tryz.prog.cellsOf 3)) = xs[0]? := hel 0 _ rfl
  have e1 : DataW.trod enc Tryz.prog w base spare held n 3 ((cs.drop 1).take (Tryz.prog.cellsOf 3)) = xs[1]? := hel 1 _ rfl
  have e2 : DataW.trod enc Tryz.prog w base spare held n 3 ((cs.drop 2).take (Tryz.prog.cellsOf 3)) = xs[2]? := hel 2 _ rfl
  have e3 : DataW.trod enc Tryz.prog w base spare held n 3 ((cs.drop 3).take (Tryz.prog.cellsOf 3)) = xs[3]? := hel 3 _ rfl
  have e4 : DataW.trod enc Tryz.prog w base spare held n 3 ((cs.drop 4).take (Tryz.prog.cellsOf 3)) = xs[4]? := hel 4 _ rfl
  rw [List.getElem?_eq_getElem (by omega)] at e0 e1 e2 e3 e4
  rw [cellsInt] at e0 e1 e2 e3 e4
  obtain ⟨b0, e0, _⟩ := open_i Tryz.underlying3 e0
  obtain ⟨b1, e1, _⟩ := open_i Tryz.underlying3 e1
  obtain ⟨b2, e2, _⟩ := open_i Tryz.underlying3 e2
  obtain ⟨b3, e3, _⟩ := open_i Tryz.underlying3 e3
  obtain ⟨b4, e4, _⟩ := open_i Tryz.underlying3 e4
  match cs, hl with
  | [c0, c1, c2, c3, c4], _ =>
    simp at e0 e1 e2 e3 e4
    subst e0 e1 e2 e3 e4
    exact ⟨⟨b0, b1, b2, b3, b4⟩, rfl⟩
theorem open_geov {a : Array Value} {d : DataW H} {p : List MemPlace} (h : DataW.Trod enc Tryz.prog w base spare held 23 (.agg a) d p) : ∃ m : Geo, Value.agg a = m.val := by
  obtain ⟨fuel, h⟩ := h
  obtain ⟨m, hm⟩ := open_geo h
  have : a.toList = m.enc := hm
  exact ⟨m, by unfold Geo.val; rw [← this]⟩
end
end Go.Proofs.YtkekidalckflhaaGreatDoor
