/- Law17: the condition of a row gives what the walks need of a world. -/
import Derived.Test.YtkekidalckflhaaDoorMg1
import Derived.Test.YtkekidalckflhaaDoorRows
import Derived.ProofKit
import Derived.OpenShut
import Derived.LaidLaws
import Derived.LaidHandle
import Derived.Stop.LaidErr
import Derived.Lib.LaidTab
import Derived.Shelf.Vars
namespace Go.Proofs.YtkekidalckflhaaDoor
open Go.Vc Go.RowKit Go.Sei

section
variable {H : Type} {enc : TypeId × Value → H} {P : Program} {w : World} {base : Nat} {spare : Nat → Bool} {held : Bool} {fuel : Nat} {t : TypeId} {cs : List Value} {x : DataW H × List MemPlace}

theorem open_u8 (ht : P.underlying t = some (.int .u8)) (h : DataW.trod enc P w base spare held fuel t cs = some x) : ∃ b : UInt8, cs = [u8 b] ∧ x.1 = .lit (.int .u8 b.toNat) := by
  obtain ⟨n, rfl, rfl, hw⟩ := DataW.trod_int ht h
  have hb := bounds_u8 hw
  have e : ((UInt8.ofNat n.toNat).toNat : Int) = n := by
    rw [UInt8.toNat_ofNat']; omega
  exact ⟨UInt8.ofNat n.toNat, by rw [u8, e], by rw [e]⟩

theorem open_u8s {n : Nat} {e : TypeId} (ht : P.underlying t = some (.array n e)) (he : P.underlying e = some (.int .u8)) (hc : P.cellsOf e = 1) (hn : P.cellsOf t = n)
    (h : DataW.trod enc P w base spare held fuel t cs = some x) : ∃ bs : List UInt8, bs.length = n ∧ cs = bs.map u8 ∧ x.1 = .agg (bs.map fun b => .lit (.int .u8 b.toNat)) := by
  obtain ⟨xs, m, rfl, rfl, hl, hx, hel⟩ := DataW.trod_array ht h
  rw [hn] at hl
  have each : ∀ i (h : i < n), ∃ b : UInt8, cs[i]? = some (u8 b) ∧ xs[i]?.map (·.1) = some (.lit (.int .u8 b.toNat)) := fun i hi => by
    have h1 := hel i hi
    rw [hc, List.getElem?_eq_getElem (by omega)] at h1
    obtain ⟨b, h2, h3⟩ := open_u8 he h1
    refine ⟨b, ?_, by rw [List.getElem?_eq_getElem (by omega), Option.map_some, h3]⟩
    have : ((cs.drop (i * 1)).take 1)[0]? = some (u8 b) := by rw [h2]; rfl
    simpa using this
  have : ∀ k, k ≤ n → ∃ bs : List UInt8, bs.length = k ∧ cs.take k = bs.map u8 ∧ (xs.take k).map (·.1) = bs.map fun b => .lit (.int .u8 b.toNat) := by
    intro k
    induction k with
    | zero => exact fun _ => ⟨[], rfl, by simp, by simp⟩
    | succ k ih =>
      intro hk
      obtain ⟨bs, h1, h2, h3⟩ := ih (by omega)
      obtain ⟨b, h4, h5⟩ := each k (by omega)
      have hk1 : k < cs.length := by omega
      have hk2 : k < xs.length := by omega
      rw [List.getElem?_eq_getElem hk1] at h4
      rw [List.getElem?_eq_getElem hk2] at h5
      refine ⟨bs ++ [b], by simp [h1], ?_, ?_⟩
      · rw [List.take_succ_eq_append_getElem hk1, h2, Option.some.inj h4]; simp
      · rw [List.take_succ_eq_append_getElem hk2, List.map_append, h3]
        simp at h5
        simp [h5]
  obtain ⟨bs, h1, h2, h3⟩ := this n (Nat.le_refl _)
  rw [List.take_of_length_le (by omega)] at h2 h3
  exact ⟨bs, h1, h2, by rw [← h3]⟩

theorem open_strs {n : Nat} {e : TypeId} (ht : P.underlying t = some (.array n e)) (he : P.underlying e = some .string) (hc : P.cellsOf e = 1) (hn : P.cellsOf t = n)
    (h : DataW.trod enc P w base spare held fuel t cs = some x) : ∃ ls : List (List UInt8), ls.length = n ∧ cs = ls.map strV ∧ x.1 = .agg (ls.map fun b => .lit (.string b)) := by
  obtain ⟨xs, m, rfl, rfl, hl, hx, hel⟩ := DataW.trod_array ht h
  rw [hn] at hl
  have each : ∀ i (h : i < n), ∃ b : List UInt8, cs[i]? = some (strV b) ∧ xs[i]?.map (·.1) = some (.lit (.string b)) := fun i hi => by
    have h1 := hel i hi
    rw [hc, List.getElem?_eq_getElem (by omega)] at h1
    obtain ⟨s, h2, h3, _⟩ := DataW.trod_string he h1
    have es : Value.string s = strV s.data.toList := by unfold strV bs; cases s; rfl
    refine ⟨s.data.toList, ?_, by rw [List.getElem?_eq_getElem (by omega), Option.map_some, h3]⟩
    have : ((cs.drop (i * 1)).take 1)[0]? = some (strV s.data.toList) := by rw [h2, es]; rfl
    simpa using this
  have : ∀ k, k ≤ n → ∃ ls : List (List UInt8), ls.length = k ∧ cs.take k = ls.map strV ∧ (xs.take k).map (·.1) = ls.map fun b => .lit (.string b) := by
    intro k
    induction k with
    | zero => exact fun _ => ⟨[], rfl, by simp, by simp⟩
    | succ k ih =>
      intro hk
      obtain ⟨ls, h1, h2, h3⟩ := ih (by omega)
      obtain ⟨b, h4, h5⟩ := each k (by omega)
      have hk1 : k < cs.length := by omega
      have hk2 : k < xs.length := by omega
      rw [List.getElem?_eq_getElem hk1] at h4
      rw [List.getElem?_eq_getElem hk2] at h5
      refine ⟨ls ++ [b], by simp [h1], ?_, ?_⟩
      · rw [List.take_succ_eq_append_getElem hk1, h2, Option.some.inj h4]; simp
      · rw [List.take_succ_eq_append_getElem hk2, List.map_append, h3]
        simp at h5
        simp [h5]
  obtain ⟨ls, h1, h2, h3⟩ := this n (Nat.le_refl _)
  rw [List.take_of_length_le (by omega)] at h2 h3
  exact ⟨ls, h1, h2, by rw [← h3]⟩
end

abbrev seatLaid : List (String × DataW Unit) := [("math/bits.deBruijn32tab", Rows.laid_math_bits_deBruijn32tab), ("math/bits.deBruijn64tab", Rows.laid_math_bits_deBruijn64tab), ("internal/strconv.uint64pow10", Rows.laid_internal_strconv_uint64pow10), ("unicode/utf8.acceptRanges", Rows.laid_unicode_utf8_acceptRanges),
  ("strconv.ErrRange", Rows.laid_strconv_ErrRange), ("strconv.ErrSyntax", Rows.laid_strconv_ErrSyntax), ("seisin/msg.classes", Rows.laid_seisin_msg_classes), ("seisin/msg.names", Rows.laid_seisin_msg_names), ("unicode/utf8.first", Rows.laid_unicode_utf8_first)]

theorem glob_of_laid {W : World} (h : laidMetH Tryd.prog seatLaid W) (hsh : W.ShapedOpen Tryd.prog) : GlobM W := by
  have h0 : laidMet Tryd.prog seatLaid W := h
  have h2 := h0.tail.tail
  have h4 := h2.tail.tail
  have h5 := h4.tail
  have h6 := h5.tail
  have h7 := h6.tail
  have pow : Lib.TabIs Tryd.prog W "internal/strconv.uint64pow10" .u64 Lib.pow10Tab :=
    Lib.tabIs_of_head (g := 7) (by kernel_rfl) (by kernel_rfl) Tryd.underlying116 Tryd.underlying64 (by kernel_rfl) (by kernel_rfl) h2
  have err : ∀ (n : String) (g : Nat) (nm : String) (d : DataW Unit) (r : List (String × DataW Unit)), Tryd.prog.globalNamed n = some g → (Tryd.prog.globals[g]?).map (·.type) = some 66 → laidMet Tryd.prog ((n, .iface nm d) :: r) W →
      ∃ ev, W.cell? ⟨g, 0, none⟩ = some ev ∧ (ev = .nilIface ∨ ∃ te pe, ev = .iface te pe) := fun n g nm d r hg ht h => by
    obtain ⟨ps, ⟨g', t', cs, fuel, p, q, hg', ht', hv, hd, _, _⟩, _⟩ := h
    obtain rfl := Option.some.inj (hg.symm.trans hg')
    obtain rfl := Option.some.inj (ht.symm.trans ht')
    obtain ⟨_, u, v, hc, _, _⟩ := iface_of_trod Tryd.underlying66 hd
    have := World.var?_cell hg hv 0
    have h0 : cs[0]? = some (.iface u v) := by
      have : cs.toList[0]? = some (.iface u v) := by rw [hc]; rfl
      simpa using this
    exact ⟨_, this.trans h0, .inr ⟨u, v, rfl⟩⟩
  have cls : Cells W ⟨2, 0, none⟩ (classes.map u8) := by
    obtain ⟨ps, ⟨g', t', cs, fuel, p, q, hg', ht', hv, hd, _, _⟩, _⟩ := h6
    obtain rfl := Option.some.inj ((show Tryd.prog.globalNamed "seisin/msg.classes" = some 2 by kernel_rfl).symm.trans hg')
    obtain rfl := Option.some.inj ((show (Tryd.prog.globals[2]?).map (·.type) = some 56 by kernel_rfl).symm.trans ht')
    obtain ⟨bs, h1, h2, h3⟩ := open_u8s Tryd.underlying56 Tryd.underlying5 (by kernel_rfl) (by kernel_rfl) hd
    have hbs : bs = classes := by
      match bs, h1 with
      | [b0, b1, b2, b3, b4, b5, b6, b7, b8, b9, b10, b11, b12], _ =>
        simp only [Rows.laid_seisin_msg_classes, List.map_cons, List.map_nil, DataW.agg.injEq, List.cons.injEq, DataW.lit.injEq, Lit.int.injEq, true_and, and_true] at h3
        simp only [classes, List.cons.injEq, and_true]
        obtain ⟨a0, a1, a2, a3, a4, a5, a6, a7, a8, a9, a10, a11, a12⟩ := h3
        refine ⟨?_, ?_, ?_, ?_, ?_, ?_, ?_, ?_, ?_, ?_, ?_, ?_, ?_⟩ <;> (apply UInt8.toNat_inj.1; simp; omega)
    subst hbs
    refine cells_mk fun i v hvv => ?_
    have hc := World.var?_cell hg' hv i
    rw [← hvv, ← h2]
    simpa using hc
  have nms : Cells W ⟨0, 0, none⟩ (kindNames.map strV) := by
    obtain ⟨ps, ⟨g', t', cs, fuel, p, q, hg', ht', hv, hd, _, _⟩, _⟩ := h7
    obtain rfl := Option.some.inj ((show Tryd.prog.globalNamed "seisin/msg.names" = some 0 by kernel_rfl).symm.trans hg')
    obtain rfl := Option.some.inj ((show (Tryd.prog.globals[0]?).map (·.type) = some 50 by kernel_rfl).symm.trans ht')
    obtain ⟨bs, h1, h2, h3⟩ := open_strs Tryd.underlying50 Tryd.underlying9 (by kernel_rfl) (by kernel_rfl) hd
    have hbs : bs = kindNames := by
      have h3' : (DataW.agg (kindNames.map fun b => .lit (.string b)) : DataW Unit) = .agg (bs.map fun b => .lit (.string b)) := h3
      have h4 := DataW.agg.inj h3'
      have hinj : ∀ (a b : List (List UInt8)), (a.map fun b => (DataW.lit (.string b) : DataW Unit)) = (b.map fun b => .lit (.string b)) → a = b := by
        intro a
        induction a with
        | nil => intro b h; cases b with
          | nil => rfl
          | cons y t => simp at h
        | cons x r ih => intro b h; cases b with
          | nil => simp at h
          | cons y t =>
            simp only [List.map_cons, List.cons.injEq, DataW.lit.injEq, Lit.string.injEq] at h
            rw [h.1, ih t h.2]
      exact (hinj _ _ h4).symm
    subst hbs
    refine cells_mk fun i v hvv => ?_
    have hc := World.var?_cell hg' hv i
    rw [← hvv, ← h2]
    simpa using hc
  have max : ∃ m, W.cell? ⟨6, 0, none⟩ = some (.int .i64 m) :=
    cell_of_shapedOpen_int (zero := #[.int .i64 0]) (t := 3) hsh (of_decide_eq_true (by kernel_rfl)) (by kernel_rfl) rfl (by kernel_rfl) (by kernel_rfl) Tryd.underlying3
  refine ⟨cls, nms, World.block_lt_of_cell? W _ (cells_head nms), pow, max, err "strconv.ErrSyntax" 4 _ _ _ (by kernel_rfl) (by kernel_rfl) h5, err "strconv.ErrRange" 5 _ _ _ (by kernel_rfl) (by kernel_rfl) h4⟩
end Go.Proofs.YtkekidalckflhaaDoor
