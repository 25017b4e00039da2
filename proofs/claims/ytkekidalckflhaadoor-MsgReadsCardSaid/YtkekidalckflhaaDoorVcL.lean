/- Slices: cut; grown by a make; appended to by what may be nil. -/
import Derived.Test.YtkekidalckflhaaDoorVcH
import Derived.Lib.AppendZerosOnto
import Derived.Laws.OwnMore
namespace Go.Vc
open Go.RowKit Go.Lib

theorem add_none' (b o i : Nat) : (⟨b, o, none⟩ : Addr).add i = ⟨b, o + i, none⟩ := by
  unfold Addr.add
  by_cases h : i = 0
  · simp [h]
  · simp [h]
theorem cutBase_zero (p : Option Addr) (cap sz : Nat) : cutBase p cap 0 sz = p := by
  unfold cutBase
  split
  · rfl
  · cases p with
    | none => rfl
    | some a => simp [Addr.add]

section
variable {α : Type} {E : Enc α} {w : World} {p : Option Addr} {l : List α}

theorem SlR.sub (h : SlR E w p l) {cap lo hi : Nat} (h1 : lo ≤ hi) (h2 : hi ≤ l.length) (h3 : l.length ≤ cap) : SlR E w (cutBase p cap lo E.sz) ((l.drop lo).take (hi - lo)) := by
  by_cases he : hi = lo
  · left; subst he; simp
  · rcases h with rfl | ⟨b, o, rfl, hb, hc⟩
    · left; simp
    · right
      refine ⟨b, o + lo * E.sz, ?_, hb, fun i hi2 => ?_⟩
      · unfold cutBase
        rw [if_neg (by omega)]
        simp [add_none']
      · simp only [List.length_take, List.length_drop] at hi2
        have := hc (lo + i) (by omega)
        rw [List.getElem_take, List.getElem_drop]
        rw [Nat.add_assoc, ← Nat.add_mul]
        exact this

theorem SlR.none (h : SlR E w none l) : l = [] := by
  rcases h with h | ⟨b, o, h, _⟩
  · exact h
  · cases h

/-- append to a slice of the call's own, whatever slice stands behind. -/
theorem app_any {P : Program} {t T ty B cap m c : Nat} {a : Option Addr} {news : List α} {iT : TI} {z : List Value} (hu : P.underlying t = some (.slice T)) (hT : TIok P T iT) (hz : iT.zero = some z)
    (hs : iT.size = E.sz) (hzl : z.length = E.sz) (ho : OwnS E T B w p cap l) (hm : news.length = m) (hn : SlR E w a news) (hc : a = none → c = 0) (hB : B ≤ w.heap.size)
    (h1 : l.length + m ≤ 9223372036854775807) (h2 : (l.length + m) * iT.bytes ≤ 140737488355328) {K : Value → World → Prop}
    (k : ∀ p' cap' w', OwnS E T B w' p' cap' (l ++ news) → w.grownBy w' (Value.slice p l.length cap).ownBlock → Below B w w' → K (.slice p' (l ++ news).length cap') w') :
    SatR ((Builtin.append_ #[t, t] ty #[.slice p l.length cap, .slice a m c]).run P w) K := by
  cases a with
  | none =>
    have hn := hn.none
    have hc := hc rfl
    subst hn hc
    simp at hm
    subst hm
    obtain ⟨⟨inf, hi, hsz, hby, hzz⟩, _⟩ := hT
    refine SatR.mk (run_append_owned_none (P := P) (w := w) B t ty T inf E.sz hu hi _ _ _ ho) ?_
    have := k p cap w (by rw [List.append_nil]; exact ho) ⟨rfl, rfl, rfl, Nat.le_refl _, fun _ _ _ => rfl⟩ (Below.refl _ _)
    rwa [List.append_nil] at this
  | some a =>
    by_cases h0 : news = []
    · subst h0
      simp at hm
      subst hm
      exact app_own hu hT hz hs hzl ho (by simp) (fun i v hv => by simp at hv) hB h1 h2 fun p' cap' w' h1 h2 h3 _ => k p' cap' w' h1 h2 h3
    · have hn' : Cells w a (news.flatMap E.enc) := by
        rcases hn with h | ⟨b, o, h, hb, hcs⟩
        · exact absurd h h0
        · cases h
          exact SlR.cells (.inr ⟨b, o, rfl, hb, hcs⟩)
      exact app_own hu hT hz hs hzl ho hm hn' hB h1 h2 fun p' cap' w' h1 h2 h3 _ => k p' cap' w' h1 h2 h3

/-- append(nil, make(.., n)..) -/
theorem app_zeros {P : Program} {t tn T ty B n : Nat} {kn kq : IntKind} {iT : TI} {z : List Value} (hu : P.underlying t = some (.slice T)) (hun : P.underlying tn = some (.int kn)) (hT : TIok P T iT) (hz : iT.zero = some z)
    (hs : iT.size = E.sz) (hzl : z.length = E.sz) (hB : B ≤ w.heap.size) (h0 : 0 < n) (h1 : n ≤ 4611686018427387904) (h2 : n * iT.bytes ≤ 140737488355328) {K : Value → World → Prop}
    (k : ∀ cap' w', OwnS E T B w' (some ⟨w.heap.size, 0, none⟩) cap' ([] : List α) → Below w.heap.size w w' → n ≤ cap' → K (.slice (some ⟨w.heap.size, 0, none⟩) n cap') w') :
    SatR ((Builtin.append_ #[t, tn] ty #[.slice none 0 0, .int kq n]).run P w) K := by
  obtain ⟨⟨inf, hi, hsz, hby, hzz⟩, _⟩ := hT
  obtain ⟨zv, hzv, hzc⟩ := hzz z hz
  have hr := run_append_grow_zeros (P := P) w t tn ty T inf zv kq kn hu hun hi hzv none 0 0 [] (run_firstCells_none w.drew inf.size 0 0 0) n h0 (by rw [hsz, hs]; exact E.pos) (by omega) (by omega) (by rw [hby]; omega)
    (growslice_fits (by omega) (by rw [hby, Nat.zero_add]; omega))
  rw [Nat.zero_add] at hr
  have hge := grownCap_ge w n 0 T
  refine SatR.mk hr (k _ _ ⟨by simp, .inr ⟨w.heap.size, _, _, rfl, hB, heap_alloc_new w.drew _, Nat.zero_le _, grownCap_le_maxLen w n 0 T (by unfold maxLen; omega), ?_, by simp⟩⟩ ((Below.refl _ _).drew.alloc (Nat.le_refl _) _) hge)
  have hzs : zv.cells.size = E.sz := by rw [← hzl, ← hzc]; simp
  simp only [Array.size_append, size_zeroCells, hzs]
  simp only [List.size_toArray, List.length_nil, Nat.zero_add]
  rw [← Nat.add_mul]
  congr 1
  omega
end
end Go.Vc
