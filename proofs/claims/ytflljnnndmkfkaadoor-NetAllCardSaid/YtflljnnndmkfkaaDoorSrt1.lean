/- Contracts: Sort, Same, Count at messages. -/
import Derived.Test.YtflljnnndmkfkaaDoorSt6
import Derived.Test.YtflljnnndmkfkaaDoorCm4
import Derived.Test.YtflljnnndmkfkaaDoorSortL
import Derived.Test.YtflljnnndmkfkaaDoorSl3
namespace Go.Proofs.YtflljnnndmkfkaaDoor
open Go.Vc Go.RowKit Go.Sei

theorem insertion0_c (p : Option Addr) (cap : Nat) (f : Value) (w : World) : Calls Tryd.prog 33 #[.slice p 0 cap, .int .i64 0, .int .i64 0, f] w fun e w' => (∃ v, e = .returned v) ∧ w = w' := by
  refine calls_of_E (S := sg 53) (sgOk _) (args := [.slice p 0 cap, .int .i64 0, .int .i64 0, f]) Tryd.func33 rfl rfl (Nat.le_of_ble_eq_true rfl) rfl ?_
  refine ⟨1, (wrap_i64 (by omega)).trans (by omega), ?_⟩
  refine ⟨Unit, fun _ => ⟨[(0, .slice p 0 cap), (1, .int .i64 0), (2, .int .i64 0), (3, f), (8, .int .i64 1)], []⟩, fun _ V => w = V, fun _ => 0, (), ⟨.cons rfl (.cons rfl (.cons rfl (.cons rfl (.cons rfl .nil)))), rfl⟩, rfl, ?_⟩
  rintro _ _ rfl
  refine And.intro (fun h => absurd (of_decide_eq_true h) (by omega)) (fun _ => ?_)
  exact And.intro ⟨_, rfl⟩ rfl
theorem stable0_c (p : Option Addr) (cap : Nat) (f : Value) (w : World) : Calls Tryd.prog 29 #[.slice p 0 cap, .int .i64 0, f] w fun e w' => (∃ v, e = .returned v) ∧ w = w' := by
  refine calls_of_E (S := sg 63) (sgOk _) (args := [.slice p 0 cap, .int .i64 0, f]) Tryd.func29 rfl rfl (Nat.le_of_ble_eq_true rfl) rfl ?_
  refine ⟨Unit, fun _ => ⟨[(0, .slice p 0 cap), (1, .int .i64 0), (2, f), (6, .int .i64 20), (7, .int .i64 0), (8, .int .i64 20)], []⟩, fun _ V => w = V, fun _ => 0, (), ⟨.cons rfl (.cons rfl (.cons rfl (.cons rfl (.cons rfl (.cons rfl .nil))))), rfl⟩, rfl, ?_⟩
  rintro _ _ rfl
  refine And.intro (fun h => absurd (of_decide_eq_true h) (by omega)) (fun _ => ?_)
  refine Calls.mono (insertion0_c p cap f w) ?_
  rintro e _ ⟨⟨v, rfl⟩, rfl⟩
  refine ⟨Unit, fun _ => ⟨[(0, .slice p 0 cap), (1, .int .i64 0), (2, f), (6, .int .i64 20)], []⟩, fun _ V => w = V, fun _ => 0, (), ⟨.cons rfl (.cons rfl (.cons rfl (.cons rfl .nil))), rfl⟩, rfl, ?_⟩
  rintro _ _ rfl
  refine And.intro (fun h => absurd (of_decide_eq_true h) (by omega)) (fun _ => ?_)
  exact And.intro ⟨_, rfl⟩ rfl
theorem sort0_c (p : Option Addr) (cap : Nat) (f : Value) (w : World) : Calls Tryd.prog 22 #[.slice p 0 cap, f] w fun e w' => (∃ v, e = .returned v) ∧ w = w' := by
  refine calls_of_E (S := sg 9) (sgOk _) (args := [.slice p 0 cap, f]) Tryd.func22 rfl rfl (Nat.le_of_ble_eq_true rfl) rfl ?_
  refine Calls.mono (stable0_c p cap f w) ?_
  rintro e _ ⟨⟨v, rfl⟩, rfl⟩
  exact And.intro ⟨_, rfl⟩ rfl

theorem Sort_c (p : Option Addr) (cap : Nat) (l : List Msg) (mode : UInt8) (w : World) (hl : SlR Msg.E w p l) (hk : p = none → cap = 0) (hg : Glob w) (hn : l.length ≤ 1000000000) :
    Calls Tryd.prog 12 #[.slice p l.length cap, u8 mode] w fun e w' => ∃ r p' cap', e = .returned (.slice p' r.length cap') ∧ (knownB mode = true → IsSort mode l r) ∧ (knownB mode = false → r = l) ∧
      OwnS Msg.E 30 w.heap.size w' p' cap' r ∧ Below w.heap.size w w' := by
  have h0 : 0 < w.heap.size := World.block_lt_of_cell? w _ (cells_head hg)
  refine calls_of_M (S := sg 17) (sgOk _) (args := [.slice p l.length cap, u8 mode]) (.s .p (.c .p .p)) Tryd.func12 rfl rfl (Nat.le_of_ble_eq_true rfl) rfl ?_
  refine ⟨Option Addr × Nat, fun s => ⟨[(3, .pointer (some ⟨w.heap.size, 0, none⟩)), (5, .slice s.1 l.length s.2)], []⟩,
    fun s V => V.heap[w.heap.size]? = some (.cells #[u8 mode] 5 (0, 0)) ∧ OwnS Msg.E 30 (w.heap.size + 1) V s.1 s.2 l ∧ Below w.heap.size w V, ?_, ?_⟩
  · refine ⟨⟨by decide, by decide, rfl⟩, [.slice p l.length cap], rfl, ?_⟩
    have hb1 : Below w.heap.size w (w.alloc (.cells #[u8 mode] 5)) := (Below.refl _ _).alloc (Nat.le_refl _) _
    have f1 := hnew w (.cells #[u8 mode] 5)
    have hb2 : Below (w.alloc (.cells #[u8 mode] 5)).heap.size (w.alloc (.cells #[u8 mode] 5)) ((w.alloc (.cells #[u8 mode] 5)).alloc (.cells #[.slice p l.length cap] 22)) := (Below.refl _ _).alloc (Nat.le_refl _) _
    have hb12 := hb1.trans (hb2.mono hb1.size)
    have ht : total [⟨p, cap, l⟩] = l := by simp [total]
    refine Calls.mono (Concat_c (some ⟨(w.alloc (.cells #[u8 mode] 5)).heap.size, 0, none⟩) 1 [⟨p, cap, l⟩] _ (SlR.of_cells (by simp) cells_new) (fun q hq => ?_) (by rw [ht]; exact hn) (by simp)) ?_
    · simp only [List.mem_cons, List.not_mem_nil, or_false] at hq
      subst hq
      exact ⟨hl.below hb12, hk⟩
    rintro e V ⟨p', cap', rfl, ho, hb3⟩
    rw [ht] at ho ⊢
    exact ⟨(p', cap'), ⟨.cons rfl (.cons rfl .nil), rfl⟩, block_below hb3 (block_below hb2 f1), own_weaken ho (by simp), hb12.trans (hb3.mono hb12.size)⟩
  rintro ⟨p1, c1⟩ V ⟨f1, ho, hb⟩
  refine ⟨_, cells_head (cells_block f1), ?_⟩
  refine Calls.mono (known_c mode V) ?_
  rintro e _ ⟨rfl, rfl⟩
  refine And.intro (fun h => ?_) (fun h => ?_)
  · have h : knownB mode = false := by simpa using h
    exact ⟨l, p1, c1, rfl, fun h2 => absurd (h.symm.trans h2) (by decide), fun _ => rfl, own_weaken ho (by omega), hb⟩
  have h : knownB mode = true := by simpa using h
  rcases ho.inv with ⟨e1, e2, e3⟩ | ⟨g, cur, e1, hBg, hgr, hlc, hcm, hcs, htk⟩
  · subst e3
    refine Calls.mono (sort0_c p1 c1 _ V) ?_
    rintro e _ ⟨⟨v, rfl⟩, rfl⟩
    exact ⟨[], p1, c1, rfl, fun _ => ⟨[], by simp [Srt], by simp, rfl⟩, fun _ => rfl, own_weaken ho (by omega), hb⟩
  · dsimp only at e1
    subst e1
    have hrow : RowM V g (cur.toList.drop (l.length * 11)) (List.map Prod.fst l.zipIdx) := by
      rw [zip_fst]
      show V.heap[g]? = _
      rw [hgr, ← htk]
      show some (Obj.cells cur 30 (0, 0)) = some (Obj.cells (cur.toList.take (l.length * 11) ++ cur.toList.drop (l.length * 11)).toArray 30 (0, 0))
      rw [List.take_append_drop]
    have hgl : g ≠ w.heap.size := by omega
    refine Calls.mono (sortStable_c #[.pointer (some ⟨w.heap.size, 0, none⟩)] (mO mode) (Good w.heap.size mode) g c1 l.length (cur.toList.drop (l.length * 11)) l.zipIdx V (cmpOk w.heap.size mode g (by omega) (Ne.symm hgl)) hn ⟨f1, hg.below hb, Nat.lt_of_lt_of_le h0 hb.size⟩ hrow (zip_places l 0) (by simp)) ?_
    rintro e W ⟨⟨v, rfl⟩, ⟨ys, y1, y2, y3⟩, hgW⟩
    have hlen : (List.map Prod.fst ys).length = l.length := by rw [List.length_map, y2.length_eq]; simp
    refine ⟨List.map Prod.fst ys, some ⟨g, 0, none⟩, c1, by rw [hlen]; rfl, fun _ => ⟨ys, y1, y2, rfl⟩, fun h2 => absurd (h.symm.trans h2) (by decide), ?_, hb.grown hgW hb.size (fun k e => by simp at e; omega)⟩
    refine ⟨flat_len _, .inr ⟨g, c1, _, rfl, by omega, y3, by omega, hcm, ?_, ?_⟩⟩
    · have hcl : cur.toList.length = cur.size := rfl
      have h11 : Msg.E.sz = 11 := rfl
      rw [h11] at hcs
      simp only [List.size_toArray, List.length_append, List.length_drop, flat_len, hlen, hcl, h11]
      have : l.length * 11 ≤ c1 * 11 := Nat.mul_le_mul_right _ hlc
      omega
    · simp only []
      rw [List.take_append_of_le_length (by rw [flat_len]; exact Nat.le_refl _), List.take_of_length_le (by rw [flat_len]; exact Nat.le_refl _)]

theorem own_cap {B cap : Nat} {w : World} {p : Option Addr} {l : List Msg} (h : OwnS Msg.E 30 B w p cap l) : l.length ≤ cap ∧ (p = none → cap = 0) := by
  rcases h.inv with ⟨_, h2, h3⟩ | ⟨g, cur, h1, _, _, h2, _⟩
  · subst h3; exact ⟨by simp, fun _ => h2⟩
  · exact ⟨h2, fun e => by rw [h1] at e; cases e⟩

theorem Same_c (p1 p2 : Option Addr) (cap1 cap2 : Nat) (a b : List Msg) (mode : UInt8) (w : World) (h1 : SlR Msg.E w p1 a) (h2 : SlR Msg.E w p2 b) (k1 : p1 = none → cap1 = 0) (k2 : p2 = none → cap2 = 0) (hg : Glob w)
    (hn1 : a.length ≤ 1000000000) (hn2 : b.length ≤ 1000000000) :
    Calls Tryd.prog 10 #[.slice p1 a.length cap1, .slice p2 b.length cap2, u8 mode] w fun e w' => ∃ v : Bool, e = .returned (.bool v) ∧ (v = true ↔ knownB mode = true ∧ EqM mode a b) ∧ Below w.heap.size w w' := by
  refine calls_of_E (S := sg 25) (sgOk _) (args := [.slice p1 a.length cap1, .slice p2 b.length cap2, u8 mode]) Tryd.func10 rfl rfl (Nat.le_of_ble_eq_true rfl) rfl ?_
  refine Calls.mono (known_c mode w) ?_
  rintro e _ ⟨rfl, rfl⟩
  refine And.intro (fun h => ?_) (fun h => ?_)
  · refine And.intro (fun hle => ?_) (fun hle => ?_)
    · refine Calls.mono (Sort_c p1 cap1 a mode w h1 k1 hg hn1) ?_
      rintro e V ⟨r, q1, c1, rfl, s1, _, ho1, hb1⟩
      refine Calls.mono (Sort_c p2 cap2 b mode V (h2.below hb1) k2 (hg.below hb1) hn2) ?_
      rintro e W ⟨s, q2, c2, rfl, s2, _, ho2, hb2⟩
      have hr := (s1 h).perm.length_eq
      refine Calls.mono (Equal_c q1 q2 c1 c2 r s W (ho1.row.below hb2) ho2.row (by omega)) ?_
      rintro e X ⟨rfl, hb3⟩
      have hb12 := hb1.trans (hb2.mono hb1.size)
      refine ⟨_, rfl, ?_, hb12.trans (hb3.mono hb12.size)⟩
      rw [decide_eq_true_iff, isSort_eq (s1 h) (s2 h)]
      exact ⟨fun e => ⟨h, e⟩, fun e => e.2⟩
    · refine ⟨false, rfl, ⟨fun h => (by cases h), fun ⟨_, e⟩ => ?_⟩, Below.refl _ _⟩
      have := e.perm.length_eq
      have hle := of_decide_eq_false hle
      omega
  · refine And.intro (fun h => by cases h) (fun _ => ?_)
    exact ⟨false, rfl, ⟨fun h => (by cases h), fun ⟨e, _⟩ => by rw [h] at e; cases e⟩, Below.refl _ _⟩

def cntK (kind line : UInt8) (l : List Msg) : Nat := l.countP fun m => decide (m.kind = kind) && decide (m.line = line)
theorem Count_c (p : Option Addr) (cap : Nat) (l : List Msg) (kind line : UInt8) (w : World) (hl : SlR Msg.E w p l) (hn : l.length ≤ 1000000000) :
    Calls Tryd.prog 16 #[.slice p l.length cap, u8 kind, u8 line] w fun e w' => e = .returned (.int .i64 (cntK kind line l)) ∧ Below w.heap.size w w' := by
  refine calls_of_E (S := sg 30) (sgOk _) (args := [.slice p l.length cap, u8 kind, u8 line]) Tryd.func16 rfl rfl (Nat.le_of_ble_eq_true rfl) rfl ?_
  refine ⟨Nat, fun k => ⟨[(1, u8 kind), (2, u8 line), (7, .int .i64 (cntK kind line (l.take k))), (10, .slice p l.length cap), (11, .int .i64 l.length), (12, .int .i64 (k : Nat))], []⟩,
    fun k V => k ≤ l.length ∧ Below w.heap.size w V, fun k => l.length - k, 0, ⟨.cons rfl (.cons rfl (.cons rfl (.cons rfl (.cons rfl (.cons rfl .nil))))), rfl⟩, ⟨Nat.zero_le _, Below.refl _ _⟩, ?_⟩
  rintro k V ⟨hk, hb⟩
  refine And.intro (fun h => ?_) (fun h => ?_)
  · have h : (k : Int) < l.length := of_decide_eq_true h
    have hkl : k < l.length := by omega
    have hcl : cntK kind line (l.take k) ≤ 1000000000 := Nat.le_trans List.countP_le_length (by rw [List.length_take]; omega)
    have hs : cntK kind line (l.take (k + 1)) = cntK kind line (l.take k) + if l[k].kind = kind ∧ l[k].line = line then 1 else 0 := by
      unfold cntK
      rw [List.take_succ_eq_append_getElem hkl, List.countP_append]
      congr 1
      by_cases h1 : l[k].kind = kind <;> by_cases h2 : l[k].line = line <;> simp [h1, h2]
    obtain ⟨b, o, rfl, hbs, hc⟩ := (hl.below hb).at hkl
    refine ⟨k, rfl, hkl, ?_⟩
    refine ⟨l[k].enc, rfl, hc k hkl, hbs, ?_⟩
    refine store_new (X := V) (v := l[k].val) (ttOk.get 30 _ rfl) (by rfl) rfl (by rfl) fun Y hbY fY sY => ?_
    have hbY' := hb.trans (hbY.mono hb.size)
    have cY := cells_block fY
    refine ⟨_, cells_at cY (i := 0) rfl, ?_⟩
    refine And.intro (fun h1 => ?_) (fun h1 => ?_)
    · have h1 : l[k].kind = kind := u8_eq.1 (of_decide_eq_true h1)
      refine ⟨_, cells_at cY (i := 3) rfl, ?_⟩
      refine And.intro (fun h2 => ?_) (fun h2 => ?_)
      · have h2 : l[k].line = line := u8_eq.1 (of_decide_eq_true h2)
        rw [if_pos ⟨h1, h2⟩] at hs
        refine ⟨(cntK kind line (l.take k) + 1 : Nat), (wrap_i64 (by omega)).trans (by omega), ?_⟩
        refine ⟨(k + 1 : Nat), (wrap_i64 (by omega)).trans (by omega), ?_⟩
        exact ⟨k + 1, ⟨.cons rfl (.cons rfl (.cons (by dsimp only; rw [hs]; rfl) (.cons rfl (.cons rfl (.cons rfl .nil))))), rfl⟩, ⟨hkl, hbY'⟩, by dsimp only; omega⟩
      · have h2 : ¬ l[k].line = line := fun e => of_decide_eq_false h2 (u8_eq.2 e)
        rw [if_neg (fun e => h2 e.2)] at hs
        refine ⟨(k + 1 : Nat), (wrap_i64 (by omega)).trans (by omega), ?_⟩
        exact ⟨k + 1, ⟨.cons rfl (.cons rfl (.cons (by dsimp only; rw [hs]; rfl) (.cons rfl (.cons rfl (.cons rfl .nil))))), rfl⟩, ⟨hkl, hbY'⟩, by dsimp only; omega⟩
    · have h1 : ¬ l[k].kind = kind := fun e => of_decide_eq_false h1 (u8_eq.2 e)
      rw [if_neg (fun e => h1 e.1)] at hs
      refine And.intro (fun h => by cases h) (fun _ => ?_)
      refine ⟨(k + 1 : Nat), (wrap_i64 (by omega)).trans (by omega), ?_⟩
      exact ⟨k + 1, ⟨.cons rfl (.cons rfl (.cons (by dsimp only; rw [hs]; rfl) (.cons rfl (.cons rfl (.cons rfl .nil))))), rfl⟩, ⟨hkl, hbY'⟩, by dsimp only; omega⟩
  · have h : ¬ (k : Int) < l.length := of_decide_eq_false h
    refine And.intro (ri ?_) hb
    rw [List.take_of_length_le (by omega)]
end Go.Proofs.YtflljnnndmkfkaaDoor
