/- Law22: PackOnly: only encodings are read. -/
import Derived.Test.YtmfplkeenombbaaDoorZKPl3
namespace Go.Proofs.YtmfplkeenombbaaDoor
open Go.Vc Go.RowKit Go.Sei
set_option linter.unusedVariables false

theorem enc_more {g : Geo} {l : List UInt8} {s : Sy} (h : readS g l = some s) (x : UInt8) : readS g (l ++ [x]) = none := by
  unfold readS at h ⊢
  split at h
  · rename_i hg; rw [if_pos hg]; exact dec_more h x
  · cases h
theorem enc_less {g : Geo} {l : List UInt8} {s : Sy} (h : readS g l = some s) (hl : l ≠ []) : readS g l.dropLast = none := by
  cases h2 : readS g l.dropLast with
  | none => rfl
  | some t =>
    have := enc_more h2 (l.getLast hl)
    rw [List.dropLast_concat_getLast] at this
    rw [h] at this; cases this
theorem read_fit {g : Geo} {l : List UInt8} {s : Sy} (h : readS g l = some s) : fitsB g s = true ∧ l = encSy s ∧ okSy g.c.toNat s ∧ geoR g = true := by
  unfold readS at h
  split at h
  · rename_i hg
    obtain ⟨h1, h2⟩ := enc_dec h
    exact ⟨ok_fits h1 hg, h2, h1, hg⟩
  · cases h

abbrev oE : Obj := .cells #[] 5
abbrev oZ : Obj := .cells #[u8 0] 5
abbrev oS : Obj := .cells zeroSysC.toArray 58
def R1 (B : Nat) (X : World) (p : Option Addr) : Prop := ∃ g, p = some ⟨g, 0, none⟩ ∧ B ≤ g ∧ X.heap[g]? = some oE
def R4 (X : World) (p : Option Addr) : Prop := ∃ g, p = some ⟨g, 0, none⟩ ∧ X.heap[g]? = some oZ
def R10 (B : Nat) (X : World) (g : Nat) : Prop := X.heap[g]? = some oS ∧ B ≤ g
theorem R1.alloc {B : Nat} {X : World} {p : Option Addr} (h : R1 B X p) (o : Obj) : R1 B (X.alloc o) p := by
  obtain ⟨g, h1, h2, h3⟩ := h; exact ⟨g, h1, h2, hold _ h3⟩
theorem R4.alloc {X : World} {p : Option Addr} (h : R4 X p) (o : Obj) : R4 (X.alloc o) p := by
  obtain ⟨g, h1, h3⟩ := h; exact ⟨g, h1, hold _ h3⟩
theorem R10.alloc {B : Nat} {X : World} {g : Nat} (h : R10 B X g) (o : Obj) : R10 B (X.alloc o) g := ⟨hold _ h.1, h.2⟩
theorem R10.below {B : Nat} {X Y : World} {g : Nat} (h : R10 B X g) (hb : Below X.heap.size X Y) : R10 B Y g := ⟨block_below hb h.1, h.2⟩
theorem R1.new {B : Nat} (X : World) (h : B ≤ X.heap.size) : R1 B (X.alloc oE) (some ⟨X.heap.size, 0, none⟩) := ⟨_, rfl, h, hnew _ _⟩
theorem R4.new {B : Nat} (X : World) (h : B ≤ X.heap.size) : R4 (X.alloc oZ) (some ⟨X.heap.size, 0, none⟩) := ⟨_, rfl, hnew _ _⟩
theorem R10.new {B : Nat} (X : World) (h : B ≤ X.heap.size) : R10 B (X.alloc oS) X.heap.size := ⟨hnew _ _, h⟩
/-- All but the empty rows is kept. -/
def Kept3 (X Y : World) : Prop := ∀ (g : Nat) (o : Obj), X.heap[g]? = some o → o ≠ oE → Y.heap[g]? = some o
theorem Kept3.r4 {X Y : World} {p : Option Addr} (k : Kept3 X Y) (h : R4 X p) : R4 Y p := by
  obtain ⟨g, h1, h3⟩ := h; exact ⟨g, h1, k g _ h3 (by simp [oE, oZ])⟩
theorem Kept3.r10 {B : Nat} {X Y : World} {g : Nat} (k : Kept3 X Y) (h : R10 B X g) : R10 B Y g := ⟨k g _ h.1 (by simp [oE, oS]), h.2⟩

theorem app3 {B : Nat} {X : World} {p : Option Addr} {a : Option Addr} {c : Nat} {l : List UInt8} (h1 : R1 B X p) (hB : B ≤ X.heap.size) (hr : SlR byteE X a l) (hk : a = none → c = 0) (hl : l.length ≤ 6000) {K : Value → World → Prop}
    (k : ∀ p' cap' Y, OwnS byteE 5 B Y p' cap' l → Below B X Y → Kept3 X Y → K (.slice p' l.length cap') Y) :
    SatR ((Builtin.append_ #[23, 23] 23 #[.slice p 0 0, .slice a l.length c]).run Tryd.prog X) K := by
  obtain ⟨g, rfl, hg, hf⟩ := h1
  have ho : OwnS byteE 5 B X (some ⟨g, 0, none⟩) 0 [] := ⟨by simp, .inr ⟨g, 0, #[], rfl, hg, hf, Nat.le_refl _, by unfold maxLen; decide, by simp, by simp⟩⟩
  refine app_any (E := byteE) (news := l) (B := B) Tryd.underlying23 (ttOk.get 5 _ rfl) rfl rfl rfl ho rfl hr hk hB (by simp; omega) (by show (0 + l.length) * 1 ≤ _; omega) ?_
  intro p' cap' Y ho' gr hb
  refine k p' cap' Y ho' hb fun g' o h' hne => ?_
  refine (gr.block g' (hlt h') fun e => ?_).trans h'
  simp [Value.ownBlock] at e
  subst e
  rw [hf] at h'
  exact hne (Option.some.inj h').symm
theorem app5 {B : Nat} {X : World} {p q : Option Addr} {cap : Nat} {l : List UInt8} (h3 : OwnS byteE 5 B X p cap l) (h4 : R4 X q) (hB : B ≤ X.heap.size) (hl : l.length ≤ 6000) {K : Value → World → Prop}
    (k : ∀ p' cap' Y, OwnS byteE 5 B Y p' cap' (l ++ [0]) → Below B X Y → (∀ {g : Nat}, R10 B X g → R10 B Y g) → K (.slice p' (l ++ [0]).length cap') Y) :
    SatR ((Builtin.append_ #[23, 23] 23 #[.slice p l.length cap, .slice q 1 1]).run Tryd.prog X) K := by
  obtain ⟨g, rfl, hf⟩ := h4
  refine app_own (E := byteE) (news := [0]) (B := B) Tryd.underlying23 (ttOk.get 5 _ rfl) rfl rfl rfl h3 rfl (cells_block hf) hB (by show l.length + 1 ≤ _; omega) (by show (l.length + 1) * 1 ≤ _; omega) ?_
  intro p' cap' Y ho' gr hb _
  refine k p' cap' Y ho' hb fun {g'} h' => ⟨(gr.block g' (hlt h'.1) fun e => ?_).trans h'.1, h'.2⟩
  rcases h3.inv with ⟨rfl, _⟩ | ⟨g2, cur, rfl, _, hc, _⟩
  · simp [Value.ownBlock] at e
  · simp [Value.ownBlock] at e
    subst e
    rw [h'.1] at hc
    simp [oS] at hc

theorem packOnly_c {wv : List Value} {g : Geo} {mode : UInt8} (p : Option Addr) (cap : Nat) (l : List UInt8) {w : World} (hW : WorV wv g.enc mode) (hr : RowB byteE w.heap.size w p l) (hc : l.length ≤ cap) (hk : p = none → cap = 0) (hG : GlobP w) :
    Calls Tryd.prog 4 #[.agg wv.toArray, .slice p l.length cap] w fun e w' => e = .returned (.bool true) ∧ Below w.heap.size w w' := by
  have hlw := hW.len
  refine calls_of_M (S := sg 71) (sgOk _) (args := [.agg wv.toArray, .slice p l.length cap]) (.s .p (.c .p (.c .p (.c .p (.c .p (.c .p (.c .p .p))))))) Tryd.func4 rfl rfl (Nat.le_of_ble_eq_true rfl) rfl ?_
  obtain ⟨W0, hW0⟩ : ∃ W0, w.alloc (.cells wv.toArray 44) = W0 := ⟨_, rfl⟩
  have hb0 : Below w.heap.size w W0 := by rw [← hW0]; exact (Below.refl _ _).alloc (Nat.le_refl _) _
  have f0 : W0.heap[w.heap.size]? = some (.cells wv.toArray 44 (0, 0)) := by rw [← hW0]; exact hnew w _
  have hwv : ∀ V, Below W0.heap.size W0 V → Below w.heap.size w V := fun V hV => hb0.trans (hV.mono hb0.size)
  have hs0 := hb0.size
  refine ⟨Unit, fun _ => ⟨[(1, .slice p l.length cap), (2, .pointer (some ⟨w.heap.size, 0, none⟩))], []⟩, fun _ V => Below W0.heap.size W0 V, ?_, ?_⟩
  · clear f0
    subst hW0
    refine Calls.mono (awake_c _ (hG.below hb0).bnd (hG.below hb0).cls) ?_
    rintro e V ⟨rfl, hbV⟩
    refine And.intro (fun h => by cases h) (fun _ => ?_)
    exact ⟨(), ⟨.cons rfl (.cons rfl .nil), rfl⟩, hbV⟩
  clear hW0
  have hGV : ∀ V, Below W0.heap.size W0 V → GlobP V := fun V hV => hG.below (hwv V hV)
  have hRV : ∀ V, Below W0.heap.size W0 V → RowB byteE V.heap.size V p l := fun V hV => (hr.below (hwv V hV)).mono (hwv V hV).size
  rintro _ V hbV
  dsimp only at hbV ⊢
  refine ⟨Unit, fun _ => ⟨[(1, .slice p l.length cap), (2, .pointer (some ⟨w.heap.size, 0, none⟩))], []⟩, fun _ V => l.length ≤ 6000 ∧ Below W0.heap.size W0 V, ?_, ?_⟩
  · refine And.intro (fun h => ?_) (fun h => ?_)
    · exact ⟨rfl, hwv V hbV⟩
    · have h : ¬ (6000 : Int) < l.length := of_decide_eq_false h
      exact ⟨(), ⟨.cons rfl (.cons rfl .nil), rfl⟩, by omega, hbV⟩
  clear hbV V
  rintro _ V ⟨hl6, hbV⟩
  dsimp only at hl6 hbV ⊢
  refine ⟨Nat × List Value × Int, fun k => ⟨[(1, .slice p l.length cap), (2, .pointer (some ⟨w.heap.size, 0, none⟩)), (5, .pointer (some ⟨k.1, 0, none⟩)), (6, .int .i64 k.2.2)], []⟩, fun k Y => Y.heap[k.1]? = some (.cells k.2.1.toArray 58 (0, 0)) ∧ SysV Y.heap.size Y k.2.1 ((readS g l).getD emptySy) ∧ (readS g l = none → k.2.2 = 220) ∧ (readS g l ≠ none → k.2.2 = 0) ∧ Below W0.heap.size W0 Y, ?_, ?_⟩
  · have f0V := block_below hbV f0
    refine ⟨wv, hlw, cells_block f0V, hlt f0V, ?_⟩
    refine Calls.mono (Read_s hW (hGV V hbV).bnd (hRV V hbV) hc (by omega)) ?_
    rintro e Y ⟨v, rfl, vs, en, rfl, hbY, hS, he1, he2⟩
    refine store_new (X := Y) (v := .agg vs.toArray) (ttOk.get 58 _ rfl) (by show vs.length = 69; exact hS.len) (by rfl) hS.one fun Z hbZ fZ sZ => ?_
    have hXZ := hbY.trans (hbZ.mono hbY.size)
    exact ⟨(Y.heap.size, vs, en), ⟨.cons rfl (.cons rfl (.cons rfl (.cons rfl .nil))), rfl⟩, fZ, (hS.below hbZ).mono hbZ.size, he1, he2, hbV.trans (hXZ.mono hbV.size)⟩
  clear hbV V
  rintro ⟨gs, vs, en⟩ V ⟨fs, hS, he1, he2, hbV⟩
  dsimp only at fs hS he1 he2 hbV ⊢
  refine ⟨Unit, fun _ => ⟨[(1, .slice p l.length cap), (2, .pointer (some ⟨w.heap.size, 0, none⟩)), (5, .pointer (some ⟨gs, 0, none⟩))], []⟩, fun _ X => (∃ s, readS g l = some s) ∧ V = X, ?_, ?_⟩
  · refine And.intro (fun h => ?_) (fun h => ?_)
    · have h : en ≠ 0 := nt h
      have hn : readS g l = none := by
        cases h2 : readS g l with
        | none => rfl
        | some s => exact absurd (he2 (by rw [h2]; simp)) h
      obtain rfl := he1 hn
      rw [hn] at hS
      have hS : SysV V.heap.size V vs emptySy := hS
      refine And.intro (fun _ => ?_) (fun h => by cases h)
      refine ⟨vs, hS.len, cells_block fs, hlt fs, ?_⟩
      refine ⟨zeroSysC, by kernel_rfl, ?_⟩
      refine Calls.mono (SameSys_c hS (zero_sys V.heap.size V) (by decide) (by decide) (by decide) (fun c hc => by simp [emptySy] at hc)) ?_
      rintro e X ⟨rfl, hbX⟩
      exact ⟨by rw [decide_eq_true rfl]; rfl, hwv X (hbV.trans (hbX.mono hbV.size))⟩
    · have h : en = 0 := nf h
      refine ⟨(), ⟨.cons rfl (.cons rfl (.cons rfl .nil)), rfl⟩, ?_, rfl⟩
      cases h2 : readS g l with
      | none => have := he1 h2; omega
      | some s => exact ⟨s, rfl⟩
  rintro _ _ ⟨⟨s, hs⟩, rfl⟩
  dsimp only
  rw [hs] at hS
  have hS : SysV V.heap.size V vs s := hS
  clear he1 he2
  obtain ⟨hfit, hle, hok, hgr⟩ := read_fit hs
  have hlp : 109 ≤ l.length := by rw [hle]; exact enc_pos hok
  have hl0 : l ≠ [] := by intro h; rw [h] at hlp; simp at hlp
  refine ⟨Unit, fun _ => ⟨[(1, .slice p l.length cap), (2, .pointer (some ⟨w.heap.size, 0, none⟩)), (5, .pointer (some ⟨gs, 0, none⟩)), (8, .int .i64 220)], []⟩, fun _ X => Below V.heap.size V X ∧ Below W0.heap.size W0 X, ?_, ?_⟩
  · have hd := hbV.drew
    have f0U := hdr (block_below hbV f0)
    have hrU := ((hRV V hbV).slr (Nat.le_refl _)).below ((Below.refl _ V).drew)
    have hVU : Below V.heap.size V V.drew := (Below.refl _ V).drew
    have hno : readS g (l ++ [0]) = none := enc_more hs 0
    have hl61 : (l ++ [0]).length ≤ 1000000000 := by simp; omega
    refine DrawE.treeQ [0, 1, 3, 4, 5, 6, 10, 11] (.op 2 (.alt (.op 1 (.alt (.op 4 (.alt (.op 10 (.alt (.op 3 (.alt (.op 5 (.op 0 (.op 6 (.op 7 (.op 8 (.op 9 (.op 11 (.op 12 .nil)))))))) (.op 0 (.op 5 (.op 6 (.op 7 (.op 8 (.op 9 (.op 11 (.op 12 .nil)))))))))) (.op 0 (.op 3 (.op 5 (.op 6 (.op 7 (.op 8 (.op 9 (.op 11 (.op 12 .nil))))))))))) (.alt (.op 3 (.alt (.op 10 (.alt (.op 5 (.op 0 (.op 6 (.op 7 (.op 8 (.op 9 (.op 11 (.op 12 .nil)))))))) (.op 0 (.op 5 (.op 6 (.op 7 (.op 8 (.op 9 (.op 11 (.op 12 .nil)))))))))) (.alt (.op 5 (.alt (.op 10 (.op 0 (.op 6 (.op 7 (.op 8 (.op 9 (.op 11 (.op 12 .nil)))))))) (.op 0 (.alt (.op 10 (.op 6 (.op 7 (.op 8 (.op 9 (.op 11 (.op 12 .nil))))))) (.op 6 (.op 7 (.op 8 (.op 9 (.op 10 (.op 11 (.op 12 .nil))))))))))) (.op 0 (.alt (.op 10 (.op 5 (.op 6 (.op 7 (.op 8 (.op 9 (.op 11 (.op 12 .nil)))))))) (.op 5 (.alt (.op 10 (.op 6 (.op 7 (.op 8 (.op 9 (.op 11 (.op 12 .nil))))))) (.op 6 (.op 7 (.op 8 (.op 9 (.op 10 (.op 11 (.op 12 .nil)))))))))))))) (.op 0 (.alt (.op 10 (.op 3 (.op 5 (.op 6 (.op 7 (.op 8 (.op 9 (.op 11 (.op 12 .nil))))))))) (.op 3 (.alt (.op 10 (.op 5 (.op 6 (.op 7 (.op 8 (.op 9 (.op 11 (.op 12 .nil)))))))) (.op 5 (.alt (.op 10 (.op 6 (.op 7 (.op 8 (.op 9 (.op 11 (.op 12 .nil))))))) (.op 6 (.op 7 (.op 8 (.op 9 (.op 10 (.op 11 (.op 12 .nil)))))))))))))))) (.alt (.op 10 (.alt (.op 4 (.alt (.op 3 (.alt (.op 5 (.op 0 (.op 6 (.op 7 (.op 8 (.op 9 (.op 11 (.op 12 .nil)))))))) (.op 0 (.op 5 (.op 6 (.op 7 (.op 8 (.op 9 (.op 11 (.op 12 .nil)))))))))) (.op 0 (.op 3 (.op 5 (.op 6 (.op 7 (.op 8 (.op 9 (.op 11 (.op 12 .nil))))))))))) (.alt (.op 3 (.alt (.op 4 (.alt (.op 5 (.op 0 (.op 6 (.op 7 (.op 8 (.op 9 (.op 11 (.op 12 .nil)))))))) (.op 0 (.op 5 (.op 6 (.op 7 (.op 8 (.op 9 (.op 11 (.op 12 .nil)))))))))) (.op 0 (.op 4 (.op 5 (.op 6 (.op 7 (.op 8 (.op 9 (.op 11 (.op 12 .nil))))))))))) (.op 0 (.alt (.op 4 (.op 3 (.op 5 (.op 6 (.op 7 (.op 8 (.op 9 (.op 11 (.op 12 .nil))))))))) (.op 3 (.op 4 (.op 5 (.op 6 (.op 7 (.op 8 (.op 9 (.op 11 (.op 12 .nil)))))))))))))) (.alt (.op 3 (.alt (.op 4 (.alt (.op 10 (.alt (.op 5 (.op 0 (.op 6 (.op 7 (.op 8 (.op 9 (.op 11 (.op 12 .nil)))))))) (.op 0 (.op 5 (.op 6 (.op 7 (.op 8 (.op 9 (.op 11 (.op 12 .nil)))))))))) (.alt (.op 5 (.alt (.op 10 (.op 0 (.op 6 (.op 7 (.op 8 (.op 9 (.op 11 (.op 12 .nil)))))))) (.op 0 (.alt (.op 10 (.op 6 (.op 7 (.op 8 (.op 9 (.op 11 (.op 12 .nil))))))) (.op 6 (.op 7 (.op 8 (.op 9 (.op 10 (.op 11 (.op 12 .nil))))))))))) (.op 0 (.alt (.op 10 (.op 5 (.op 6 (.op 7 (.op 8 (.op 9 (.op 11 (.op 12 .nil)))))))) (.op 5 (.alt (.op 10 (.op 6 (.op 7 (.op 8 (.op 9 (.op 11 (.op 12 .nil))))))) (.op 6 (.op 7 (.op 8 (.op 9 (.op 10 (.op 11 (.op 12 .nil)))))))))))))) (.alt (.op 10 (.alt (.op 4 (.alt (.op 5 (.op 0 (.op 6 (.op 7 (.op 8 (.op 9 (.op 11 (.op 12 .nil)))))))) (.op 0 (.op 5 (.op 6 (.op 7 (.op 8 (.op 9 (.op 11 (.op 12 .nil)))))))))) (.op 0 (.op 4 (.op 5 (.op 6 (.op 7 (.op 8 (.op 9 (.op 11 (.op 12 .nil))))))))))) (.op 0 (.alt (.op 4 (.alt (.op 10 (.op 5 (.op 6 (.op 7 (.op 8 (.op 9 (.op 11 (.op 12 .nil)))))))) (.op 5 (.alt (.op 10 (.op 6 (.op 7 (.op 8 (.op 9 (.op 11 (.op 12 .nil))))))) (.op 6 (.op 7 (.op 8 (.op 9 (.op 10 (.op 11 (.op 12 .nil))))))))))) (.op 10 (.op 4 (.op 5 (.op 6 (.op 7 (.op 8 (.op 9 (.op 11 (.op 12 .nil)))))))))))))) (.op 0 (.alt (.op 4 (.alt (.op 10 (.op 3 (.op 5 (.op 6 (.op 7 (.op 8 (.op 9 (.op 11 (.op 12 .nil))))))))) (.op 3 (.alt (.op 10 (.op 5 (.op 6 (.op 7 (.op 8 (.op 9 (.op 11 (.op 12 .nil)))))))) (.op 5 (.alt (.op 10 (.op 6 (.op 7 (.op 8 (.op 9 (.op 11 (.op 12 .nil))))))) (.op 6 (.op 7 (.op 8 (.op 9 (.op 10 (.op 11 (.op 12 .nil))))))))))))) (.alt (.op 10 (.alt (.op 4 (.op 3 (.op 5 (.op 6 (.op 7 (.op 8 (.op 9 (.op 11 (.op 12 .nil))))))))) (.op 3 (.op 4 (.op 5 (.op 6 (.op 7 (.op 8 (.op 9 (.op 11 (.op 12 .nil))))))))))) (.op 3 (.alt (.op 4 (.alt (.op 10 (.op 5 (.op 6 (.op 7 (.op 8 (.op 9 (.op 11 (.op 12 .nil)))))))) (.op 5 (.alt (.op 10 (.op 6 (.op 7 (.op 8 (.op 9 (.op 11 (.op 12 .nil))))))) (.op 6 (.op 7 (.op 8 (.op 9 (.op 10 (.op 11 (.op 12 .nil))))))))))) (.op 10 (.op 4 (.op 5 (.op 6 (.op 7 (.op 8 (.op 9 (.op 11 (.op 12 .nil)))))))))))))))))) (.alt (.op 4 (.alt (.op 1 (.alt (.op 10 (.alt (.op 3 (.alt (.op 5 (.op 0 (.op 6 (.op 7 (.op 8 (.op 9 (.op 11 (.op 12 .nil)))))))) (.op 0 (.op 5 (.op 6 (.op 7 (.op 8 (.op 9 (.op 11 (.op 12 .nil)))))))))) (.op 0 (.op 3 (.op 5 (.op 6 (.op 7 (.op 8 (.op 9 (.op 11 (.op 12 .nil))))))))))) (.alt (.op 3 (.alt (.op 10 (.alt (.op 5 (.op 0 (.op 6 (.op 7 (.op 8 (.op 9 (.op 11 (.op 12 .nil)))))))) (.op 0 (.op 5 (.op 6 (.op 7 (.op 8 (.op 9 (.op 11 (.op 12 .nil)))))))))) (.alt (.op 5 (.alt (.op 10 (.op 0 (.op 6 (.op 7 (.op 8 (.op 9 (.op 11 (.op 12 .nil)))))))) (.op 0 (.alt (.op 10 (.op 6 (.op 7 (.op 8 (.op 9 (.op 11 (.op 12 .nil))))))) (.op 6 (.op 7 (.op 8 (.op 9 (.op 10 (.op 11 (.op 12 .nil))))))))))) (.op 0 (.alt (.op 10 (.op 5 (.op 6 (.op 7 (.op 8 (.op 9 (.op 11 (.op 12 .nil)))))))) (.op 5 (.alt (.op 10 (.op 6 (.op 7 (.op 8 (.op 9 (.op 11 (.op 12 .nil))))))) (.op 6 (.op 7 (.op 8 (.op 9 (.op 10 (.op 11 (.op 12 .nil)))))))))))))) (.op 0 (.alt (.op 10 (.op 3 (.op 5 (.op 6 (.op 7 (.op 8 (.op 9 (.op 11 (.op 12 .nil))))))))) (.op 3 (.alt (.op 10 (.op 5 (.op 6 (.op 7 (.op 8 (.op 9 (.op 11 (.op 12 .nil)))))))) (.op 5 (.alt (.op 10 (.op 6 (.op 7 (.op 8 (.op 9 (.op 11 (.op 12 .nil))))))) (.op 6 (.op 7 (.op 8 (.op 9 (.op 10 (.op 11 (.op 12 .nil)))))))))))))))) (.alt (.op 10 (.alt (.op 1 (.alt (.op 3 (.alt (.op 5 (.op 0 (.op 6 (.op 7 (.op 8 (.op 9 (.op 11 (.op 12 .nil)))))))) (.op 0 (.op 5 (.op 6 (.op 7 (.op 8 (.op 9 (.op 11 (.op 12 .nil)))))))))) (.op 0 (.op 3 (.op 5 (.op 6 (.op 7 (.op 8 (.op 9 (.op 11 (.op 12 .nil))))))))))) (.op 0 (.op 1 (.op 3 (.op 5 (.op 6 (.op 7 (.op 8 (.op 9 (.op 11 (.op 12 .nil)))))))))))) (.op 0 (.alt (.op 1 (.alt (.op 10 (.op 3 (.op 5 (.op 6 (.op 7 (.op 8 (.op 9 (.op 11 (.op 12 .nil))))))))) (.op 3 (.alt (.op 10 (.op 5 (.op 6 (.op 7 (.op 8 (.op 9 (.op 11 (.op 12 .nil)))))))) (.op 5 (.alt (.op 10 (.op 6 (.op 7 (.op 8 (.op 9 (.op 11 (.op 12 .nil))))))) (.op 6 (.op 7 (.op 8 (.op 9 (.op 10 (.op 11 (.op 12 .nil))))))))))))) (.op 10 (.op 1 (.op 3 (.op 5 (.op 6 (.op 7 (.op 8 (.op 9 (.op 11 (.op 12 .nil))))))))))))))) (.alt (.op 10 (.alt (.op 1 (.alt (.op 4 (.alt (.op 3 (.alt (.op 5 (.op 0 (.op 6 (.op 7 (.op 8 (.op 9 (.op 11 (.op 12 .nil)))))))) (.op 0 (.op 5 (.op 6 (.op 7 (.op 8 (.op 9 (.op 11 (.op 12 .nil)))))))))) (.op 0 (.op 3 (.op 5 (.op 6 (.op 7 (.op 8 (.op 9 (.op 11 (.op 12 .nil))))))))))) (.alt (.op 3 (.alt (.op 4 (.alt (.op 5 (.op 0 (.op 6 (.op 7 (.op 8 (.op 9 (.op 11 (.op 12 .nil)))))))) (.op 0 (.op 5 (.op 6 (.op 7 (.op 8 (.op 9 (.op 11 (.op 12 .nil)))))))))) (.op 0 (.op 4 (.op 5 (.op 6 (.op 7 (.op 8 (.op 9 (.op 11 (.op 12 .nil))))))))))) (.op 0 (.alt (.op 4 (.op 3 (.op 5 (.op 6 (.op 7 (.op 8 (.op 9 (.op 11 (.op 12 .nil))))))))) (.op 3 (.op 4 (.op 5 (.op 6 (.op 7 (.op 8 (.op 9 (.op 11 (.op 12 .nil)))))))))))))) (.alt (.op 4 (.alt (.op 1 (.alt (.op 3 (.alt (.op 5 (.op 0 (.op 6 (.op 7 (.op 8 (.op 9 (.op 11 (.op 12 .nil)))))))) (.op 0 (.op 5 (.op 6 (.op 7 (.op 8 (.op 9 (.op 11 (.op 12 .nil)))))))))) (.op 0 (.op 3 (.op 5 (.op 6 (.op 7 (.op 8 (.op 9 (.op 11 (.op 12 .nil))))))))))) (.op 0 (.op 1 (.op 3 (.op 5 (.op 6 (.op 7 (.op 8 (.op 9 (.op 11 (.op 12 .nil)))))))))))) (.op 0 (.alt (.op 1 (.alt (.op 4 (.op 3 (.op 5 (.op 6 (.op 7 (.op 8 (.op 9 (.op 11 (.op 12 .nil))))))))) (.op 3 (.op 4 (.op 5 (.op 6 (.op 7 (.op 8 (.op 9 (.op 11 (.op 12 .nil))))))))))) (.op 4 (.op 1 (.op 3 (.op 5 (.op 6 (.op 7 (.op 8 (.op 9 (.op 11 (.op 12 .nil))))))))))))))) (.op 0 (.alt (.op 1 (.alt (.op 4 (.alt (.op 10 (.op 3 (.op 5 (.op 6 (.op 7 (.op 8 (.op 9 (.op 11 (.op 12 .nil))))))))) (.op 3 (.alt (.op 10 (.op 5 (.op 6 (.op 7 (.op 8 (.op 9 (.op 11 (.op 12 .nil)))))))) (.op 5 (.alt (.op 10 (.op 6 (.op 7 (.op 8 (.op 9 (.op 11 (.op 12 .nil))))))) (.op 6 (.op 7 (.op 8 (.op 9 (.op 10 (.op 11 (.op 12 .nil))))))))))))) (.alt (.op 10 (.alt (.op 4 (.op 3 (.op 5 (.op 6 (.op 7 (.op 8 (.op 9 (.op 11 (.op 12 .nil))))))))) (.op 3 (.op 4 (.op 5 (.op 6 (.op 7 (.op 8 (.op 9 (.op 11 (.op 12 .nil))))))))))) (.op 3 (.alt (.op 4 (.alt (.op 10 (.op 5 (.op 6 (.op 7 (.op 8 (.op 9 (.op 11 (.op 12 .nil)))))))) (.op 5 (.alt (.op 10 (.op 6 (.op 7 (.op 8 (.op 9 (.op 11 (.op 12 .nil))))))) (.op 6 (.op 7 (.op 8 (.op 9 (.op 10 (.op 11 (.op 12 .nil))))))))))) (.op 10 (.op 4 (.op 5 (.op 6 (.op 7 (.op 8 (.op 9 (.op 11 (.op 12 .nil)))))))))))))) (.alt (.op 4 (.alt (.op 1 (.alt (.op 10 (.op 3 (.op 5 (.op 6 (.op 7 (.op 8 (.op 9 (.op 11 (.op 12 .nil))))))))) (.op 3 (.alt (.op 10 (.op 5 (.op 6 (.op 7 (.op 8 (.op 9 (.op 11 (.op 12 .nil)))))))) (.op 5 (.alt (.op 10 (.op 6 (.op 7 (.op 8 (.op 9 (.op 11 (.op 12 .nil))))))) (.op 6 (.op 7 (.op 8 (.op 9 (.op 10 (.op 11 (.op 12 .nil))))))))))))) (.op 10 (.op 1 (.op 3 (.op 5 (.op 6 (.op 7 (.op 8 (.op 9 (.op 11 (.op 12 .nil)))))))))))) (.op 10 (.alt (.op 1 (.alt (.op 4 (.op 3 (.op 5 (.op 6 (.op 7 (.op 8 (.op 9 (.op 11 (.op 12 .nil))))))))) (.op 3 (.op 4 (.op 5 (.op 6 (.op 7 (.op 8 (.op 9 (.op 11 (.op 12 .nil))))))))))) (.op 4 (.op 1 (.op 3 (.op 5 (.op 6 (.op 7 (.op 8 (.op 9 (.op 11 (.op 12 .nil))))))))))))))))))) (by kernel_rfl) ?_
    generalize V.drew = U at hd f0U hrU hVU ⊢
    have hbU : Below U.heap.size U U := Below.refl _ _
    have fin : ∀ (g' : Nat) (X Y : World), Below U.heap.size U X → U.heap.size ≤ g' → X.grownBy Y (some g') → Below V.heap.size V Y ∧ Below W0.heap.size W0 Y := fun g' X Y hX hg gY => by
      have h1 := hVU.trans (hX.mono hVU.size)
      have h2 := hd.trans (hX.mono hd.size)
      refine ⟨h1.grown gY h1.size fun k e => ?_, h2.grown gY h2.size fun k e => ?_⟩
      · have := hVU.size; simp only [Option.some.injEq] at e; omega
      · have := hd.size; simp only [Option.some.injEq] at e; omega
    refine And.intro ?_ (And.intro ?_ (And.intro ?_ ?_))
    · refine ⟨⟨by decide, by decide, rfl⟩, [], rfl, ?_⟩
      have b1 : Below U.heap.size U (U.alloc oE) := hbU.alloc hbU.size _
      have r2 := R1.new U hbU.size
      refine And.intro ?_ (And.intro ?_ (And.intro ?_ ?_))
      · refine ⟨⟨by decide, by decide, rfl⟩, [u8 0], rfl, ?_⟩
        have b3 : Below U.heap.size U ((U.alloc oE).alloc oZ) := b1.alloc b1.size _
        have r4 := R1.alloc r2 oZ
        have r5 := R4.new (U.alloc oE) b1.size
        refine And.intro ?_ (And.intro ?_ ?_)
        · have b6 : Below U.heap.size U (((U.alloc oE).alloc oZ).alloc oS) := b3.alloc b3.size _
          have r7 := R1.alloc r4 oS
          have r8 := R4.alloc r5 oS
          have r9 := R10.new ((U.alloc oE).alloc oZ) b3.size
          refine And.intro ?_ ?_
          · refine app3 r7 b6.size (hrU.below b6) hk hl6 fun p10 c11 X12 r13 b14 k15 => ?_
            have b16 := b6.trans b14
            have r17 := k15.r4 r8
            have r18 := k15.r10 r9
            refine And.intro ?_ ?_
            · refine app5 r13 r17 b16.size hl6 fun p19 c20 X21 r22 b23 k24 => ?_
              have b25 := b16.trans b23
              have r26 := k24 r18
              refine ⟨wv, hlw, cells_block (block_below b25 f0U), hlt (block_below b25 f0U), ?_⟩
              refine Calls.mono (Read_s hW (hGV _ (hd.trans (b25.mono hd.size))).bnd (own_read r22).1 (own_read r22).2 hl61) ?_
              rintro e X27 ⟨v, rfl, vs, en, rfl, b28, s29, hen, _⟩
              obtain rfl := hen hno
              have b30 := b25.trans (b28.mono b25.size)
              have r31 := r26.below b28
              refine put_sys r31.1 zero_len s29.len s29.one fun Y gY fY sY => ?_
              exact ⟨(), ⟨.cons rfl (.cons rfl (.cons rfl (.cons rfl .nil))), rfl⟩, fin _ _ Y b30 r31.2 gY⟩
            · refine ⟨wv, hlw, cells_block (block_below b16 f0U), hlt (block_below b16 f0U), ?_⟩
              refine app5 r13 r17 b16.size hl6 fun p32 c33 X34 r35 b36 k37 => ?_
              have b38 := b16.trans b36
              have r39 := k37 r18
              refine Calls.mono (Read_s hW (hGV _ (hd.trans (b38.mono hd.size))).bnd (own_read r35).1 (own_read r35).2 hl61) ?_
              rintro e X40 ⟨v, rfl, vs, en, rfl, b41, s42, hen, _⟩
              obtain rfl := hen hno
              have b43 := b38.trans (b41.mono b38.size)
              have r44 := r39.below b41
              refine put_sys r44.1 zero_len s42.len s42.one fun Y gY fY sY => ?_
              exact ⟨(), ⟨.cons rfl (.cons rfl (.cons rfl (.cons rfl .nil))), rfl⟩, fin _ _ Y b43 r44.2 gY⟩
          · refine ⟨wv, hlw, cells_block (block_below b6 f0U), hlt (block_below b6 f0U), ?_⟩
            refine app3 r7 b6.size (hrU.below b6) hk hl6 fun p45 c46 X47 r48 b49 k50 => ?_
            have b51 := b6.trans b49
            have r52 := k50.r4 r8
            have r53 := k50.r10 r9
            refine app5 r48 r52 b51.size hl6 fun p54 c55 X56 r57 b58 k59 => ?_
            have b60 := b51.trans b58
            have r61 := k59 r53
            refine Calls.mono (Read_s hW (hGV _ (hd.trans (b60.mono hd.size))).bnd (own_read r57).1 (own_read r57).2 hl61) ?_
            rintro e X62 ⟨v, rfl, vs, en, rfl, b63, s64, hen, _⟩
            obtain rfl := hen hno
            have b65 := b60.trans (b63.mono b60.size)
            have r66 := r61.below b63
            refine put_sys r66.1 zero_len s64.len s64.one fun Y gY fY sY => ?_
            exact ⟨(), ⟨.cons rfl (.cons rfl (.cons rfl (.cons rfl .nil))), rfl⟩, fin _ _ Y b65 r66.2 gY⟩
        · refine app3 r4 b3.size (hrU.below b3) hk hl6 fun p67 c68 X69 r70 b71 k72 => ?_
          have b73 := b3.trans b71
          have r74 := k72.r4 r5
          refine And.intro ?_ (And.intro ?_ ?_)
          · have b75 : Below U.heap.size U (X69.alloc oS) := b73.alloc b73.size _
            have r76 := OwnS.alloc r70 oS
            have r77 := R4.alloc r74 oS
            have r78 := R10.new X69 b73.size
            refine And.intro ?_ ?_
            · refine app5 r76 r77 b75.size hl6 fun p79 c80 X81 r82 b83 k84 => ?_
              have b85 := b75.trans b83
              have r86 := k84 r78
              refine ⟨wv, hlw, cells_block (block_below b85 f0U), hlt (block_below b85 f0U), ?_⟩
              refine Calls.mono (Read_s hW (hGV _ (hd.trans (b85.mono hd.size))).bnd (own_read r82).1 (own_read r82).2 hl61) ?_
              rintro e X87 ⟨v, rfl, vs, en, rfl, b88, s89, hen, _⟩
              obtain rfl := hen hno
              have b90 := b85.trans (b88.mono b85.size)
              have r91 := r86.below b88
              refine put_sys r91.1 zero_len s89.len s89.one fun Y gY fY sY => ?_
              exact ⟨(), ⟨.cons rfl (.cons rfl (.cons rfl (.cons rfl .nil))), rfl⟩, fin _ _ Y b90 r91.2 gY⟩
            · refine ⟨wv, hlw, cells_block (block_below b75 f0U), hlt (block_below b75 f0U), ?_⟩
              refine app5 r76 r77 b75.size hl6 fun p92 c93 X94 r95 b96 k97 => ?_
              have b98 := b75.trans b96
              have r99 := k97 r78
              refine Calls.mono (Read_s hW (hGV _ (hd.trans (b98.mono hd.size))).bnd (own_read r95).1 (own_read r95).2 hl61) ?_
              rintro e X100 ⟨v, rfl, vs, en, rfl, b101, s102, hen, _⟩
              obtain rfl := hen hno
              have b103 := b98.trans (b101.mono b98.size)
              have r104 := r99.below b101
              refine put_sys r104.1 zero_len s102.len s102.one fun Y gY fY sY => ?_
              exact ⟨(), ⟨.cons rfl (.cons rfl (.cons rfl (.cons rfl .nil))), rfl⟩, fin _ _ Y b103 r104.2 gY⟩
          · refine app5 r70 r74 b73.size hl6 fun p105 c106 X107 r108 b109 k110 => ?_
            have b111 := b73.trans b109
            refine And.intro ?_ ?_
            · have b112 : Below U.heap.size U (X107.alloc oS) := b111.alloc b111.size _
              have r113 := OwnS.alloc r108 oS
              have r114 := R10.new X107 b111.size
              refine ⟨wv, hlw, cells_block (block_below b112 f0U), hlt (block_below b112 f0U), ?_⟩
              refine Calls.mono (Read_s hW (hGV _ (hd.trans (b112.mono hd.size))).bnd (own_read r113).1 (own_read r113).2 hl61) ?_
              rintro e X115 ⟨v, rfl, vs, en, rfl, b116, s117, hen, _⟩
              obtain rfl := hen hno
              have b118 := b112.trans (b116.mono b112.size)
              have r119 := r114.below b116
              refine put_sys r119.1 zero_len s117.len s117.one fun Y gY fY sY => ?_
              exact ⟨(), ⟨.cons rfl (.cons rfl (.cons rfl (.cons rfl .nil))), rfl⟩, fin _ _ Y b118 r119.2 gY⟩
            · refine ⟨wv, hlw, cells_block (block_below b111 f0U), hlt (block_below b111 f0U), ?_⟩
              refine And.intro ?_ ?_
              · have b120 : Below U.heap.size U (X107.alloc oS) := b111.alloc b111.size _
                have r121 := OwnS.alloc r108 oS
                have r122 := R10.new X107 b111.size
                refine Calls.mono (Read_s hW (hGV _ (hd.trans (b120.mono hd.size))).bnd (own_read r121).1 (own_read r121).2 hl61) ?_
                rintro e X123 ⟨v, rfl, vs, en, rfl, b124, s125, hen, _⟩
                obtain rfl := hen hno
                have b126 := b120.trans (b124.mono b120.size)
                have r127 := r122.below b124
                refine put_sys r127.1 zero_len s125.len s125.one fun Y gY fY sY => ?_
                exact ⟨(), ⟨.cons rfl (.cons rfl (.cons rfl (.cons rfl .nil))), rfl⟩, fin _ _ Y b126 r127.2 gY⟩
              · refine Calls.mono (Read_s hW (hGV _ (hd.trans (b111.mono hd.size))).bnd (own_read r108).1 (own_read r108).2 hl61) ?_
                rintro e X128 ⟨v, rfl, vs, en, rfl, b129, s130, hen, _⟩
                obtain rfl := hen hno
                have b131 := b111.trans (b129.mono b111.size)
                have b132 : Below U.heap.size U (X128.alloc oS) := b131.alloc b131.size _
                have r133 := R10.new X128 b131.size
                refine put_sys r133.1 zero_len s130.len s130.one fun Y gY fY sY => ?_
                exact ⟨(), ⟨.cons rfl (.cons rfl (.cons rfl (.cons rfl .nil))), rfl⟩, fin _ _ Y b132 r133.2 gY⟩
          · refine ⟨wv, hlw, cells_block (block_below b73 f0U), hlt (block_below b73 f0U), ?_⟩
            refine And.intro ?_ ?_
            · have b134 : Below U.heap.size U (X69.alloc oS) := b73.alloc b73.size _
              have r135 := OwnS.alloc r70 oS
              have r136 := R4.alloc r74 oS
              have r137 := R10.new X69 b73.size
              refine app5 r135 r136 b134.size hl6 fun p138 c139 X140 r141 b142 k143 => ?_
              have b144 := b134.trans b142
              have r145 := k143 r137
              refine Calls.mono (Read_s hW (hGV _ (hd.trans (b144.mono hd.size))).bnd (own_read r141).1 (own_read r141).2 hl61) ?_
              rintro e X146 ⟨v, rfl, vs, en, rfl, b147, s148, hen, _⟩
              obtain rfl := hen hno
              have b149 := b144.trans (b147.mono b144.size)
              have r150 := r145.below b147
              refine put_sys r150.1 zero_len s148.len s148.one fun Y gY fY sY => ?_
              exact ⟨(), ⟨.cons rfl (.cons rfl (.cons rfl (.cons rfl .nil))), rfl⟩, fin _ _ Y b149 r150.2 gY⟩
            · refine app5 r70 r74 b73.size hl6 fun p151 c152 X153 r154 b155 k156 => ?_
              have b157 := b73.trans b155
              refine And.intro ?_ ?_
              · have b158 : Below U.heap.size U (X153.alloc oS) := b157.alloc b157.size _
                have r159 := OwnS.alloc r154 oS
                have r160 := R10.new X153 b157.size
                refine Calls.mono (Read_s hW (hGV _ (hd.trans (b158.mono hd.size))).bnd (own_read r159).1 (own_read r159).2 hl61) ?_
                rintro e X161 ⟨v, rfl, vs, en, rfl, b162, s163, hen, _⟩
                obtain rfl := hen hno
                have b164 := b158.trans (b162.mono b158.size)
                have r165 := r160.below b162
                refine put_sys r165.1 zero_len s163.len s163.one fun Y gY fY sY => ?_
                exact ⟨(), ⟨.cons rfl (.cons rfl (.cons rfl (.cons rfl .nil))), rfl⟩, fin _ _ Y b164 r165.2 gY⟩
              · refine Calls.mono (Read_s hW (hGV _ (hd.trans (b157.mono hd.size))).bnd (own_read r154).1 (own_read r154).2 hl61) ?_
                rintro e X166 ⟨v, rfl, vs, en, rfl, b167, s168, hen, _⟩
                obtain rfl := hen hno
                have b169 := b157.trans (b167.mono b157.size)
                have b170 : Below U.heap.size U (X166.alloc oS) := b169.alloc b169.size _
                have r171 := R10.new X166 b169.size
                refine put_sys r171.1 zero_len s168.len s168.one fun Y gY fY sY => ?_
                exact ⟨(), ⟨.cons rfl (.cons rfl (.cons rfl (.cons rfl .nil))), rfl⟩, fin _ _ Y b170 r171.2 gY⟩
        · refine ⟨wv, hlw, cells_block (block_below b3 f0U), hlt (block_below b3 f0U), ?_⟩
          refine And.intro ?_ ?_
          · have b172 : Below U.heap.size U (((U.alloc oE).alloc oZ).alloc oS) := b3.alloc b3.size _
            have r173 := R1.alloc r4 oS
            have r174 := R4.alloc r5 oS
            have r175 := R10.new ((U.alloc oE).alloc oZ) b3.size
            refine app3 r173 b172.size (hrU.below b172) hk hl6 fun p176 c177 X178 r179 b180 k181 => ?_
            have b182 := b172.trans b180
            have r183 := k181.r4 r174
            have r184 := k181.r10 r175
            refine app5 r179 r183 b182.size hl6 fun p185 c186 X187 r188 b189 k190 => ?_
            have b191 := b182.trans b189
            have r192 := k190 r184
            refine Calls.mono (Read_s hW (hGV _ (hd.trans (b191.mono hd.size))).bnd (own_read r188).1 (own_read r188).2 hl61) ?_
            rintro e X193 ⟨v, rfl, vs, en, rfl, b194, s195, hen, _⟩
            obtain rfl := hen hno
            have b196 := b191.trans (b194.mono b191.size)
            have r197 := r192.below b194
            refine put_sys r197.1 zero_len s195.len s195.one fun Y gY fY sY => ?_
            exact ⟨(), ⟨.cons rfl (.cons rfl (.cons rfl (.cons rfl .nil))), rfl⟩, fin _ _ Y b196 r197.2 gY⟩
          · refine app3 r4 b3.size (hrU.below b3) hk hl6 fun p198 c199 X200 r201 b202 k203 => ?_
            have b204 := b3.trans b202
            have r205 := k203.r4 r5
            refine And.intro ?_ ?_
            · have b206 : Below U.heap.size U (X200.alloc oS) := b204.alloc b204.size _
              have r207 := OwnS.alloc r201 oS
              have r208 := R4.alloc r205 oS
              have r209 := R10.new X200 b204.size
              refine app5 r207 r208 b206.size hl6 fun p210 c211 X212 r213 b214 k215 => ?_
              have b216 := b206.trans b214
              have r217 := k215 r209
              refine Calls.mono (Read_s hW (hGV _ (hd.trans (b216.mono hd.size))).bnd (own_read r213).1 (own_read r213).2 hl61) ?_
              rintro e X218 ⟨v, rfl, vs, en, rfl, b219, s220, hen, _⟩
              obtain rfl := hen hno
              have b221 := b216.trans (b219.mono b216.size)
              have r222 := r217.below b219
              refine put_sys r222.1 zero_len s220.len s220.one fun Y gY fY sY => ?_
              exact ⟨(), ⟨.cons rfl (.cons rfl (.cons rfl (.cons rfl .nil))), rfl⟩, fin _ _ Y b221 r222.2 gY⟩
            · refine app5 r201 r205 b204.size hl6 fun p223 c224 X225 r226 b227 k228 => ?_
              have b229 := b204.trans b227
              refine And.intro ?_ ?_
              · have b230 : Below U.heap.size U (X225.alloc oS) := b229.alloc b229.size _
                have r231 := OwnS.alloc r226 oS
                have r232 := R10.new X225 b229.size
                refine Calls.mono (Read_s hW (hGV _ (hd.trans (b230.mono hd.size))).bnd (own_read r231).1 (own_read r231).2 hl61) ?_
                rintro e X233 ⟨v, rfl, vs, en, rfl, b234, s235, hen, _⟩
                obtain rfl := hen hno
                have b236 := b230.trans (b234.mono b230.size)
                have r237 := r232.below b234
                refine put_sys r237.1 zero_len s235.len s235.one fun Y gY fY sY => ?_
                exact ⟨(), ⟨.cons rfl (.cons rfl (.cons rfl (.cons rfl .nil))), rfl⟩, fin _ _ Y b236 r237.2 gY⟩
              · refine Calls.mono (Read_s hW (hGV _ (hd.trans (b229.mono hd.size))).bnd (own_read r226).1 (own_read r226).2 hl61) ?_
                rintro e X238 ⟨v, rfl, vs, en, rfl, b239, s240, hen, _⟩
                obtain rfl := hen hno
                have b241 := b229.trans (b239.mono b229.size)
                have b242 : Below U.heap.size U (X238.alloc oS) := b241.alloc b241.size _
                have r243 := R10.new X238 b241.size
                refine put_sys r243.1 zero_len s240.len s240.one fun Y gY fY sY => ?_
                exact ⟨(), ⟨.cons rfl (.cons rfl (.cons rfl (.cons rfl .nil))), rfl⟩, fin _ _ Y b242 r243.2 gY⟩
      · have b244 : Below U.heap.size U ((U.alloc oE).alloc oS) := b1.alloc b1.size _
        have r245 := R1.alloc r2 oS
        have r246 := R10.new (U.alloc oE) b1.size
        refine And.intro ?_ (And.intro ?_ ?_)
        · refine ⟨⟨by decide, by decide, rfl⟩, [u8 0], rfl, ?_⟩
          have b247 : Below U.heap.size U (((U.alloc oE).alloc oS).alloc oZ) := b244.alloc b244.size _
          have r248 := R1.alloc r245 oZ
          have r249 := R10.alloc r246 oZ
          have r250 := R4.new ((U.alloc oE).alloc oS) b244.size
          refine And.intro ?_ ?_
          · refine app3 r248 b247.size (hrU.below b247) hk hl6 fun p251 c252 X253 r254 b255 k256 => ?_
            have b257 := b247.trans b255
            have r258 := k256.r4 r250
            have r259 := k256.r10 r249
            refine And.intro ?_ ?_
            · refine app5 r254 r258 b257.size hl6 fun p260 c261 X262 r263 b264 k265 => ?_
              have b266 := b257.trans b264
              have r267 := k265 r259
              refine ⟨wv, hlw, cells_block (block_below b266 f0U), hlt (block_below b266 f0U), ?_⟩
              refine Calls.mono (Read_s hW (hGV _ (hd.trans (b266.mono hd.size))).bnd (own_read r263).1 (own_read r263).2 hl61) ?_
              rintro e X268 ⟨v, rfl, vs, en, rfl, b269, s270, hen, _⟩
              obtain rfl := hen hno
              have b271 := b266.trans (b269.mono b266.size)
              have r272 := r267.below b269
              refine put_sys r272.1 zero_len s270.len s270.one fun Y gY fY sY => ?_
              exact ⟨(), ⟨.cons rfl (.cons rfl (.cons rfl (.cons rfl .nil))), rfl⟩, fin _ _ Y b271 r272.2 gY⟩
            · refine ⟨wv, hlw, cells_block (block_below b257 f0U), hlt (block_below b257 f0U), ?_⟩
              refine app5 r254 r258 b257.size hl6 fun p273 c274 X275 r276 b277 k278 => ?_
              have b279 := b257.trans b277
              have r280 := k278 r259
              refine Calls.mono (Read_s hW (hGV _ (hd.trans (b279.mono hd.size))).bnd (own_read r276).1 (own_read r276).2 hl61) ?_
              rintro e X281 ⟨v, rfl, vs, en, rfl, b282, s283, hen, _⟩
              obtain rfl := hen hno
              have b284 := b279.trans (b282.mono b279.size)
              have r285 := r280.below b282
              refine put_sys r285.1 zero_len s283.len s283.one fun Y gY fY sY => ?_
              exact ⟨(), ⟨.cons rfl (.cons rfl (.cons rfl (.cons rfl .nil))), rfl⟩, fin _ _ Y b284 r285.2 gY⟩
          · refine ⟨wv, hlw, cells_block (block_below b247 f0U), hlt (block_below b247 f0U), ?_⟩
            refine app3 r248 b247.size (hrU.below b247) hk hl6 fun p286 c287 X288 r289 b290 k291 => ?_
            have b292 := b247.trans b290
            have r293 := k291.r4 r250
            have r294 := k291.r10 r249
            refine app5 r289 r293 b292.size hl6 fun p295 c296 X297 r298 b299 k300 => ?_
            have b301 := b292.trans b299
            have r302 := k300 r294
            refine Calls.mono (Read_s hW (hGV _ (hd.trans (b301.mono hd.size))).bnd (own_read r298).1 (own_read r298).2 hl61) ?_
            rintro e X303 ⟨v, rfl, vs, en, rfl, b304, s305, hen, _⟩
            obtain rfl := hen hno
            have b306 := b301.trans (b304.mono b301.size)
            have r307 := r302.below b304
            refine put_sys r307.1 zero_len s305.len s305.one fun Y gY fY sY => ?_
            exact ⟨(), ⟨.cons rfl (.cons rfl (.cons rfl (.cons rfl .nil))), rfl⟩, fin _ _ Y b306 r307.2 gY⟩
        · refine app3 r245 b244.size (hrU.below b244) hk hl6 fun p308 c309 X310 r311 b312 k313 => ?_
          have b314 := b244.trans b312
          have r315 := k313.r10 r246
          refine And.intro ?_ ?_
          · refine ⟨⟨by decide, by decide, rfl⟩, [u8 0], rfl, ?_⟩
            have b316 : Below U.heap.size U (X310.alloc oZ) := b314.alloc b314.size _
            have r317 := OwnS.alloc r311 oZ
            have r318 := R10.alloc r315 oZ
            have r319 := R4.new X310 b314.size
            refine And.intro ?_ ?_
            · refine app5 r317 r319 b316.size hl6 fun p320 c321 X322 r323 b324 k325 => ?_
              have b326 := b316.trans b324
              have r327 := k325 r318
              refine ⟨wv, hlw, cells_block (block_below b326 f0U), hlt (block_below b326 f0U), ?_⟩
              refine Calls.mono (Read_s hW (hGV _ (hd.trans (b326.mono hd.size))).bnd (own_read r323).1 (own_read r323).2 hl61) ?_
              rintro e X328 ⟨v, rfl, vs, en, rfl, b329, s330, hen, _⟩
              obtain rfl := hen hno
              have b331 := b326.trans (b329.mono b326.size)
              have r332 := r327.below b329
              refine put_sys r332.1 zero_len s330.len s330.one fun Y gY fY sY => ?_
              exact ⟨(), ⟨.cons rfl (.cons rfl (.cons rfl (.cons rfl .nil))), rfl⟩, fin _ _ Y b331 r332.2 gY⟩
            · refine ⟨wv, hlw, cells_block (block_below b316 f0U), hlt (block_below b316 f0U), ?_⟩
              refine app5 r317 r319 b316.size hl6 fun p333 c334 X335 r336 b337 k338 => ?_
              have b339 := b316.trans b337
              have r340 := k338 r318
              refine Calls.mono (Read_s hW (hGV _ (hd.trans (b339.mono hd.size))).bnd (own_read r336).1 (own_read r336).2 hl61) ?_
              rintro e X341 ⟨v, rfl, vs, en, rfl, b342, s343, hen, _⟩
              obtain rfl := hen hno
              have b344 := b339.trans (b342.mono b339.size)
              have r345 := r340.below b342
              refine put_sys r345.1 zero_len s343.len s343.one fun Y gY fY sY => ?_
              exact ⟨(), ⟨.cons rfl (.cons rfl (.cons rfl (.cons rfl .nil))), rfl⟩, fin _ _ Y b344 r345.2 gY⟩
          · refine ⟨wv, hlw, cells_block (block_below b314 f0U), hlt (block_below b314 f0U), ?_⟩
            refine ⟨⟨by decide, by decide, rfl⟩, [u8 0], rfl, ?_⟩
            have b346 : Below U.heap.size U (X310.alloc oZ) := b314.alloc b314.size _
            have r347 := OwnS.alloc r311 oZ
            have r348 := R10.alloc r315 oZ
            have r349 := R4.new X310 b314.size
            refine app5 r347 r349 b346.size hl6 fun p350 c351 X352 r353 b354 k355 => ?_
            have b356 := b346.trans b354
            have r357 := k355 r348
            refine Calls.mono (Read_s hW (hGV _ (hd.trans (b356.mono hd.size))).bnd (own_read r353).1 (own_read r353).2 hl61) ?_
            rintro e X358 ⟨v, rfl, vs, en, rfl, b359, s360, hen, _⟩
            obtain rfl := hen hno
            have b361 := b356.trans (b359.mono b356.size)
            have r362 := r357.below b359
            refine put_sys r362.1 zero_len s360.len s360.one fun Y gY fY sY => ?_
            exact ⟨(), ⟨.cons rfl (.cons rfl (.cons rfl (.cons rfl .nil))), rfl⟩, fin _ _ Y b361 r362.2 gY⟩
        · refine ⟨wv, hlw, cells_block (block_below b244 f0U), hlt (block_below b244 f0U), ?_⟩
          refine And.intro ?_ ?_
          · refine ⟨⟨by decide, by decide, rfl⟩, [u8 0], rfl, ?_⟩
            have b363 : Below U.heap.size U (((U.alloc oE).alloc oS).alloc oZ) := b244.alloc b244.size _
            have r364 := R1.alloc r245 oZ
            have r365 := R10.alloc r246 oZ
            have r366 := R4.new ((U.alloc oE).alloc oS) b244.size
            refine app3 r364 b363.size (hrU.below b363) hk hl6 fun p367 c368 X369 r370 b371 k372 => ?_
            have b373 := b363.trans b371
            have r374 := k372.r4 r366
            have r375 := k372.r10 r365
            refine app5 r370 r374 b373.size hl6 fun p376 c377 X378 r379 b380 k381 => ?_
            have b382 := b373.trans b380
            have r383 := k381 r375
            refine Calls.mono (Read_s hW (hGV _ (hd.trans (b382.mono hd.size))).bnd (own_read r379).1 (own_read r379).2 hl61) ?_
            rintro e X384 ⟨v, rfl, vs, en, rfl, b385, s386, hen, _⟩
            obtain rfl := hen hno
            have b387 := b382.trans (b385.mono b382.size)
            have r388 := r383.below b385
            refine put_sys r388.1 zero_len s386.len s386.one fun Y gY fY sY => ?_
            exact ⟨(), ⟨.cons rfl (.cons rfl (.cons rfl (.cons rfl .nil))), rfl⟩, fin _ _ Y b387 r388.2 gY⟩
          · refine app3 r245 b244.size (hrU.below b244) hk hl6 fun p389 c390 X391 r392 b393 k394 => ?_
            have b395 := b244.trans b393
            have r396 := k394.r10 r246
            refine ⟨⟨by decide, by decide, rfl⟩, [u8 0], rfl, ?_⟩
            have b397 : Below U.heap.size U (X391.alloc oZ) := b395.alloc b395.size _
            have r398 := OwnS.alloc r392 oZ
            have r399 := R10.alloc r396 oZ
            have r400 := R4.new X391 b395.size
            refine app5 r398 r400 b397.size hl6 fun p401 c402 X403 r404 b405 k406 => ?_
            have b407 := b397.trans b405
            have r408 := k406 r399
            refine Calls.mono (Read_s hW (hGV _ (hd.trans (b407.mono hd.size))).bnd (own_read r404).1 (own_read r404).2 hl61) ?_
            rintro e X409 ⟨v, rfl, vs, en, rfl, b410, s411, hen, _⟩
            obtain rfl := hen hno
            have b412 := b407.trans (b410.mono b407.size)
            have r413 := r408.below b410
            refine put_sys r413.1 zero_len s411.len s411.one fun Y gY fY sY => ?_
            exact ⟨(), ⟨.cons rfl (.cons rfl (.cons rfl (.cons rfl .nil))), rfl⟩, fin _ _ Y b412 r413.2 gY⟩
      · refine app3 r2 b1.size (hrU.below b1) hk hl6 fun p414 c415 X416 r417 b418 k419 => ?_
        have b420 := b1.trans b418
        refine And.intro ?_ (And.intro ?_ ?_)
        · refine ⟨⟨by decide, by decide, rfl⟩, [u8 0], rfl, ?_⟩
          have b421 : Below U.heap.size U (X416.alloc oZ) := b420.alloc b420.size _
          have r422 := OwnS.alloc r417 oZ
          have r423 := R4.new X416 b420.size
          refine And.intro ?_ (And.intro ?_ ?_)
          · have b424 : Below U.heap.size U ((X416.alloc oZ).alloc oS) := b421.alloc b421.size _
            have r425 := OwnS.alloc r422 oS
            have r426 := R4.alloc r423 oS
            have r427 := R10.new (X416.alloc oZ) b421.size
            refine And.intro ?_ ?_
            · refine app5 r425 r426 b424.size hl6 fun p428 c429 X430 r431 b432 k433 => ?_
              have b434 := b424.trans b432
              have r435 := k433 r427
              refine ⟨wv, hlw, cells_block (block_below b434 f0U), hlt (block_below b434 f0U), ?_⟩
              refine Calls.mono (Read_s hW (hGV _ (hd.trans (b434.mono hd.size))).bnd (own_read r431).1 (own_read r431).2 hl61) ?_
              rintro e X436 ⟨v, rfl, vs, en, rfl, b437, s438, hen, _⟩
              obtain rfl := hen hno
              have b439 := b434.trans (b437.mono b434.size)
              have r440 := r435.below b437
              refine put_sys r440.1 zero_len s438.len s438.one fun Y gY fY sY => ?_
              exact ⟨(), ⟨.cons rfl (.cons rfl (.cons rfl (.cons rfl .nil))), rfl⟩, fin _ _ Y b439 r440.2 gY⟩
            · refine ⟨wv, hlw, cells_block (block_below b424 f0U), hlt (block_below b424 f0U), ?_⟩
              refine app5 r425 r426 b424.size hl6 fun p441 c442 X443 r444 b445 k446 => ?_
              have b447 := b424.trans b445
              have r448 := k446 r427
              refine Calls.mono (Read_s hW (hGV _ (hd.trans (b447.mono hd.size))).bnd (own_read r444).1 (own_read r444).2 hl61) ?_
              rintro e X449 ⟨v, rfl, vs, en, rfl, b450, s451, hen, _⟩
              obtain rfl := hen hno
              have b452 := b447.trans (b450.mono b447.size)
              have r453 := r448.below b450
              refine put_sys r453.1 zero_len s451.len s451.one fun Y gY fY sY => ?_
              exact ⟨(), ⟨.cons rfl (.cons rfl (.cons rfl (.cons rfl .nil))), rfl⟩, fin _ _ Y b452 r453.2 gY⟩
          · refine app5 r422 r423 b421.size hl6 fun p454 c455 X456 r457 b458 k459 => ?_
            have b460 := b421.trans b458
            refine And.intro ?_ ?_
            · have b461 : Below U.heap.size U (X456.alloc oS) := b460.alloc b460.size _
              have r462 := OwnS.alloc r457 oS
              have r463 := R10.new X456 b460.size
              refine ⟨wv, hlw, cells_block (block_below b461 f0U), hlt (block_below b461 f0U), ?_⟩
              refine Calls.mono (Read_s hW (hGV _ (hd.trans (b461.mono hd.size))).bnd (own_read r462).1 (own_read r462).2 hl61) ?_
              rintro e X464 ⟨v, rfl, vs, en, rfl, b465, s466, hen, _⟩
              obtain rfl := hen hno
              have b467 := b461.trans (b465.mono b461.size)
              have r468 := r463.below b465
              refine put_sys r468.1 zero_len s466.len s466.one fun Y gY fY sY => ?_
              exact ⟨(), ⟨.cons rfl (.cons rfl (.cons rfl (.cons rfl .nil))), rfl⟩, fin _ _ Y b467 r468.2 gY⟩
            · refine ⟨wv, hlw, cells_block (block_below b460 f0U), hlt (block_below b460 f0U), ?_⟩
              refine And.intro ?_ ?_
              · have b469 : Below U.heap.size U (X456.alloc oS) := b460.alloc b460.size _
                have r470 := OwnS.alloc r457 oS
                have r471 := R10.new X456 b460.size
                refine Calls.mono (Read_s hW (hGV _ (hd.trans (b469.mono hd.size))).bnd (own_read r470).1 (own_read r470).2 hl61) ?_
                rintro e X472 ⟨v, rfl, vs, en, rfl, b473, s474, hen, _⟩
                obtain rfl := hen hno
                have b475 := b469.trans (b473.mono b469.size)
                have r476 := r471.below b473
                refine put_sys r476.1 zero_len s474.len s474.one fun Y gY fY sY => ?_
                exact ⟨(), ⟨.cons rfl (.cons rfl (.cons rfl (.cons rfl .nil))), rfl⟩, fin _ _ Y b475 r476.2 gY⟩
              · refine Calls.mono (Read_s hW (hGV _ (hd.trans (b460.mono hd.size))).bnd (own_read r457).1 (own_read r457).2 hl61) ?_
                rintro e X477 ⟨v, rfl, vs, en, rfl, b478, s479, hen, _⟩
                obtain rfl := hen hno
                have b480 := b460.trans (b478.mono b460.size)
                have b481 : Below U.heap.size U (X477.alloc oS) := b480.alloc b480.size _
                have r482 := R10.new X477 b480.size
                refine put_sys r482.1 zero_len s479.len s479.one fun Y gY fY sY => ?_
                exact ⟨(), ⟨.cons rfl (.cons rfl (.cons rfl (.cons rfl .nil))), rfl⟩, fin _ _ Y b481 r482.2 gY⟩
          · refine ⟨wv, hlw, cells_block (block_below b421 f0U), hlt (block_below b421 f0U), ?_⟩
            refine And.intro ?_ ?_
            · have b483 : Below U.heap.size U ((X416.alloc oZ).alloc oS) := b421.alloc b421.size _
              have r484 := OwnS.alloc r422 oS
              have r485 := R4.alloc r423 oS
              have r486 := R10.new (X416.alloc oZ) b421.size
              refine app5 r484 r485 b483.size hl6 fun p487 c488 X489 r490 b491 k492 => ?_
              have b493 := b483.trans b491
              have r494 := k492 r486
              refine Calls.mono (Read_s hW (hGV _ (hd.trans (b493.mono hd.size))).bnd (own_read r490).1 (own_read r490).2 hl61) ?_
              rintro e X495 ⟨v, rfl, vs, en, rfl, b496, s497, hen, _⟩
              obtain rfl := hen hno
              have b498 := b493.trans (b496.mono b493.size)
              have r499 := r494.below b496
              refine put_sys r499.1 zero_len s497.len s497.one fun Y gY fY sY => ?_
              exact ⟨(), ⟨.cons rfl (.cons rfl (.cons rfl (.cons rfl .nil))), rfl⟩, fin _ _ Y b498 r499.2 gY⟩
            · refine app5 r422 r423 b421.size hl6 fun p500 c501 X502 r503 b504 k505 => ?_
              have b506 := b421.trans b504
              refine And.intro ?_ ?_
              · have b507 : Below U.heap.size U (X502.alloc oS) := b506.alloc b506.size _
                have r508 := OwnS.alloc r503 oS
                have r509 := R10.new X502 b506.size
                refine Calls.mono (Read_s hW (hGV _ (hd.trans (b507.mono hd.size))).bnd (own_read r508).1 (own_read r508).2 hl61) ?_
                rintro e X510 ⟨v, rfl, vs, en, rfl, b511, s512, hen, _⟩
                obtain rfl := hen hno
                have b513 := b507.trans (b511.mono b507.size)
                have r514 := r509.below b511
                refine put_sys r514.1 zero_len s512.len s512.one fun Y gY fY sY => ?_
                exact ⟨(), ⟨.cons rfl (.cons rfl (.cons rfl (.cons rfl .nil))), rfl⟩, fin _ _ Y b513 r514.2 gY⟩
              · refine Calls.mono (Read_s hW (hGV _ (hd.trans (b506.mono hd.size))).bnd (own_read r503).1 (own_read r503).2 hl61) ?_
                rintro e X515 ⟨v, rfl, vs, en, rfl, b516, s517, hen, _⟩
                obtain rfl := hen hno
                have b518 := b506.trans (b516.mono b506.size)
                have b519 : Below U.heap.size U (X515.alloc oS) := b518.alloc b518.size _
                have r520 := R10.new X515 b518.size
                refine put_sys r520.1 zero_len s517.len s517.one fun Y gY fY sY => ?_
                exact ⟨(), ⟨.cons rfl (.cons rfl (.cons rfl (.cons rfl .nil))), rfl⟩, fin _ _ Y b519 r520.2 gY⟩
        · have b521 : Below U.heap.size U (X416.alloc oS) := b420.alloc b420.size _
          have r522 := OwnS.alloc r417 oS
          have r523 := R10.new X416 b420.size
          refine And.intro ?_ ?_
          · refine ⟨⟨by decide, by decide, rfl⟩, [u8 0], rfl, ?_⟩
            have b524 : Below U.heap.size U ((X416.alloc oS).alloc oZ) := b521.alloc b521.size _
            have r525 := OwnS.alloc r522 oZ
            have r526 := R10.alloc r523 oZ
            have r527 := R4.new (X416.alloc oS) b521.size
            refine And.intro ?_ ?_
            · refine app5 r525 r527 b524.size hl6 fun p528 c529 X530 r531 b532 k533 => ?_
              have b534 := b524.trans b532
              have r535 := k533 r526
              refine ⟨wv, hlw, cells_block (block_below b534 f0U), hlt (block_below b534 f0U), ?_⟩
              refine Calls.mono (Read_s hW (hGV _ (hd.trans (b534.mono hd.size))).bnd (own_read r531).1 (own_read r531).2 hl61) ?_
              rintro e X536 ⟨v, rfl, vs, en, rfl, b537, s538, hen, _⟩
              obtain rfl := hen hno
              have b539 := b534.trans (b537.mono b534.size)
              have r540 := r535.below b537
              refine put_sys r540.1 zero_len s538.len s538.one fun Y gY fY sY => ?_
              exact ⟨(), ⟨.cons rfl (.cons rfl (.cons rfl (.cons rfl .nil))), rfl⟩, fin _ _ Y b539 r540.2 gY⟩
            · refine ⟨wv, hlw, cells_block (block_below b524 f0U), hlt (block_below b524 f0U), ?_⟩
              refine app5 r525 r527 b524.size hl6 fun p541 c542 X543 r544 b545 k546 => ?_
              have b547 := b524.trans b545
              have r548 := k546 r526
              refine Calls.mono (Read_s hW (hGV _ (hd.trans (b547.mono hd.size))).bnd (own_read r544).1 (own_read r544).2 hl61) ?_
              rintro e X549 ⟨v, rfl, vs, en, rfl, b550, s551, hen, _⟩
              obtain rfl := hen hno
              have b552 := b547.trans (b550.mono b547.size)
              have r553 := r548.below b550
              refine put_sys r553.1 zero_len s551.len s551.one fun Y gY fY sY => ?_
              exact ⟨(), ⟨.cons rfl (.cons rfl (.cons rfl (.cons rfl .nil))), rfl⟩, fin _ _ Y b552 r553.2 gY⟩
          · refine ⟨wv, hlw, cells_block (block_below b521 f0U), hlt (block_below b521 f0U), ?_⟩
            refine ⟨⟨by decide, by decide, rfl⟩, [u8 0], rfl, ?_⟩
            have b554 : Below U.heap.size U ((X416.alloc oS).alloc oZ) := b521.alloc b521.size _
            have r555 := OwnS.alloc r522 oZ
            have r556 := R10.alloc r523 oZ
            have r557 := R4.new (X416.alloc oS) b521.size
            refine app5 r555 r557 b554.size hl6 fun p558 c559 X560 r561 b562 k563 => ?_
            have b564 := b554.trans b562
            have r565 := k563 r556
            refine Calls.mono (Read_s hW (hGV _ (hd.trans (b564.mono hd.size))).bnd (own_read r561).1 (own_read r561).2 hl61) ?_
            rintro e X566 ⟨v, rfl, vs, en, rfl, b567, s568, hen, _⟩
            obtain rfl := hen hno
            have b569 := b564.trans (b567.mono b564.size)
            have r570 := r565.below b567
            refine put_sys r570.1 zero_len s568.len s568.one fun Y gY fY sY => ?_
            exact ⟨(), ⟨.cons rfl (.cons rfl (.cons rfl (.cons rfl .nil))), rfl⟩, fin _ _ Y b569 r570.2 gY⟩
        · refine ⟨wv, hlw, cells_block (block_below b420 f0U), hlt (block_below b420 f0U), ?_⟩
          refine And.intro ?_ ?_
          · refine ⟨⟨by decide, by decide, rfl⟩, [u8 0], rfl, ?_⟩
            have b571 : Below U.heap.size U (X416.alloc oZ) := b420.alloc b420.size _
            have r572 := OwnS.alloc r417 oZ
            have r573 := R4.new X416 b420.size
            refine And.intro ?_ ?_
            · have b574 : Below U.heap.size U ((X416.alloc oZ).alloc oS) := b571.alloc b571.size _
              have r575 := OwnS.alloc r572 oS
              have r576 := R4.alloc r573 oS
              have r577 := R10.new (X416.alloc oZ) b571.size
              refine app5 r575 r576 b574.size hl6 fun p578 c579 X580 r581 b582 k583 => ?_
              have b584 := b574.trans b582
              have r585 := k583 r577
              refine Calls.mono (Read_s hW (hGV _ (hd.trans (b584.mono hd.size))).bnd (own_read r581).1 (own_read r581).2 hl61) ?_
              rintro e X586 ⟨v, rfl, vs, en, rfl, b587, s588, hen, _⟩
              obtain rfl := hen hno
              have b589 := b584.trans (b587.mono b584.size)
              have r590 := r585.below b587
              refine put_sys r590.1 zero_len s588.len s588.one fun Y gY fY sY => ?_
              exact ⟨(), ⟨.cons rfl (.cons rfl (.cons rfl (.cons rfl .nil))), rfl⟩, fin _ _ Y b589 r590.2 gY⟩
            · refine app5 r572 r573 b571.size hl6 fun p591 c592 X593 r594 b595 k596 => ?_
              have b597 := b571.trans b595
              refine And.intro ?_ ?_
              · have b598 : Below U.heap.size U (X593.alloc oS) := b597.alloc b597.size _
                have r599 := OwnS.alloc r594 oS
                have r600 := R10.new X593 b597.size
                refine Calls.mono (Read_s hW (hGV _ (hd.trans (b598.mono hd.size))).bnd (own_read r599).1 (own_read r599).2 hl61) ?_
                rintro e X601 ⟨v, rfl, vs, en, rfl, b602, s603, hen, _⟩
                obtain rfl := hen hno
                have b604 := b598.trans (b602.mono b598.size)
                have r605 := r600.below b602
                refine put_sys r605.1 zero_len s603.len s603.one fun Y gY fY sY => ?_
                exact ⟨(), ⟨.cons rfl (.cons rfl (.cons rfl (.cons rfl .nil))), rfl⟩, fin _ _ Y b604 r605.2 gY⟩
              · refine Calls.mono (Read_s hW (hGV _ (hd.trans (b597.mono hd.size))).bnd (own_read r594).1 (own_read r594).2 hl61) ?_
                rintro e X606 ⟨v, rfl, vs, en, rfl, b607, s608, hen, _⟩
                obtain rfl := hen hno
                have b609 := b597.trans (b607.mono b597.size)
                have b610 : Below U.heap.size U (X606.alloc oS) := b609.alloc b609.size _
                have r611 := R10.new X606 b609.size
                refine put_sys r611.1 zero_len s608.len s608.one fun Y gY fY sY => ?_
                exact ⟨(), ⟨.cons rfl (.cons rfl (.cons rfl (.cons rfl .nil))), rfl⟩, fin _ _ Y b610 r611.2 gY⟩
          · have b612 : Below U.heap.size U (X416.alloc oS) := b420.alloc b420.size _
            have r613 := OwnS.alloc r417 oS
            have r614 := R10.new X416 b420.size
            refine ⟨⟨by decide, by decide, rfl⟩, [u8 0], rfl, ?_⟩
            have b615 : Below U.heap.size U ((X416.alloc oS).alloc oZ) := b612.alloc b612.size _
            have r616 := OwnS.alloc r613 oZ
            have r617 := R10.alloc r614 oZ
            have r618 := R4.new (X416.alloc oS) b612.size
            refine app5 r616 r618 b615.size hl6 fun p619 c620 X621 r622 b623 k624 => ?_
            have b625 := b615.trans b623
            have r626 := k624 r617
            refine Calls.mono (Read_s hW (hGV _ (hd.trans (b625.mono hd.size))).bnd (own_read r622).1 (own_read r622).2 hl61) ?_
            rintro e X627 ⟨v, rfl, vs, en, rfl, b628, s629, hen, _⟩
            obtain rfl := hen hno
            have b630 := b625.trans (b628.mono b625.size)
            have r631 := r626.below b628
            refine put_sys r631.1 zero_len s629.len s629.one fun Y gY fY sY => ?_
            exact ⟨(), ⟨.cons rfl (.cons rfl (.cons rfl (.cons rfl .nil))), rfl⟩, fin _ _ Y b630 r631.2 gY⟩
      · refine ⟨wv, hlw, cells_block (block_below b1 f0U), hlt (block_below b1 f0U), ?_⟩
        refine And.intro ?_ (And.intro ?_ ?_)
        · refine ⟨⟨by decide, by decide, rfl⟩, [u8 0], rfl, ?_⟩
          have b632 : Below U.heap.size U ((U.alloc oE).alloc oZ) := b1.alloc b1.size _
          have r633 := R1.alloc r2 oZ
          have r634 := R4.new (U.alloc oE) b1.size
          refine And.intro ?_ ?_
          · have b635 : Below U.heap.size U (((U.alloc oE).alloc oZ).alloc oS) := b632.alloc b632.size _
            have r636 := R1.alloc r633 oS
            have r637 := R4.alloc r634 oS
            have r638 := R10.new ((U.alloc oE).alloc oZ) b632.size
            refine app3 r636 b635.size (hrU.below b635) hk hl6 fun p639 c640 X641 r642 b643 k644 => ?_
            have b645 := b635.trans b643
            have r646 := k644.r4 r637
            have r647 := k644.r10 r638
            refine app5 r642 r646 b645.size hl6 fun p648 c649 X650 r651 b652 k653 => ?_
            have b654 := b645.trans b652
            have r655 := k653 r647
            refine Calls.mono (Read_s hW (hGV _ (hd.trans (b654.mono hd.size))).bnd (own_read r651).1 (own_read r651).2 hl61) ?_
            rintro e X656 ⟨v, rfl, vs, en, rfl, b657, s658, hen, _⟩
            obtain rfl := hen hno
            have b659 := b654.trans (b657.mono b654.size)
            have r660 := r655.below b657
            refine put_sys r660.1 zero_len s658.len s658.one fun Y gY fY sY => ?_
            exact ⟨(), ⟨.cons rfl (.cons rfl (.cons rfl (.cons rfl .nil))), rfl⟩, fin _ _ Y b659 r660.2 gY⟩
          · refine app3 r633 b632.size (hrU.below b632) hk hl6 fun p661 c662 X663 r664 b665 k666 => ?_
            have b667 := b632.trans b665
            have r668 := k666.r4 r634
            refine And.intro ?_ ?_
            · have b669 : Below U.heap.size U (X663.alloc oS) := b667.alloc b667.size _
              have r670 := OwnS.alloc r664 oS
              have r671 := R4.alloc r668 oS
              have r672 := R10.new X663 b667.size
              refine app5 r670 r671 b669.size hl6 fun p673 c674 X675 r676 b677 k678 => ?_
              have b679 := b669.trans b677
              have r680 := k678 r672
              refine Calls.mono (Read_s hW (hGV _ (hd.trans (b679.mono hd.size))).bnd (own_read r676).1 (own_read r676).2 hl61) ?_
              rintro e X681 ⟨v, rfl, vs, en, rfl, b682, s683, hen, _⟩
              obtain rfl := hen hno
              have b684 := b679.trans (b682.mono b679.size)
              have r685 := r680.below b682
              refine put_sys r685.1 zero_len s683.len s683.one fun Y gY fY sY => ?_
              exact ⟨(), ⟨.cons rfl (.cons rfl (.cons rfl (.cons rfl .nil))), rfl⟩, fin _ _ Y b684 r685.2 gY⟩
            · refine app5 r664 r668 b667.size hl6 fun p686 c687 X688 r689 b690 k691 => ?_
              have b692 := b667.trans b690
              refine And.intro ?_ ?_
              · have b693 : Below U.heap.size U (X688.alloc oS) := b692.alloc b692.size _
                have r694 := OwnS.alloc r689 oS
                have r695 := R10.new X688 b692.size
                refine Calls.mono (Read_s hW (hGV _ (hd.trans (b693.mono hd.size))).bnd (own_read r694).1 (own_read r694).2 hl61) ?_
                rintro e X696 ⟨v, rfl, vs, en, rfl, b697, s698, hen, _⟩
                obtain rfl := hen hno
                have b699 := b693.trans (b697.mono b693.size)
                have r700 := r695.below b697
                refine put_sys r700.1 zero_len s698.len s698.one fun Y gY fY sY => ?_
                exact ⟨(), ⟨.cons rfl (.cons rfl (.cons rfl (.cons rfl .nil))), rfl⟩, fin _ _ Y b699 r700.2 gY⟩
              · refine Calls.mono (Read_s hW (hGV _ (hd.trans (b692.mono hd.size))).bnd (own_read r689).1 (own_read r689).2 hl61) ?_
                rintro e X701 ⟨v, rfl, vs, en, rfl, b702, s703, hen, _⟩
                obtain rfl := hen hno
                have b704 := b692.trans (b702.mono b692.size)
                have b705 : Below U.heap.size U (X701.alloc oS) := b704.alloc b704.size _
                have r706 := R10.new X701 b704.size
                refine put_sys r706.1 zero_len s703.len s703.one fun Y gY fY sY => ?_
                exact ⟨(), ⟨.cons rfl (.cons rfl (.cons rfl (.cons rfl .nil))), rfl⟩, fin _ _ Y b705 r706.2 gY⟩
        · have b707 : Below U.heap.size U ((U.alloc oE).alloc oS) := b1.alloc b1.size _
          have r708 := R1.alloc r2 oS
          have r709 := R10.new (U.alloc oE) b1.size
          refine And.intro ?_ ?_
          · refine ⟨⟨by decide, by decide, rfl⟩, [u8 0], rfl, ?_⟩
            have b710 : Below U.heap.size U (((U.alloc oE).alloc oS).alloc oZ) := b707.alloc b707.size _
            have r711 := R1.alloc r708 oZ
            have r712 := R10.alloc r709 oZ
            have r713 := R4.new ((U.alloc oE).alloc oS) b707.size
            refine app3 r711 b710.size (hrU.below b710) hk hl6 fun p714 c715 X716 r717 b718 k719 => ?_
            have b720 := b710.trans b718
            have r721 := k719.r4 r713
            have r722 := k719.r10 r712
            refine app5 r717 r721 b720.size hl6 fun p723 c724 X725 r726 b727 k728 => ?_
            have b729 := b720.trans b727
            have r730 := k728 r722
            refine Calls.mono (Read_s hW (hGV _ (hd.trans (b729.mono hd.size))).bnd (own_read r726).1 (own_read r726).2 hl61) ?_
            rintro e X731 ⟨v, rfl, vs, en, rfl, b732, s733, hen, _⟩
            obtain rfl := hen hno
            have b734 := b729.trans (b732.mono b729.size)
            have r735 := r730.below b732
            refine put_sys r735.1 zero_len s733.len s733.one fun Y gY fY sY => ?_
            exact ⟨(), ⟨.cons rfl (.cons rfl (.cons rfl (.cons rfl .nil))), rfl⟩, fin _ _ Y b734 r735.2 gY⟩
          · refine app3 r708 b707.size (hrU.below b707) hk hl6 fun p736 c737 X738 r739 b740 k741 => ?_
            have b742 := b707.trans b740
            have r743 := k741.r10 r709
            refine ⟨⟨by decide, by decide, rfl⟩, [u8 0], rfl, ?_⟩
            have b744 : Below U.heap.size U (X738.alloc oZ) := b742.alloc b742.size _
            have r745 := OwnS.alloc r739 oZ
            have r746 := R10.alloc r743 oZ
            have r747 := R4.new X738 b742.size
            refine app5 r745 r747 b744.size hl6 fun p748 c749 X750 r751 b752 k753 => ?_
            have b754 := b744.trans b752
            have r755 := k753 r746
            refine Calls.mono (Read_s hW (hGV _ (hd.trans (b754.mono hd.size))).bnd (own_read r751).1 (own_read r751).2 hl61) ?_
            rintro e X756 ⟨v, rfl, vs, en, rfl, b757, s758, hen, _⟩
            obtain rfl := hen hno
            have b759 := b754.trans (b757.mono b754.size)
            have r760 := r755.below b757
            refine put_sys r760.1 zero_len s758.len s758.one fun Y gY fY sY => ?_
            exact ⟨(), ⟨.cons rfl (.cons rfl (.cons rfl (.cons rfl .nil))), rfl⟩, fin _ _ Y b759 r760.2 gY⟩
        · refine app3 r2 b1.size (hrU.below b1) hk hl6 fun p761 c762 X763 r764 b765 k766 => ?_
          have b767 := b1.trans b765
          refine And.intro ?_ ?_
          · refine ⟨⟨by decide, by decide, rfl⟩, [u8 0], rfl, ?_⟩
            have b768 : Below U.heap.size U (X763.alloc oZ) := b767.alloc b767.size _
            have r769 := OwnS.alloc r764 oZ
            have r770 := R4.new X763 b767.size
            refine And.intro ?_ ?_
            · have b771 : Below U.heap.size U ((X763.alloc oZ).alloc oS) := b768.alloc b768.size _
              have r772 := OwnS.alloc r769 oS
              have r773 := R4.alloc r770 oS
              have r774 := R10.new (X763.alloc oZ) b768.size
              refine app5 r772 r773 b771.size hl6 fun p775 c776 X777 r778 b779 k780 => ?_
              have b781 := b771.trans b779
              have r782 := k780 r774
              refine Calls.mono (Read_s hW (hGV _ (hd.trans (b781.mono hd.size))).bnd (own_read r778).1 (own_read r778).2 hl61) ?_
              rintro e X783 ⟨v, rfl, vs, en, rfl, b784, s785, hen, _⟩
              obtain rfl := hen hno
              have b786 := b781.trans (b784.mono b781.size)
              have r787 := r782.below b784
              refine put_sys r787.1 zero_len s785.len s785.one fun Y gY fY sY => ?_
              exact ⟨(), ⟨.cons rfl (.cons rfl (.cons rfl (.cons rfl .nil))), rfl⟩, fin _ _ Y b786 r787.2 gY⟩
            · refine app5 r769 r770 b768.size hl6 fun p788 c789 X790 r791 b792 k793 => ?_
              have b794 := b768.trans b792
              refine And.intro ?_ ?_
              · have b795 : Below U.heap.size U (X790.alloc oS) := b794.alloc b794.size _
                have r796 := OwnS.alloc r791 oS
                have r797 := R10.new X790 b794.size
                refine Calls.mono (Read_s hW (hGV _ (hd.trans (b795.mono hd.size))).bnd (own_read r796).1 (own_read r796).2 hl61) ?_
                rintro e X798 ⟨v, rfl, vs, en, rfl, b799, s800, hen, _⟩
                obtain rfl := hen hno
                have b801 := b795.trans (b799.mono b795.size)
                have r802 := r797.below b799
                refine put_sys r802.1 zero_len s800.len s800.one fun Y gY fY sY => ?_
                exact ⟨(), ⟨.cons rfl (.cons rfl (.cons rfl (.cons rfl .nil))), rfl⟩, fin _ _ Y b801 r802.2 gY⟩
              · refine Calls.mono (Read_s hW (hGV _ (hd.trans (b794.mono hd.size))).bnd (own_read r791).1 (own_read r791).2 hl61) ?_
                rintro e X803 ⟨v, rfl, vs, en, rfl, b804, s805, hen, _⟩
                obtain rfl := hen hno
                have b806 := b794.trans (b804.mono b794.size)
                have b807 : Below U.heap.size U (X803.alloc oS) := b806.alloc b806.size _
                have r808 := R10.new X803 b806.size
                refine put_sys r808.1 zero_len s805.len s805.one fun Y gY fY sY => ?_
                exact ⟨(), ⟨.cons rfl (.cons rfl (.cons rfl (.cons rfl .nil))), rfl⟩, fin _ _ Y b807 r808.2 gY⟩
          · have b809 : Below U.heap.size U (X763.alloc oS) := b767.alloc b767.size _
            have r810 := OwnS.alloc r764 oS
            have r811 := R10.new X763 b767.size
            refine ⟨⟨by decide, by decide, rfl⟩, [u8 0], rfl, ?_⟩
            have b812 : Below U.heap.size U ((X763.alloc oS).alloc oZ) := b809.alloc b809.size _
            have r813 := OwnS.alloc r810 oZ
            have r814 := R10.alloc r811 oZ
            have r815 := R4.new (X763.alloc oS) b809.size
            refine app5 r813 r815 b812.size hl6 fun p816 c817 X818 r819 b820 k821 => ?_
            have b822 := b812.trans b820
            have r823 := k821 r814
            refine Calls.mono (Read_s hW (hGV _ (hd.trans (b822.mono hd.size))).bnd (own_read r819).1 (own_read r819).2 hl61) ?_
            rintro e X824 ⟨v, rfl, vs, en, rfl, b825, s826, hen, _⟩
            obtain rfl := hen hno
            have b827 := b822.trans (b825.mono b822.size)
            have r828 := r823.below b825
            refine put_sys r828.1 zero_len s826.len s826.one fun Y gY fY sY => ?_
            exact ⟨(), ⟨.cons rfl (.cons rfl (.cons rfl (.cons rfl .nil))), rfl⟩, fin _ _ Y b827 r828.2 gY⟩
    · refine ⟨⟨by decide, by decide, rfl⟩, [u8 0], rfl, ?_⟩
      have b829 : Below U.heap.size U (U.alloc oZ) := hbU.alloc hbU.size _
      have r830 := R4.new U hbU.size
      refine And.intro ?_ (And.intro ?_ ?_)
      · refine ⟨⟨by decide, by decide, rfl⟩, [], rfl, ?_⟩
        have b831 : Below U.heap.size U ((U.alloc oZ).alloc oE) := b829.alloc b829.size _
        have r832 := R4.alloc r830 oE
        have r833 := R1.new (U.alloc oZ) b829.size
        refine And.intro ?_ (And.intro ?_ ?_)
        · have b834 : Below U.heap.size U (((U.alloc oZ).alloc oE).alloc oS) := b831.alloc b831.size _
          have r835 := R1.alloc r833 oS
          have r836 := R4.alloc r832 oS
          have r837 := R10.new ((U.alloc oZ).alloc oE) b831.size
          refine And.intro ?_ ?_
          · refine app3 r835 b834.size (hrU.below b834) hk hl6 fun p838 c839 X840 r841 b842 k843 => ?_
            have b844 := b834.trans b842
            have r845 := k843.r4 r836
            have r846 := k843.r10 r837
            refine And.intro ?_ ?_
            · refine app5 r841 r845 b844.size hl6 fun p847 c848 X849 r850 b851 k852 => ?_
              have b853 := b844.trans b851
              have r854 := k852 r846
              refine ⟨wv, hlw, cells_block (block_below b853 f0U), hlt (block_below b853 f0U), ?_⟩
              refine Calls.mono (Read_s hW (hGV _ (hd.trans (b853.mono hd.size))).bnd (own_read r850).1 (own_read r850).2 hl61) ?_
              rintro e X855 ⟨v, rfl, vs, en, rfl, b856, s857, hen, _⟩
              obtain rfl := hen hno
              have b858 := b853.trans (b856.mono b853.size)
              have r859 := r854.below b856
              refine put_sys r859.1 zero_len s857.len s857.one fun Y gY fY sY => ?_
              exact ⟨(), ⟨.cons rfl (.cons rfl (.cons rfl (.cons rfl .nil))), rfl⟩, fin _ _ Y b858 r859.2 gY⟩
            · refine ⟨wv, hlw, cells_block (block_below b844 f0U), hlt (block_below b844 f0U), ?_⟩
              refine app5 r841 r845 b844.size hl6 fun p860 c861 X862 r863 b864 k865 => ?_
              have b866 := b844.trans b864
              have r867 := k865 r846
              refine Calls.mono (Read_s hW (hGV _ (hd.trans (b866.mono hd.size))).bnd (own_read r863).1 (own_read r863).2 hl61) ?_
              rintro e X868 ⟨v, rfl, vs, en, rfl, b869, s870, hen, _⟩
              obtain rfl := hen hno
              have b871 := b866.trans (b869.mono b866.size)
              have r872 := r867.below b869
              refine put_sys r872.1 zero_len s870.len s870.one fun Y gY fY sY => ?_
              exact ⟨(), ⟨.cons rfl (.cons rfl (.cons rfl (.cons rfl .nil))), rfl⟩, fin _ _ Y b871 r872.2 gY⟩
          · refine ⟨wv, hlw, cells_block (block_below b834 f0U), hlt (block_below b834 f0U), ?_⟩
            refine app3 r835 b834.size (hrU.below b834) hk hl6 fun p873 c874 X875 r876 b877 k878 => ?_
            have b879 := b834.trans b877
            have r880 := k878.r4 r836
            have r881 := k878.r10 r837
            refine app5 r876 r880 b879.size hl6 fun p882 c883 X884 r885 b886 k887 => ?_
            have b888 := b879.trans b886
            have r889 := k887 r881
            refine Calls.mono (Read_s hW (hGV _ (hd.trans (b888.mono hd.size))).bnd (own_read r885).1 (own_read r885).2 hl61) ?_
            rintro e X890 ⟨v, rfl, vs, en, rfl, b891, s892, hen, _⟩
            obtain rfl := hen hno
            have b893 := b888.trans (b891.mono b888.size)
            have r894 := r889.below b891
            refine put_sys r894.1 zero_len s892.len s892.one fun Y gY fY sY => ?_
            exact ⟨(), ⟨.cons rfl (.cons rfl (.cons rfl (.cons rfl .nil))), rfl⟩, fin _ _ Y b893 r894.2 gY⟩
        · refine app3 r833 b831.size (hrU.below b831) hk hl6 fun p895 c896 X897 r898 b899 k900 => ?_
          have b901 := b831.trans b899
          have r902 := k900.r4 r832
          refine And.intro ?_ (And.intro ?_ ?_)
          · have b903 : Below U.heap.size U (X897.alloc oS) := b901.alloc b901.size _
            have r904 := OwnS.alloc r898 oS
            have r905 := R4.alloc r902 oS
            have r906 := R10.new X897 b901.size
            refine And.intro ?_ ?_
            · refine app5 r904 r905 b903.size hl6 fun p907 c908 X909 r910 b911 k912 => ?_
              have b913 := b903.trans b911
              have r914 := k912 r906
              refine ⟨wv, hlw, cells_block (block_below b913 f0U), hlt (block_below b913 f0U), ?_⟩
              refine Calls.mono (Read_s hW (hGV _ (hd.trans (b913.mono hd.size))).bnd (own_read r910).1 (own_read r910).2 hl61) ?_
              rintro e X915 ⟨v, rfl, vs, en, rfl, b916, s917, hen, _⟩
              obtain rfl := hen hno
              have b918 := b913.trans (b916.mono b913.size)
              have r919 := r914.below b916
              refine put_sys r919.1 zero_len s917.len s917.one fun Y gY fY sY => ?_
              exact ⟨(), ⟨.cons rfl (.cons rfl (.cons rfl (.cons rfl .nil))), rfl⟩, fin _ _ Y b918 r919.2 gY⟩
            · refine ⟨wv, hlw, cells_block (block_below b903 f0U), hlt (block_below b903 f0U), ?_⟩
              refine app5 r904 r905 b903.size hl6 fun p920 c921 X922 r923 b924 k925 => ?_
              have b926 := b903.trans b924
              have r927 := k925 r906
              refine Calls.mono (Read_s hW (hGV _ (hd.trans (b926.mono hd.size))).bnd (own_read r923).1 (own_read r923).2 hl61) ?_
              rintro e X928 ⟨v, rfl, vs, en, rfl, b929, s930, hen, _⟩
              obtain rfl := hen hno
              have b931 := b926.trans (b929.mono b926.size)
              have r932 := r927.below b929
              refine put_sys r932.1 zero_len s930.len s930.one fun Y gY fY sY => ?_
              exact ⟨(), ⟨.cons rfl (.cons rfl (.cons rfl (.cons rfl .nil))), rfl⟩, fin _ _ Y b931 r932.2 gY⟩
          · refine app5 r898 r902 b901.size hl6 fun p933 c934 X935 r936 b937 k938 => ?_
            have b939 := b901.trans b937
            refine And.intro ?_ ?_
            · have b940 : Below U.heap.size U (X935.alloc oS) := b939.alloc b939.size _
              have r941 := OwnS.alloc r936 oS
              have r942 := R10.new X935 b939.size
              refine ⟨wv, hlw, cells_block (block_below b940 f0U), hlt (block_below b940 f0U), ?_⟩
              refine Calls.mono (Read_s hW (hGV _ (hd.trans (b940.mono hd.size))).bnd (own_read r941).1 (own_read r941).2 hl61) ?_
              rintro e X943 ⟨v, rfl, vs, en, rfl, b944, s945, hen, _⟩
              obtain rfl := hen hno
              have b946 := b940.trans (b944.mono b940.size)
              have r947 := r942.below b944
              refine put_sys r947.1 zero_len s945.len s945.one fun Y gY fY sY => ?_
              exact ⟨(), ⟨.cons rfl (.cons rfl (.cons rfl (.cons rfl .nil))), rfl⟩, fin _ _ Y b946 r947.2 gY⟩
            · refine ⟨wv, hlw, cells_block (block_below b939 f0U), hlt (block_below b939 f0U), ?_⟩
              refine And.intro ?_ ?_
              · have b948 : Below U.heap.size U (X935.alloc oS) := b939.alloc b939.size _
                have r949 := OwnS.alloc r936 oS
                have r950 := R10.new X935 b939.size
                refine Calls.mono (Read_s hW (hGV _ (hd.trans (b948.mono hd.size))).bnd (own_read r949).1 (own_read r949).2 hl61) ?_
                rintro e X951 ⟨v, rfl, vs, en, rfl, b952, s953, hen, _⟩
                obtain rfl := hen hno
                have b954 := b948.trans (b952.mono b948.size)
                have r955 := r950.below b952
                refine put_sys r955.1 zero_len s953.len s953.one fun Y gY fY sY => ?_
                exact ⟨(), ⟨.cons rfl (.cons rfl (.cons rfl (.cons rfl .nil))), rfl⟩, fin _ _ Y b954 r955.2 gY⟩
              · refine Calls.mono (Read_s hW (hGV _ (hd.trans (b939.mono hd.size))).bnd (own_read r936).1 (own_read r936).2 hl61) ?_
                rintro e X956 ⟨v, rfl, vs, en, rfl, b957, s958, hen, _⟩
                obtain rfl := hen hno
                have b959 := b939.trans (b957.mono b939.size)
                have b960 : Below U.heap.size U (X956.alloc oS) := b959.alloc b959.size _
                have r961 := R10.new X956 b959.size
                refine put_sys r961.1 zero_len s958.len s958.one fun Y gY fY sY => ?_
                exact ⟨(), ⟨.cons rfl (.cons rfl (.cons rfl (.cons rfl .nil))), rfl⟩, fin _ _ Y b960 r961.2 gY⟩
          · refine ⟨wv, hlw, cells_block (block_below b901 f0U), hlt (block_below b901 f0U), ?_⟩
            refine And.intro ?_ ?_
            · have b962 : Below U.heap.size U (X897.alloc oS) := b901.alloc b901.size _
              have r963 := OwnS.alloc r898 oS
              have r964 := R4.alloc r902 oS
              have r965 := R10.new X897 b901.size
              refine app5 r963 r964 b962.size hl6 fun p966 c967 X968 r969 b970 k971 => ?_
              have b972 := b962.trans b970
              have r973 := k971 r965
              refine Calls.mono (Read_s hW (hGV _ (hd.trans (b972.mono hd.size))).bnd (own_read r969).1 (own_read r969).2 hl61) ?_
              rintro e X974 ⟨v, rfl, vs, en, rfl, b975, s976, hen, _⟩
              obtain rfl := hen hno
              have b977 := b972.trans (b975.mono b972.size)
              have r978 := r973.below b975
              refine put_sys r978.1 zero_len s976.len s976.one fun Y gY fY sY => ?_
              exact ⟨(), ⟨.cons rfl (.cons rfl (.cons rfl (.cons rfl .nil))), rfl⟩, fin _ _ Y b977 r978.2 gY⟩
            · refine app5 r898 r902 b901.size hl6 fun p979 c980 X981 r982 b983 k984 => ?_
              have b985 := b901.trans b983
              refine And.intro ?_ ?_
              · have b986 : Below U.heap.size U (X981.alloc oS) := b985.alloc b985.size _
                have r987 := OwnS.alloc r982 oS
                have r988 := R10.new X981 b985.size
                refine Calls.mono (Read_s hW (hGV _ (hd.trans (b986.mono hd.size))).bnd (own_read r987).1 (own_read r987).2 hl61) ?_
                rintro e X989 ⟨v, rfl, vs, en, rfl, b990, s991, hen, _⟩
                obtain rfl := hen hno
                have b992 := b986.trans (b990.mono b986.size)
                have r993 := r988.below b990
                refine put_sys r993.1 zero_len s991.len s991.one fun Y gY fY sY => ?_
                exact ⟨(), ⟨.cons rfl (.cons rfl (.cons rfl (.cons rfl .nil))), rfl⟩, fin _ _ Y b992 r993.2 gY⟩
              · refine Calls.mono (Read_s hW (hGV _ (hd.trans (b985.mono hd.size))).bnd (own_read r982).1 (own_read r982).2 hl61) ?_
                rintro e X994 ⟨v, rfl, vs, en, rfl, b995, s996, hen, _⟩
                obtain rfl := hen hno
                have b997 := b985.trans (b995.mono b985.size)
                have b998 : Below U.heap.size U (X994.alloc oS) := b997.alloc b997.size _
                have r999 := R10.new X994 b997.size
                refine put_sys r999.1 zero_len s996.len s996.one fun Y gY fY sY => ?_
                exact ⟨(), ⟨.cons rfl (.cons rfl (.cons rfl (.cons rfl .nil))), rfl⟩, fin _ _ Y b998 r999.2 gY⟩
        · refine ⟨wv, hlw, cells_block (block_below b831 f0U), hlt (block_below b831 f0U), ?_⟩
          refine And.intro ?_ ?_
          · have b1000 : Below U.heap.size U (((U.alloc oZ).alloc oE).alloc oS) := b831.alloc b831.size _
            have r1001 := R1.alloc r833 oS
            have r1002 := R4.alloc r832 oS
            have r1003 := R10.new ((U.alloc oZ).alloc oE) b831.size
            refine app3 r1001 b1000.size (hrU.below b1000) hk hl6 fun p1004 c1005 X1006 r1007 b1008 k1009 => ?_
            have b1010 := b1000.trans b1008
            have r1011 := k1009.r4 r1002
            have r1012 := k1009.r10 r1003
            refine app5 r1007 r1011 b1010.size hl6 fun p1013 c1014 X1015 r1016 b1017 k1018 => ?_
            have b1019 := b1010.trans b1017
            have r1020 := k1018 r1012
            refine Calls.mono (Read_s hW (hGV _ (hd.trans (b1019.mono hd.size))).bnd (own_read r1016).1 (own_read r1016).2 hl61) ?_
            rintro e X1021 ⟨v, rfl, vs, en, rfl, b1022, s1023, hen, _⟩
            obtain rfl := hen hno
            have b1024 := b1019.trans (b1022.mono b1019.size)
            have r1025 := r1020.below b1022
            refine put_sys r1025.1 zero_len s1023.len s1023.one fun Y gY fY sY => ?_
            exact ⟨(), ⟨.cons rfl (.cons rfl (.cons rfl (.cons rfl .nil))), rfl⟩, fin _ _ Y b1024 r1025.2 gY⟩
          · refine app3 r833 b831.size (hrU.below b831) hk hl6 fun p1026 c1027 X1028 r1029 b1030 k1031 => ?_
            have b1032 := b831.trans b1030
            have r1033 := k1031.r4 r832
            refine And.intro ?_ ?_
            · have b1034 : Below U.heap.size U (X1028.alloc oS) := b1032.alloc b1032.size _
              have r1035 := OwnS.alloc r1029 oS
              have r1036 := R4.alloc r1033 oS
              have r1037 := R10.new X1028 b1032.size
              refine app5 r1035 r1036 b1034.size hl6 fun p1038 c1039 X1040 r1041 b1042 k1043 => ?_
              have b1044 := b1034.trans b1042
              have r1045 := k1043 r1037
              refine Calls.mono (Read_s hW (hGV _ (hd.trans (b1044.mono hd.size))).bnd (own_read r1041).1 (own_read r1041).2 hl61) ?_
              rintro e X1046 ⟨v, rfl, vs, en, rfl, b1047, s1048, hen, _⟩
              obtain rfl := hen hno
              have b1049 := b1044.trans (b1047.mono b1044.size)
              have r1050 := r1045.below b1047
              refine put_sys r1050.1 zero_len s1048.len s1048.one fun Y gY fY sY => ?_
              exact ⟨(), ⟨.cons rfl (.cons rfl (.cons rfl (.cons rfl .nil))), rfl⟩, fin _ _ Y b1049 r1050.2 gY⟩
            · refine app5 r1029 r1033 b1032.size hl6 fun p1051 c1052 X1053 r1054 b1055 k1056 => ?_
              have b1057 := b1032.trans b1055
              refine And.intro ?_ ?_
              · have b1058 : Below U.heap.size U (X1053.alloc oS) := b1057.alloc b1057.size _
                have r1059 := OwnS.alloc r1054 oS
                have r1060 := R10.new X1053 b1057.size
                refine Calls.mono (Read_s hW (hGV _ (hd.trans (b1058.mono hd.size))).bnd (own_read r1059).1 (own_read r1059).2 hl61) ?_
                rintro e X1061 ⟨v, rfl, vs, en, rfl, b1062, s1063, hen, _⟩
                obtain rfl := hen hno
                have b1064 := b1058.trans (b1062.mono b1058.size)
                have r1065 := r1060.below b1062
                refine put_sys r1065.1 zero_len s1063.len s1063.one fun Y gY fY sY => ?_
                exact ⟨(), ⟨.cons rfl (.cons rfl (.cons rfl (.cons rfl .nil))), rfl⟩, fin _ _ Y b1064 r1065.2 gY⟩
              · refine Calls.mono (Read_s hW (hGV _ (hd.trans (b1057.mono hd.size))).bnd (own_read r1054).1 (own_read r1054).2 hl61) ?_
                rintro e X1066 ⟨v, rfl, vs, en, rfl, b1067, s1068, hen, _⟩
                obtain rfl := hen hno
                have b1069 := b1057.trans (b1067.mono b1057.size)
                have b1070 : Below U.heap.size U (X1066.alloc oS) := b1069.alloc b1069.size _
                have r1071 := R10.new X1066 b1069.size
                refine put_sys r1071.1 zero_len s1068.len s1068.one fun Y gY fY sY => ?_
                exact ⟨(), ⟨.cons rfl (.cons rfl (.cons rfl (.cons rfl .nil))), rfl⟩, fin _ _ Y b1070 r1071.2 gY⟩
      · have b1072 : Below U.heap.size U ((U.alloc oZ).alloc oS) := b829.alloc b829.size _
        have r1073 := R4.alloc r830 oS
        have r1074 := R10.new (U.alloc oZ) b829.size
        refine And.intro ?_ ?_
        · refine ⟨⟨by decide, by decide, rfl⟩, [], rfl, ?_⟩
          have b1075 : Below U.heap.size U (((U.alloc oZ).alloc oS).alloc oE) := b1072.alloc b1072.size _
          have r1076 := R4.alloc r1073 oE
          have r1077 := R10.alloc r1074 oE
          have r1078 := R1.new ((U.alloc oZ).alloc oS) b1072.size
          refine And.intro ?_ ?_
          · refine app3 r1078 b1075.size (hrU.below b1075) hk hl6 fun p1079 c1080 X1081 r1082 b1083 k1084 => ?_
            have b1085 := b1075.trans b1083
            have r1086 := k1084.r4 r1076
            have r1087 := k1084.r10 r1077
            refine And.intro ?_ ?_
            · refine app5 r1082 r1086 b1085.size hl6 fun p1088 c1089 X1090 r1091 b1092 k1093 => ?_
              have b1094 := b1085.trans b1092
              have r1095 := k1093 r1087
              refine ⟨wv, hlw, cells_block (block_below b1094 f0U), hlt (block_below b1094 f0U), ?_⟩
              refine Calls.mono (Read_s hW (hGV _ (hd.trans (b1094.mono hd.size))).bnd (own_read r1091).1 (own_read r1091).2 hl61) ?_
              rintro e X1096 ⟨v, rfl, vs, en, rfl, b1097, s1098, hen, _⟩
              obtain rfl := hen hno
              have b1099 := b1094.trans (b1097.mono b1094.size)
              have r1100 := r1095.below b1097
              refine put_sys r1100.1 zero_len s1098.len s1098.one fun Y gY fY sY => ?_
              exact ⟨(), ⟨.cons rfl (.cons rfl (.cons rfl (.cons rfl .nil))), rfl⟩, fin _ _ Y b1099 r1100.2 gY⟩
            · refine ⟨wv, hlw, cells_block (block_below b1085 f0U), hlt (block_below b1085 f0U), ?_⟩
              refine app5 r1082 r1086 b1085.size hl6 fun p1101 c1102 X1103 r1104 b1105 k1106 => ?_
              have b1107 := b1085.trans b1105
              have r1108 := k1106 r1087
              refine Calls.mono (Read_s hW (hGV _ (hd.trans (b1107.mono hd.size))).bnd (own_read r1104).1 (own_read r1104).2 hl61) ?_
              rintro e X1109 ⟨v, rfl, vs, en, rfl, b1110, s1111, hen, _⟩
              obtain rfl := hen hno
              have b1112 := b1107.trans (b1110.mono b1107.size)
              have r1113 := r1108.below b1110
              refine put_sys r1113.1 zero_len s1111.len s1111.one fun Y gY fY sY => ?_
              exact ⟨(), ⟨.cons rfl (.cons rfl (.cons rfl (.cons rfl .nil))), rfl⟩, fin _ _ Y b1112 r1113.2 gY⟩
          · refine ⟨wv, hlw, cells_block (block_below b1075 f0U), hlt (block_below b1075 f0U), ?_⟩
            refine app3 r1078 b1075.size (hrU.below b1075) hk hl6 fun p1114 c1115 X1116 r1117 b1118 k1119 => ?_
            have b1120 := b1075.trans b1118
            have r1121 := k1119.r4 r1076
            have r1122 := k1119.r10 r1077
            refine app5 r1117 r1121 b1120.size hl6 fun p1123 c1124 X1125 r1126 b1127 k1128 => ?_
            have b1129 := b1120.trans b1127
            have r1130 := k1128 r1122
            refine Calls.mono (Read_s hW (hGV _ (hd.trans (b1129.mono hd.size))).bnd (own_read r1126).1 (own_read r1126).2 hl61) ?_
            rintro e X1131 ⟨v, rfl, vs, en, rfl, b1132, s1133, hen, _⟩
            obtain rfl := hen hno
            have b1134 := b1129.trans (b1132.mono b1129.size)
            have r1135 := r1130.below b1132
            refine put_sys r1135.1 zero_len s1133.len s1133.one fun Y gY fY sY => ?_
            exact ⟨(), ⟨.cons rfl (.cons rfl (.cons rfl (.cons rfl .nil))), rfl⟩, fin _ _ Y b1134 r1135.2 gY⟩
        · refine ⟨wv, hlw, cells_block (block_below b1072 f0U), hlt (block_below b1072 f0U), ?_⟩
          refine ⟨⟨by decide, by decide, rfl⟩, [], rfl, ?_⟩
          have b1136 : Below U.heap.size U (((U.alloc oZ).alloc oS).alloc oE) := b1072.alloc b1072.size _
          have r1137 := R4.alloc r1073 oE
          have r1138 := R10.alloc r1074 oE
          have r1139 := R1.new ((U.alloc oZ).alloc oS) b1072.size
          refine app3 r1139 b1136.size (hrU.below b1136) hk hl6 fun p1140 c1141 X1142 r1143 b1144 k1145 => ?_
          have b1146 := b1136.trans b1144
          have r1147 := k1145.r4 r1137
          have r1148 := k1145.r10 r1138
          refine app5 r1143 r1147 b1146.size hl6 fun p1149 c1150 X1151 r1152 b1153 k1154 => ?_
          have b1155 := b1146.trans b1153
          have r1156 := k1154 r1148
          refine Calls.mono (Read_s hW (hGV _ (hd.trans (b1155.mono hd.size))).bnd (own_read r1152).1 (own_read r1152).2 hl61) ?_
          rintro e X1157 ⟨v, rfl, vs, en, rfl, b1158, s1159, hen, _⟩
          obtain rfl := hen hno
          have b1160 := b1155.trans (b1158.mono b1155.size)
          have r1161 := r1156.below b1158
          refine put_sys r1161.1 zero_len s1159.len s1159.one fun Y gY fY sY => ?_
          exact ⟨(), ⟨.cons rfl (.cons rfl (.cons rfl (.cons rfl .nil))), rfl⟩, fin _ _ Y b1160 r1161.2 gY⟩
      · refine ⟨wv, hlw, cells_block (block_below b829 f0U), hlt (block_below b829 f0U), ?_⟩
        refine And.intro ?_ ?_
        · refine ⟨⟨by decide, by decide, rfl⟩, [], rfl, ?_⟩
          have b1162 : Below U.heap.size U ((U.alloc oZ).alloc oE) := b829.alloc b829.size _
          have r1163 := R4.alloc r830 oE
          have r1164 := R1.new (U.alloc oZ) b829.size
          refine And.intro ?_ ?_
          · have b1165 : Below U.heap.size U (((U.alloc oZ).alloc oE).alloc oS) := b1162.alloc b1162.size _
            have r1166 := R1.alloc r1164 oS
            have r1167 := R4.alloc r1163 oS
            have r1168 := R10.new ((U.alloc oZ).alloc oE) b1162.size
            refine app3 r1166 b1165.size (hrU.below b1165) hk hl6 fun p1169 c1170 X1171 r1172 b1173 k1174 => ?_
            have b1175 := b1165.trans b1173
            have r1176 := k1174.r4 r1167
            have r1177 := k1174.r10 r1168
            refine app5 r1172 r1176 b1175.size hl6 fun p1178 c1179 X1180 r1181 b1182 k1183 => ?_
            have b1184 := b1175.trans b1182
            have r1185 := k1183 r1177
            refine Calls.mono (Read_s hW (hGV _ (hd.trans (b1184.mono hd.size))).bnd (own_read r1181).1 (own_read r1181).2 hl61) ?_
            rintro e X1186 ⟨v, rfl, vs, en, rfl, b1187, s1188, hen, _⟩
            obtain rfl := hen hno
            have b1189 := b1184.trans (b1187.mono b1184.size)
            have r1190 := r1185.below b1187
            refine put_sys r1190.1 zero_len s1188.len s1188.one fun Y gY fY sY => ?_
            exact ⟨(), ⟨.cons rfl (.cons rfl (.cons rfl (.cons rfl .nil))), rfl⟩, fin _ _ Y b1189 r1190.2 gY⟩
          · refine app3 r1164 b1162.size (hrU.below b1162) hk hl6 fun p1191 c1192 X1193 r1194 b1195 k1196 => ?_
            have b1197 := b1162.trans b1195
            have r1198 := k1196.r4 r1163
            refine And.intro ?_ ?_
            · have b1199 : Below U.heap.size U (X1193.alloc oS) := b1197.alloc b1197.size _
              have r1200 := OwnS.alloc r1194 oS
              have r1201 := R4.alloc r1198 oS
              have r1202 := R10.new X1193 b1197.size
              refine app5 r1200 r1201 b1199.size hl6 fun p1203 c1204 X1205 r1206 b1207 k1208 => ?_
              have b1209 := b1199.trans b1207
              have r1210 := k1208 r1202
              refine Calls.mono (Read_s hW (hGV _ (hd.trans (b1209.mono hd.size))).bnd (own_read r1206).1 (own_read r1206).2 hl61) ?_
              rintro e X1211 ⟨v, rfl, vs, en, rfl, b1212, s1213, hen, _⟩
              obtain rfl := hen hno
              have b1214 := b1209.trans (b1212.mono b1209.size)
              have r1215 := r1210.below b1212
              refine put_sys r1215.1 zero_len s1213.len s1213.one fun Y gY fY sY => ?_
              exact ⟨(), ⟨.cons rfl (.cons rfl (.cons rfl (.cons rfl .nil))), rfl⟩, fin _ _ Y b1214 r1215.2 gY⟩
            · refine app5 r1194 r1198 b1197.size hl6 fun p1216 c1217 X1218 r1219 b1220 k1221 => ?_
              have b1222 := b1197.trans b1220
              refine And.intro ?_ ?_
              · have b1223 : Below U.heap.size U (X1218.alloc oS) := b1222.alloc b1222.size _
                have r1224 := OwnS.alloc r1219 oS
                have r1225 := R10.new X1218 b1222.size
                refine Calls.mono (Read_s hW (hGV _ (hd.trans (b1223.mono hd.size))).bnd (own_read r1224).1 (own_read r1224).2 hl61) ?_
                rintro e X1226 ⟨v, rfl, vs, en, rfl, b1227, s1228, hen, _⟩
                obtain rfl := hen hno
                have b1229 := b1223.trans (b1227.mono b1223.size)
                have r1230 := r1225.below b1227
                refine put_sys r1230.1 zero_len s1228.len s1228.one fun Y gY fY sY => ?_
                exact ⟨(), ⟨.cons rfl (.cons rfl (.cons rfl (.cons rfl .nil))), rfl⟩, fin _ _ Y b1229 r1230.2 gY⟩
              · refine Calls.mono (Read_s hW (hGV _ (hd.trans (b1222.mono hd.size))).bnd (own_read r1219).1 (own_read r1219).2 hl61) ?_
                rintro e X1231 ⟨v, rfl, vs, en, rfl, b1232, s1233, hen, _⟩
                obtain rfl := hen hno
                have b1234 := b1222.trans (b1232.mono b1222.size)
                have b1235 : Below U.heap.size U (X1231.alloc oS) := b1234.alloc b1234.size _
                have r1236 := R10.new X1231 b1234.size
                refine put_sys r1236.1 zero_len s1233.len s1233.one fun Y gY fY sY => ?_
                exact ⟨(), ⟨.cons rfl (.cons rfl (.cons rfl (.cons rfl .nil))), rfl⟩, fin _ _ Y b1235 r1236.2 gY⟩
        · have b1237 : Below U.heap.size U ((U.alloc oZ).alloc oS) := b829.alloc b829.size _
          have r1238 := R4.alloc r830 oS
          have r1239 := R10.new (U.alloc oZ) b829.size
          refine ⟨⟨by decide, by decide, rfl⟩, [], rfl, ?_⟩
          have b1240 : Below U.heap.size U (((U.alloc oZ).alloc oS).alloc oE) := b1237.alloc b1237.size _
          have r1241 := R4.alloc r1238 oE
          have r1242 := R10.alloc r1239 oE
          have r1243 := R1.new ((U.alloc oZ).alloc oS) b1237.size
          refine app3 r1243 b1240.size (hrU.below b1240) hk hl6 fun p1244 c1245 X1246 r1247 b1248 k1249 => ?_
          have b1250 := b1240.trans b1248
          have r1251 := k1249.r4 r1241
          have r1252 := k1249.r10 r1242
          refine app5 r1247 r1251 b1250.size hl6 fun p1253 c1254 X1255 r1256 b1257 k1258 => ?_
          have b1259 := b1250.trans b1257
          have r1260 := k1258 r1252
          refine Calls.mono (Read_s hW (hGV _ (hd.trans (b1259.mono hd.size))).bnd (own_read r1256).1 (own_read r1256).2 hl61) ?_
          rintro e X1261 ⟨v, rfl, vs, en, rfl, b1262, s1263, hen, _⟩
          obtain rfl := hen hno
          have b1264 := b1259.trans (b1262.mono b1259.size)
          have r1265 := r1260.below b1262
          refine put_sys r1265.1 zero_len s1263.len s1263.one fun Y gY fY sY => ?_
          exact ⟨(), ⟨.cons rfl (.cons rfl (.cons rfl (.cons rfl .nil))), rfl⟩, fin _ _ Y b1264 r1265.2 gY⟩
    · have b1266 : Below U.heap.size U (U.alloc oS) := hbU.alloc hbU.size _
      have r1267 := R10.new U hbU.size
      refine And.intro ?_ (And.intro ?_ ?_)
      · refine ⟨⟨by decide, by decide, rfl⟩, [], rfl, ?_⟩
        have b1268 : Below U.heap.size U ((U.alloc oS).alloc oE) := b1266.alloc b1266.size _
        have r1269 := R10.alloc r1267 oE
        have r1270 := R1.new (U.alloc oS) b1266.size
        refine And.intro ?_ (And.intro ?_ ?_)
        · refine ⟨⟨by decide, by decide, rfl⟩, [u8 0], rfl, ?_⟩
          have b1271 : Below U.heap.size U (((U.alloc oS).alloc oE).alloc oZ) := b1268.alloc b1268.size _
          have r1272 := R1.alloc r1270 oZ
          have r1273 := R10.alloc r1269 oZ
          have r1274 := R4.new ((U.alloc oS).alloc oE) b1268.size
          refine And.intro ?_ ?_
          · refine app3 r1272 b1271.size (hrU.below b1271) hk hl6 fun p1275 c1276 X1277 r1278 b1279 k1280 => ?_
            have b1281 := b1271.trans b1279
            have r1282 := k1280.r4 r1274
            have r1283 := k1280.r10 r1273
            refine And.intro ?_ ?_
            · refine app5 r1278 r1282 b1281.size hl6 fun p1284 c1285 X1286 r1287 b1288 k1289 => ?_
              have b1290 := b1281.trans b1288
              have r1291 := k1289 r1283
              refine ⟨wv, hlw, cells_block (block_below b1290 f0U), hlt (block_below b1290 f0U), ?_⟩
              refine Calls.mono (Read_s hW (hGV _ (hd.trans (b1290.mono hd.size))).bnd (own_read r1287).1 (own_read r1287).2 hl61) ?_
              rintro e X1292 ⟨v, rfl, vs, en, rfl, b1293, s1294, hen, _⟩
              obtain rfl := hen hno
              have b1295 := b1290.trans (b1293.mono b1290.size)
              have r1296 := r1291.below b1293
              refine put_sys r1296.1 zero_len s1294.len s1294.one fun Y gY fY sY => ?_
              exact ⟨(), ⟨.cons rfl (.cons rfl (.cons rfl (.cons rfl .nil))), rfl⟩, fin _ _ Y b1295 r1296.2 gY⟩
            · refine ⟨wv, hlw, cells_block (block_below b1281 f0U), hlt (block_below b1281 f0U), ?_⟩
              refine app5 r1278 r1282 b1281.size hl6 fun p1297 c1298 X1299 r1300 b1301 k1302 => ?_
              have b1303 := b1281.trans b1301
              have r1304 := k1302 r1283
              refine Calls.mono (Read_s hW (hGV _ (hd.trans (b1303.mono hd.size))).bnd (own_read r1300).1 (own_read r1300).2 hl61) ?_
              rintro e X1305 ⟨v, rfl, vs, en, rfl, b1306, s1307, hen, _⟩
              obtain rfl := hen hno
              have b1308 := b1303.trans (b1306.mono b1303.size)
              have r1309 := r1304.below b1306
              refine put_sys r1309.1 zero_len s1307.len s1307.one fun Y gY fY sY => ?_
              exact ⟨(), ⟨.cons rfl (.cons rfl (.cons rfl (.cons rfl .nil))), rfl⟩, fin _ _ Y b1308 r1309.2 gY⟩
          · refine ⟨wv, hlw, cells_block (block_below b1271 f0U), hlt (block_below b1271 f0U), ?_⟩
            refine app3 r1272 b1271.size (hrU.below b1271) hk hl6 fun p1310 c1311 X1312 r1313 b1314 k1315 => ?_
            have b1316 := b1271.trans b1314
            have r1317 := k1315.r4 r1274
            have r1318 := k1315.r10 r1273
            refine app5 r1313 r1317 b1316.size hl6 fun p1319 c1320 X1321 r1322 b1323 k1324 => ?_
            have b1325 := b1316.trans b1323
            have r1326 := k1324 r1318
            refine Calls.mono (Read_s hW (hGV _ (hd.trans (b1325.mono hd.size))).bnd (own_read r1322).1 (own_read r1322).2 hl61) ?_
            rintro e X1327 ⟨v, rfl, vs, en, rfl, b1328, s1329, hen, _⟩
            obtain rfl := hen hno
            have b1330 := b1325.trans (b1328.mono b1325.size)
            have r1331 := r1326.below b1328
            refine put_sys r1331.1 zero_len s1329.len s1329.one fun Y gY fY sY => ?_
            exact ⟨(), ⟨.cons rfl (.cons rfl (.cons rfl (.cons rfl .nil))), rfl⟩, fin _ _ Y b1330 r1331.2 gY⟩
        · refine app3 r1270 b1268.size (hrU.below b1268) hk hl6 fun p1332 c1333 X1334 r1335 b1336 k1337 => ?_
          have b1338 := b1268.trans b1336
          have r1339 := k1337.r10 r1269
          refine And.intro ?_ ?_
          · refine ⟨⟨by decide, by decide, rfl⟩, [u8 0], rfl, ?_⟩
            have b1340 : Below U.heap.size U (X1334.alloc oZ) := b1338.alloc b1338.size _
            have r1341 := OwnS.alloc r1335 oZ
            have r1342 := R10.alloc r1339 oZ
            have r1343 := R4.new X1334 b1338.size
            refine And.intro ?_ ?_
            · refine app5 r1341 r1343 b1340.size hl6 fun p1344 c1345 X1346 r1347 b1348 k1349 => ?_
              have b1350 := b1340.trans b1348
              have r1351 := k1349 r1342
              refine ⟨wv, hlw, cells_block (block_below b1350 f0U), hlt (block_below b1350 f0U), ?_⟩
              refine Calls.mono (Read_s hW (hGV _ (hd.trans (b1350.mono hd.size))).bnd (own_read r1347).1 (own_read r1347).2 hl61) ?_
              rintro e X1352 ⟨v, rfl, vs, en, rfl, b1353, s1354, hen, _⟩
              obtain rfl := hen hno
              have b1355 := b1350.trans (b1353.mono b1350.size)
              have r1356 := r1351.below b1353
              refine put_sys r1356.1 zero_len s1354.len s1354.one fun Y gY fY sY => ?_
              exact ⟨(), ⟨.cons rfl (.cons rfl (.cons rfl (.cons rfl .nil))), rfl⟩, fin _ _ Y b1355 r1356.2 gY⟩
            · refine ⟨wv, hlw, cells_block (block_below b1340 f0U), hlt (block_below b1340 f0U), ?_⟩
              refine app5 r1341 r1343 b1340.size hl6 fun p1357 c1358 X1359 r1360 b1361 k1362 => ?_
              have b1363 := b1340.trans b1361
              have r1364 := k1362 r1342
              refine Calls.mono (Read_s hW (hGV _ (hd.trans (b1363.mono hd.size))).bnd (own_read r1360).1 (own_read r1360).2 hl61) ?_
              rintro e X1365 ⟨v, rfl, vs, en, rfl, b1366, s1367, hen, _⟩
              obtain rfl := hen hno
              have b1368 := b1363.trans (b1366.mono b1363.size)
              have r1369 := r1364.below b1366
              refine put_sys r1369.1 zero_len s1367.len s1367.one fun Y gY fY sY => ?_
              exact ⟨(), ⟨.cons rfl (.cons rfl (.cons rfl (.cons rfl .nil))), rfl⟩, fin _ _ Y b1368 r1369.2 gY⟩
          · refine ⟨wv, hlw, cells_block (block_below b1338 f0U), hlt (block_below b1338 f0U), ?_⟩
            refine ⟨⟨by decide, by decide, rfl⟩, [u8 0], rfl, ?_⟩
            have b1370 : Below U.heap.size U (X1334.alloc oZ) := b1338.alloc b1338.size _
            have r1371 := OwnS.alloc r1335 oZ
            have r1372 := R10.alloc r1339 oZ
            have r1373 := R4.new X1334 b1338.size
            refine app5 r1371 r1373 b1370.size hl6 fun p1374 c1375 X1376 r1377 b1378 k1379 => ?_
            have b1380 := b1370.trans b1378
            have r1381 := k1379 r1372
            refine Calls.mono (Read_s hW (hGV _ (hd.trans (b1380.mono hd.size))).bnd (own_read r1377).1 (own_read r1377).2 hl61) ?_
            rintro e X1382 ⟨v, rfl, vs, en, rfl, b1383, s1384, hen, _⟩
            obtain rfl := hen hno
            have b1385 := b1380.trans (b1383.mono b1380.size)
            have r1386 := r1381.below b1383
            refine put_sys r1386.1 zero_len s1384.len s1384.one fun Y gY fY sY => ?_
            exact ⟨(), ⟨.cons rfl (.cons rfl (.cons rfl (.cons rfl .nil))), rfl⟩, fin _ _ Y b1385 r1386.2 gY⟩
        · refine ⟨wv, hlw, cells_block (block_below b1268 f0U), hlt (block_below b1268 f0U), ?_⟩
          refine And.intro ?_ ?_
          · refine ⟨⟨by decide, by decide, rfl⟩, [u8 0], rfl, ?_⟩
            have b1387 : Below U.heap.size U (((U.alloc oS).alloc oE).alloc oZ) := b1268.alloc b1268.size _
            have r1388 := R1.alloc r1270 oZ
            have r1389 := R10.alloc r1269 oZ
            have r1390 := R4.new ((U.alloc oS).alloc oE) b1268.size
            refine app3 r1388 b1387.size (hrU.below b1387) hk hl6 fun p1391 c1392 X1393 r1394 b1395 k1396 => ?_
            have b1397 := b1387.trans b1395
            have r1398 := k1396.r4 r1390
            have r1399 := k1396.r10 r1389
            refine app5 r1394 r1398 b1397.size hl6 fun p1400 c1401 X1402 r1403 b1404 k1405 => ?_
            have b1406 := b1397.trans b1404
            have r1407 := k1405 r1399
            refine Calls.mono (Read_s hW (hGV _ (hd.trans (b1406.mono hd.size))).bnd (own_read r1403).1 (own_read r1403).2 hl61) ?_
            rintro e X1408 ⟨v, rfl, vs, en, rfl, b1409, s1410, hen, _⟩
            obtain rfl := hen hno
            have b1411 := b1406.trans (b1409.mono b1406.size)
            have r1412 := r1407.below b1409
            refine put_sys r1412.1 zero_len s1410.len s1410.one fun Y gY fY sY => ?_
            exact ⟨(), ⟨.cons rfl (.cons rfl (.cons rfl (.cons rfl .nil))), rfl⟩, fin _ _ Y b1411 r1412.2 gY⟩
          · refine app3 r1270 b1268.size (hrU.below b1268) hk hl6 fun p1413 c1414 X1415 r1416 b1417 k1418 => ?_
            have b1419 := b1268.trans b1417
            have r1420 := k1418.r10 r1269
            refine ⟨⟨by decide, by decide, rfl⟩, [u8 0], rfl, ?_⟩
            have b1421 : Below U.heap.size U (X1415.alloc oZ) := b1419.alloc b1419.size _
            have r1422 := OwnS.alloc r1416 oZ
            have r1423 := R10.alloc r1420 oZ
            have r1424 := R4.new X1415 b1419.size
            refine app5 r1422 r1424 b1421.size hl6 fun p1425 c1426 X1427 r1428 b1429 k1430 => ?_
            have b1431 := b1421.trans b1429
            have r1432 := k1430 r1423
            refine Calls.mono (Read_s hW (hGV _ (hd.trans (b1431.mono hd.size))).bnd (own_read r1428).1 (own_read r1428).2 hl61) ?_
            rintro e X1433 ⟨v, rfl, vs, en, rfl, b1434, s1435, hen, _⟩
            obtain rfl := hen hno
            have b1436 := b1431.trans (b1434.mono b1431.size)
            have r1437 := r1432.below b1434
            refine put_sys r1437.1 zero_len s1435.len s1435.one fun Y gY fY sY => ?_
            exact ⟨(), ⟨.cons rfl (.cons rfl (.cons rfl (.cons rfl .nil))), rfl⟩, fin _ _ Y b1436 r1437.2 gY⟩
      · refine ⟨⟨by decide, by decide, rfl⟩, [u8 0], rfl, ?_⟩
        have b1438 : Below U.heap.size U ((U.alloc oS).alloc oZ) := b1266.alloc b1266.size _
        have r1439 := R10.alloc r1267 oZ
        have r1440 := R4.new (U.alloc oS) b1266.size
        refine And.intro ?_ ?_
        · refine ⟨⟨by decide, by decide, rfl⟩, [], rfl, ?_⟩
          have b1441 : Below U.heap.size U (((U.alloc oS).alloc oZ).alloc oE) := b1438.alloc b1438.size _
          have r1442 := R4.alloc r1440 oE
          have r1443 := R10.alloc r1439 oE
          have r1444 := R1.new ((U.alloc oS).alloc oZ) b1438.size
          refine And.intro ?_ ?_
          · refine app3 r1444 b1441.size (hrU.below b1441) hk hl6 fun p1445 c1446 X1447 r1448 b1449 k1450 => ?_
            have b1451 := b1441.trans b1449
            have r1452 := k1450.r4 r1442
            have r1453 := k1450.r10 r1443
            refine And.intro ?_ ?_
            · refine app5 r1448 r1452 b1451.size hl6 fun p1454 c1455 X1456 r1457 b1458 k1459 => ?_
              have b1460 := b1451.trans b1458
              have r1461 := k1459 r1453
              refine ⟨wv, hlw, cells_block (block_below b1460 f0U), hlt (block_below b1460 f0U), ?_⟩
              refine Calls.mono (Read_s hW (hGV _ (hd.trans (b1460.mono hd.size))).bnd (own_read r1457).1 (own_read r1457).2 hl61) ?_
              rintro e X1462 ⟨v, rfl, vs, en, rfl, b1463, s1464, hen, _⟩
              obtain rfl := hen hno
              have b1465 := b1460.trans (b1463.mono b1460.size)
              have r1466 := r1461.below b1463
              refine put_sys r1466.1 zero_len s1464.len s1464.one fun Y gY fY sY => ?_
              exact ⟨(), ⟨.cons rfl (.cons rfl (.cons rfl (.cons rfl .nil))), rfl⟩, fin _ _ Y b1465 r1466.2 gY⟩
            · refine ⟨wv, hlw, cells_block (block_below b1451 f0U), hlt (block_below b1451 f0U), ?_⟩
              refine app5 r1448 r1452 b1451.size hl6 fun p1467 c1468 X1469 r1470 b1471 k1472 => ?_
              have b1473 := b1451.trans b1471
              have r1474 := k1472 r1453
              refine Calls.mono (Read_s hW (hGV _ (hd.trans (b1473.mono hd.size))).bnd (own_read r1470).1 (own_read r1470).2 hl61) ?_
              rintro e X1475 ⟨v, rfl, vs, en, rfl, b1476, s1477, hen, _⟩
              obtain rfl := hen hno
              have b1478 := b1473.trans (b1476.mono b1473.size)
              have r1479 := r1474.below b1476
              refine put_sys r1479.1 zero_len s1477.len s1477.one fun Y gY fY sY => ?_
              exact ⟨(), ⟨.cons rfl (.cons rfl (.cons rfl (.cons rfl .nil))), rfl⟩, fin _ _ Y b1478 r1479.2 gY⟩
          · refine ⟨wv, hlw, cells_block (block_below b1441 f0U), hlt (block_below b1441 f0U), ?_⟩
            refine app3 r1444 b1441.size (hrU.below b1441) hk hl6 fun p1480 c1481 X1482 r1483 b1484 k1485 => ?_
            have b1486 := b1441.trans b1484
            have r1487 := k1485.r4 r1442
            have r1488 := k1485.r10 r1443
            refine app5 r1483 r1487 b1486.size hl6 fun p1489 c1490 X1491 r1492 b1493 k1494 => ?_
            have b1495 := b1486.trans b1493
            have r1496 := k1494 r1488
            refine Calls.mono (Read_s hW (hGV _ (hd.trans (b1495.mono hd.size))).bnd (own_read r1492).1 (own_read r1492).2 hl61) ?_
            rintro e X1497 ⟨v, rfl, vs, en, rfl, b1498, s1499, hen, _⟩
            obtain rfl := hen hno
            have b1500 := b1495.trans (b1498.mono b1495.size)
            have r1501 := r1496.below b1498
            refine put_sys r1501.1 zero_len s1499.len s1499.one fun Y gY fY sY => ?_
            exact ⟨(), ⟨.cons rfl (.cons rfl (.cons rfl (.cons rfl .nil))), rfl⟩, fin _ _ Y b1500 r1501.2 gY⟩
        · refine ⟨wv, hlw, cells_block (block_below b1438 f0U), hlt (block_below b1438 f0U), ?_⟩
          refine ⟨⟨by decide, by decide, rfl⟩, [], rfl, ?_⟩
          have b1502 : Below U.heap.size U (((U.alloc oS).alloc oZ).alloc oE) := b1438.alloc b1438.size _
          have r1503 := R4.alloc r1440 oE
          have r1504 := R10.alloc r1439 oE
          have r1505 := R1.new ((U.alloc oS).alloc oZ) b1438.size
          refine app3 r1505 b1502.size (hrU.below b1502) hk hl6 fun p1506 c1507 X1508 r1509 b1510 k1511 => ?_
          have b1512 := b1502.trans b1510
          have r1513 := k1511.r4 r1503
          have r1514 := k1511.r10 r1504
          refine app5 r1509 r1513 b1512.size hl6 fun p1515 c1516 X1517 r1518 b1519 k1520 => ?_
          have b1521 := b1512.trans b1519
          have r1522 := k1520 r1514
          refine Calls.mono (Read_s hW (hGV _ (hd.trans (b1521.mono hd.size))).bnd (own_read r1518).1 (own_read r1518).2 hl61) ?_
          rintro e X1523 ⟨v, rfl, vs, en, rfl, b1524, s1525, hen, _⟩
          obtain rfl := hen hno
          have b1526 := b1521.trans (b1524.mono b1521.size)
          have r1527 := r1522.below b1524
          refine put_sys r1527.1 zero_len s1525.len s1525.one fun Y gY fY sY => ?_
          exact ⟨(), ⟨.cons rfl (.cons rfl (.cons rfl (.cons rfl .nil))), rfl⟩, fin _ _ Y b1526 r1527.2 gY⟩
      · refine ⟨wv, hlw, cells_block (block_below b1266 f0U), hlt (block_below b1266 f0U), ?_⟩
        refine And.intro ?_ ?_
        · refine ⟨⟨by decide, by decide, rfl⟩, [], rfl, ?_⟩
          have b1528 : Below U.heap.size U ((U.alloc oS).alloc oE) := b1266.alloc b1266.size _
          have r1529 := R10.alloc r1267 oE
          have r1530 := R1.new (U.alloc oS) b1266.size
          refine And.intro ?_ ?_
          · refine ⟨⟨by decide, by decide, rfl⟩, [u8 0], rfl, ?_⟩
            have b1531 : Below U.heap.size U (((U.alloc oS).alloc oE).alloc oZ) := b1528.alloc b1528.size _
            have r1532 := R1.alloc r1530 oZ
            have r1533 := R10.alloc r1529 oZ
            have r1534 := R4.new ((U.alloc oS).alloc oE) b1528.size
            refine app3 r1532 b1531.size (hrU.below b1531) hk hl6 fun p1535 c1536 X1537 r1538 b1539 k1540 => ?_
            have b1541 := b1531.trans b1539
            have r1542 := k1540.r4 r1534
            have r1543 := k1540.r10 r1533
            refine app5 r1538 r1542 b1541.size hl6 fun p1544 c1545 X1546 r1547 b1548 k1549 => ?_
            have b1550 := b1541.trans b1548
            have r1551 := k1549 r1543
            refine Calls.mono (Read_s hW (hGV _ (hd.trans (b1550.mono hd.size))).bnd (own_read r1547).1 (own_read r1547).2 hl61) ?_
            rintro e X1552 ⟨v, rfl, vs, en, rfl, b1553, s1554, hen, _⟩
            obtain rfl := hen hno
            have b1555 := b1550.trans (b1553.mono b1550.size)
            have r1556 := r1551.below b1553
            refine put_sys r1556.1 zero_len s1554.len s1554.one fun Y gY fY sY => ?_
            exact ⟨(), ⟨.cons rfl (.cons rfl (.cons rfl (.cons rfl .nil))), rfl⟩, fin _ _ Y b1555 r1556.2 gY⟩
          · refine app3 r1530 b1528.size (hrU.below b1528) hk hl6 fun p1557 c1558 X1559 r1560 b1561 k1562 => ?_
            have b1563 := b1528.trans b1561
            have r1564 := k1562.r10 r1529
            refine ⟨⟨by decide, by decide, rfl⟩, [u8 0], rfl, ?_⟩
            have b1565 : Below U.heap.size U (X1559.alloc oZ) := b1563.alloc b1563.size _
            have r1566 := OwnS.alloc r1560 oZ
            have r1567 := R10.alloc r1564 oZ
            have r1568 := R4.new X1559 b1563.size
            refine app5 r1566 r1568 b1565.size hl6 fun p1569 c1570 X1571 r1572 b1573 k1574 => ?_
            have b1575 := b1565.trans b1573
            have r1576 := k1574 r1567
            refine Calls.mono (Read_s hW (hGV _ (hd.trans (b1575.mono hd.size))).bnd (own_read r1572).1 (own_read r1572).2 hl61) ?_
            rintro e X1577 ⟨v, rfl, vs, en, rfl, b1578, s1579, hen, _⟩
            obtain rfl := hen hno
            have b1580 := b1575.trans (b1578.mono b1575.size)
            have r1581 := r1576.below b1578
            refine put_sys r1581.1 zero_len s1579.len s1579.one fun Y gY fY sY => ?_
            exact ⟨(), ⟨.cons rfl (.cons rfl (.cons rfl (.cons rfl .nil))), rfl⟩, fin _ _ Y b1580 r1581.2 gY⟩
        · refine ⟨⟨by decide, by decide, rfl⟩, [u8 0], rfl, ?_⟩
          have b1582 : Below U.heap.size U ((U.alloc oS).alloc oZ) := b1266.alloc b1266.size _
          have r1583 := R10.alloc r1267 oZ
          have r1584 := R4.new (U.alloc oS) b1266.size
          refine ⟨⟨by decide, by decide, rfl⟩, [], rfl, ?_⟩
          have b1585 : Below U.heap.size U (((U.alloc oS).alloc oZ).alloc oE) := b1582.alloc b1582.size _
          have r1586 := R4.alloc r1584 oE
          have r1587 := R10.alloc r1583 oE
          have r1588 := R1.new ((U.alloc oS).alloc oZ) b1582.size
          refine app3 r1588 b1585.size (hrU.below b1585) hk hl6 fun p1589 c1590 X1591 r1592 b1593 k1594 => ?_
          have b1595 := b1585.trans b1593
          have r1596 := k1594.r4 r1586
          have r1597 := k1594.r10 r1587
          refine app5 r1592 r1596 b1595.size hl6 fun p1598 c1599 X1600 r1601 b1602 k1603 => ?_
          have b1604 := b1595.trans b1602
          have r1605 := k1603 r1597
          refine Calls.mono (Read_s hW (hGV _ (hd.trans (b1604.mono hd.size))).bnd (own_read r1601).1 (own_read r1601).2 hl61) ?_
          rintro e X1606 ⟨v, rfl, vs, en, rfl, b1607, s1608, hen, _⟩
          obtain rfl := hen hno
          have b1609 := b1604.trans (b1607.mono b1604.size)
          have r1610 := r1605.below b1607
          refine put_sys r1610.1 zero_len s1608.len s1608.one fun Y gY fY sY => ?_
          exact ⟨(), ⟨.cons rfl (.cons rfl (.cons rfl (.cons rfl .nil))), rfl⟩, fin _ _ Y b1609 r1610.2 gY⟩
    · refine ⟨wv, hlw, cells_block (block_below hbU f0U), hlt (block_below hbU f0U), ?_⟩
      refine And.intro ?_ (And.intro ?_ ?_)
      · refine ⟨⟨by decide, by decide, rfl⟩, [], rfl, ?_⟩
        have b1611 : Below U.heap.size U (U.alloc oE) := hbU.alloc hbU.size _
        have r1612 := R1.new U hbU.size
        refine And.intro ?_ (And.intro ?_ ?_)
        · refine ⟨⟨by decide, by decide, rfl⟩, [u8 0], rfl, ?_⟩
          have b1613 : Below U.heap.size U ((U.alloc oE).alloc oZ) := b1611.alloc b1611.size _
          have r1614 := R1.alloc r1612 oZ
          have r1615 := R4.new (U.alloc oE) b1611.size
          refine And.intro ?_ ?_
          · have b1616 : Below U.heap.size U (((U.alloc oE).alloc oZ).alloc oS) := b1613.alloc b1613.size _
            have r1617 := R1.alloc r1614 oS
            have r1618 := R4.alloc r1615 oS
            have r1619 := R10.new ((U.alloc oE).alloc oZ) b1613.size
            refine app3 r1617 b1616.size (hrU.below b1616) hk hl6 fun p1620 c1621 X1622 r1623 b1624 k1625 => ?_
            have b1626 := b1616.trans b1624
            have r1627 := k1625.r4 r1618
            have r1628 := k1625.r10 r1619
            refine app5 r1623 r1627 b1626.size hl6 fun p1629 c1630 X1631 r1632 b1633 k1634 => ?_
            have b1635 := b1626.trans b1633
            have r1636 := k1634 r1628
            refine Calls.mono (Read_s hW (hGV _ (hd.trans (b1635.mono hd.size))).bnd (own_read r1632).1 (own_read r1632).2 hl61) ?_
            rintro e X1637 ⟨v, rfl, vs, en, rfl, b1638, s1639, hen, _⟩
            obtain rfl := hen hno
            have b1640 := b1635.trans (b1638.mono b1635.size)
            have r1641 := r1636.below b1638
            refine put_sys r1641.1 zero_len s1639.len s1639.one fun Y gY fY sY => ?_
            exact ⟨(), ⟨.cons rfl (.cons rfl (.cons rfl (.cons rfl .nil))), rfl⟩, fin _ _ Y b1640 r1641.2 gY⟩
          · refine app3 r1614 b1613.size (hrU.below b1613) hk hl6 fun p1642 c1643 X1644 r1645 b1646 k1647 => ?_
            have b1648 := b1613.trans b1646
            have r1649 := k1647.r4 r1615
            refine And.intro ?_ ?_
            · have b1650 : Below U.heap.size U (X1644.alloc oS) := b1648.alloc b1648.size _
              have r1651 := OwnS.alloc r1645 oS
              have r1652 := R4.alloc r1649 oS
              have r1653 := R10.new X1644 b1648.size
              refine app5 r1651 r1652 b1650.size hl6 fun p1654 c1655 X1656 r1657 b1658 k1659 => ?_
              have b1660 := b1650.trans b1658
              have r1661 := k1659 r1653
              refine Calls.mono (Read_s hW (hGV _ (hd.trans (b1660.mono hd.size))).bnd (own_read r1657).1 (own_read r1657).2 hl61) ?_
              rintro e X1662 ⟨v, rfl, vs, en, rfl, b1663, s1664, hen, _⟩
              obtain rfl := hen hno
              have b1665 := b1660.trans (b1663.mono b1660.size)
              have r1666 := r1661.below b1663
              refine put_sys r1666.1 zero_len s1664.len s1664.one fun Y gY fY sY => ?_
              exact ⟨(), ⟨.cons rfl (.cons rfl (.cons rfl (.cons rfl .nil))), rfl⟩, fin _ _ Y b1665 r1666.2 gY⟩
            · refine app5 r1645 r1649 b1648.size hl6 fun p1667 c1668 X1669 r1670 b1671 k1672 => ?_
              have b1673 := b1648.trans b1671
              refine And.intro ?_ ?_
              · have b1674 : Below U.heap.size U (X1669.alloc oS) := b1673.alloc b1673.size _
                have r1675 := OwnS.alloc r1670 oS
                have r1676 := R10.new X1669 b1673.size
                refine Calls.mono (Read_s hW (hGV _ (hd.trans (b1674.mono hd.size))).bnd (own_read r1675).1 (own_read r1675).2 hl61) ?_
                rintro e X1677 ⟨v, rfl, vs, en, rfl, b1678, s1679, hen, _⟩
                obtain rfl := hen hno
                have b1680 := b1674.trans (b1678.mono b1674.size)
                have r1681 := r1676.below b1678
                refine put_sys r1681.1 zero_len s1679.len s1679.one fun Y gY fY sY => ?_
                exact ⟨(), ⟨.cons rfl (.cons rfl (.cons rfl (.cons rfl .nil))), rfl⟩, fin _ _ Y b1680 r1681.2 gY⟩
              · refine Calls.mono (Read_s hW (hGV _ (hd.trans (b1673.mono hd.size))).bnd (own_read r1670).1 (own_read r1670).2 hl61) ?_
                rintro e X1682 ⟨v, rfl, vs, en, rfl, b1683, s1684, hen, _⟩
                obtain rfl := hen hno
                have b1685 := b1673.trans (b1683.mono b1673.size)
                have b1686 : Below U.heap.size U (X1682.alloc oS) := b1685.alloc b1685.size _
                have r1687 := R10.new X1682 b1685.size
                refine put_sys r1687.1 zero_len s1684.len s1684.one fun Y gY fY sY => ?_
                exact ⟨(), ⟨.cons rfl (.cons rfl (.cons rfl (.cons rfl .nil))), rfl⟩, fin _ _ Y b1686 r1687.2 gY⟩
        · have b1688 : Below U.heap.size U ((U.alloc oE).alloc oS) := b1611.alloc b1611.size _
          have r1689 := R1.alloc r1612 oS
          have r1690 := R10.new (U.alloc oE) b1611.size
          refine And.intro ?_ ?_
          · refine ⟨⟨by decide, by decide, rfl⟩, [u8 0], rfl, ?_⟩
            have b1691 : Below U.heap.size U (((U.alloc oE).alloc oS).alloc oZ) := b1688.alloc b1688.size _
            have r1692 := R1.alloc r1689 oZ
            have r1693 := R10.alloc r1690 oZ
            have r1694 := R4.new ((U.alloc oE).alloc oS) b1688.size
            refine app3 r1692 b1691.size (hrU.below b1691) hk hl6 fun p1695 c1696 X1697 r1698 b1699 k1700 => ?_
            have b1701 := b1691.trans b1699
            have r1702 := k1700.r4 r1694
            have r1703 := k1700.r10 r1693
            refine app5 r1698 r1702 b1701.size hl6 fun p1704 c1705 X1706 r1707 b1708 k1709 => ?_
            have b1710 := b1701.trans b1708
            have r1711 := k1709 r1703
            refine Calls.mono (Read_s hW (hGV _ (hd.trans (b1710.mono hd.size))).bnd (own_read r1707).1 (own_read r1707).2 hl61) ?_
            rintro e X1712 ⟨v, rfl, vs, en, rfl, b1713, s1714, hen, _⟩
            obtain rfl := hen hno
            have b1715 := b1710.trans (b1713.mono b1710.size)
            have r1716 := r1711.below b1713
            refine put_sys r1716.1 zero_len s1714.len s1714.one fun Y gY fY sY => ?_
            exact ⟨(), ⟨.cons rfl (.cons rfl (.cons rfl (.cons rfl .nil))), rfl⟩, fin _ _ Y b1715 r1716.2 gY⟩
          · refine app3 r1689 b1688.size (hrU.below b1688) hk hl6 fun p1717 c1718 X1719 r1720 b1721 k1722 => ?_
            have b1723 := b1688.trans b1721
            have r1724 := k1722.r10 r1690
            refine ⟨⟨by decide, by decide, rfl⟩, [u8 0], rfl, ?_⟩
            have b1725 : Below U.heap.size U (X1719.alloc oZ) := b1723.alloc b1723.size _
            have r1726 := OwnS.alloc r1720 oZ
            have r1727 := R10.alloc r1724 oZ
            have r1728 := R4.new X1719 b1723.size
            refine app5 r1726 r1728 b1725.size hl6 fun p1729 c1730 X1731 r1732 b1733 k1734 => ?_
            have b1735 := b1725.trans b1733
            have r1736 := k1734 r1727
            refine Calls.mono (Read_s hW (hGV _ (hd.trans (b1735.mono hd.size))).bnd (own_read r1732).1 (own_read r1732).2 hl61) ?_
            rintro e X1737 ⟨v, rfl, vs, en, rfl, b1738, s1739, hen, _⟩
            obtain rfl := hen hno
            have b1740 := b1735.trans (b1738.mono b1735.size)
            have r1741 := r1736.below b1738
            refine put_sys r1741.1 zero_len s1739.len s1739.one fun Y gY fY sY => ?_
            exact ⟨(), ⟨.cons rfl (.cons rfl (.cons rfl (.cons rfl .nil))), rfl⟩, fin _ _ Y b1740 r1741.2 gY⟩
        · refine app3 r1612 b1611.size (hrU.below b1611) hk hl6 fun p1742 c1743 X1744 r1745 b1746 k1747 => ?_
          have b1748 := b1611.trans b1746
          refine And.intro ?_ ?_
          · refine ⟨⟨by decide, by decide, rfl⟩, [u8 0], rfl, ?_⟩
            have b1749 : Below U.heap.size U (X1744.alloc oZ) := b1748.alloc b1748.size _
            have r1750 := OwnS.alloc r1745 oZ
            have r1751 := R4.new X1744 b1748.size
            refine And.intro ?_ ?_
            · have b1752 : Below U.heap.size U ((X1744.alloc oZ).alloc oS) := b1749.alloc b1749.size _
              have r1753 := OwnS.alloc r1750 oS
              have r1754 := R4.alloc r1751 oS
              have r1755 := R10.new (X1744.alloc oZ) b1749.size
              refine app5 r1753 r1754 b1752.size hl6 fun p1756 c1757 X1758 r1759 b1760 k1761 => ?_
              have b1762 := b1752.trans b1760
              have r1763 := k1761 r1755
              refine Calls.mono (Read_s hW (hGV _ (hd.trans (b1762.mono hd.size))).bnd (own_read r1759).1 (own_read r1759).2 hl61) ?_
              rintro e X1764 ⟨v, rfl, vs, en, rfl, b1765, s1766, hen, _⟩
              obtain rfl := hen hno
              have b1767 := b1762.trans (b1765.mono b1762.size)
              have r1768 := r1763.below b1765
              refine put_sys r1768.1 zero_len s1766.len s1766.one fun Y gY fY sY => ?_
              exact ⟨(), ⟨.cons rfl (.cons rfl (.cons rfl (.cons rfl .nil))), rfl⟩, fin _ _ Y b1767 r1768.2 gY⟩
            · refine app5 r1750 r1751 b1749.size hl6 fun p1769 c1770 X1771 r1772 b1773 k1774 => ?_
              have b1775 := b1749.trans b1773
              refine And.intro ?_ ?_
              · have b1776 : Below U.heap.size U (X1771.alloc oS) := b1775.alloc b1775.size _
                have r1777 := OwnS.alloc r1772 oS
                have r1778 := R10.new X1771 b1775.size
                refine Calls.mono (Read_s hW (hGV _ (hd.trans (b1776.mono hd.size))).bnd (own_read r1777).1 (own_read r1777).2 hl61) ?_
                rintro e X1779 ⟨v, rfl, vs, en, rfl, b1780, s1781, hen, _⟩
                obtain rfl := hen hno
                have b1782 := b1776.trans (b1780.mono b1776.size)
                have r1783 := r1778.below b1780
                refine put_sys r1783.1 zero_len s1781.len s1781.one fun Y gY fY sY => ?_
                exact ⟨(), ⟨.cons rfl (.cons rfl (.cons rfl (.cons rfl .nil))), rfl⟩, fin _ _ Y b1782 r1783.2 gY⟩
              · refine Calls.mono (Read_s hW (hGV _ (hd.trans (b1775.mono hd.size))).bnd (own_read r1772).1 (own_read r1772).2 hl61) ?_
                rintro e X1784 ⟨v, rfl, vs, en, rfl, b1785, s1786, hen, _⟩
                obtain rfl := hen hno
                have b1787 := b1775.trans (b1785.mono b1775.size)
                have b1788 : Below U.heap.size U (X1784.alloc oS) := b1787.alloc b1787.size _
                have r1789 := R10.new X1784 b1787.size
                refine put_sys r1789.1 zero_len s1786.len s1786.one fun Y gY fY sY => ?_
                exact ⟨(), ⟨.cons rfl (.cons rfl (.cons rfl (.cons rfl .nil))), rfl⟩, fin _ _ Y b1788 r1789.2 gY⟩
          · have b1790 : Below U.heap.size U (X1744.alloc oS) := b1748.alloc b1748.size _
            have r1791 := OwnS.alloc r1745 oS
            have r1792 := R10.new X1744 b1748.size
            refine ⟨⟨by decide, by decide, rfl⟩, [u8 0], rfl, ?_⟩
            have b1793 : Below U.heap.size U ((X1744.alloc oS).alloc oZ) := b1790.alloc b1790.size _
            have r1794 := OwnS.alloc r1791 oZ
            have r1795 := R10.alloc r1792 oZ
            have r1796 := R4.new (X1744.alloc oS) b1790.size
            refine app5 r1794 r1796 b1793.size hl6 fun p1797 c1798 X1799 r1800 b1801 k1802 => ?_
            have b1803 := b1793.trans b1801
            have r1804 := k1802 r1795
            refine Calls.mono (Read_s hW (hGV _ (hd.trans (b1803.mono hd.size))).bnd (own_read r1800).1 (own_read r1800).2 hl61) ?_
            rintro e X1805 ⟨v, rfl, vs, en, rfl, b1806, s1807, hen, _⟩
            obtain rfl := hen hno
            have b1808 := b1803.trans (b1806.mono b1803.size)
            have r1809 := r1804.below b1806
            refine put_sys r1809.1 zero_len s1807.len s1807.one fun Y gY fY sY => ?_
            exact ⟨(), ⟨.cons rfl (.cons rfl (.cons rfl (.cons rfl .nil))), rfl⟩, fin _ _ Y b1808 r1809.2 gY⟩
      · refine ⟨⟨by decide, by decide, rfl⟩, [u8 0], rfl, ?_⟩
        have b1810 : Below U.heap.size U (U.alloc oZ) := hbU.alloc hbU.size _
        have r1811 := R4.new U hbU.size
        refine And.intro ?_ ?_
        · refine ⟨⟨by decide, by decide, rfl⟩, [], rfl, ?_⟩
          have b1812 : Below U.heap.size U ((U.alloc oZ).alloc oE) := b1810.alloc b1810.size _
          have r1813 := R4.alloc r1811 oE
          have r1814 := R1.new (U.alloc oZ) b1810.size
          refine And.intro ?_ ?_
          · have b1815 : Below U.heap.size U (((U.alloc oZ).alloc oE).alloc oS) := b1812.alloc b1812.size _
            have r1816 := R1.alloc r1814 oS
            have r1817 := R4.alloc r1813 oS
            have r1818 := R10.new ((U.alloc oZ).alloc oE) b1812.size
            refine app3 r1816 b1815.size (hrU.below b1815) hk hl6 fun p1819 c1820 X1821 r1822 b1823 k1824 => ?_
            have b1825 := b1815.trans b1823
            have r1826 := k1824.r4 r1817
            have r1827 := k1824.r10 r1818
            refine app5 r1822 r1826 b1825.size hl6 fun p1828 c1829 X1830 r1831 b1832 k1833 => ?_
            have b1834 := b1825.trans b1832
            have r1835 := k1833 r1827
            refine Calls.mono (Read_s hW (hGV _ (hd.trans (b1834.mono hd.size))).bnd (own_read r1831).1 (own_read r1831).2 hl61) ?_
            rintro e X1836 ⟨v, rfl, vs, en, rfl, b1837, s1838, hen, _⟩
            obtain rfl := hen hno
            have b1839 := b1834.trans (b1837.mono b1834.size)
            have r1840 := r1835.below b1837
            refine put_sys r1840.1 zero_len s1838.len s1838.one fun Y gY fY sY => ?_
            exact ⟨(), ⟨.cons rfl (.cons rfl (.cons rfl (.cons rfl .nil))), rfl⟩, fin _ _ Y b1839 r1840.2 gY⟩
          · refine app3 r1814 b1812.size (hrU.below b1812) hk hl6 fun p1841 c1842 X1843 r1844 b1845 k1846 => ?_
            have b1847 := b1812.trans b1845
            have r1848 := k1846.r4 r1813
            refine And.intro ?_ ?_
            · have b1849 : Below U.heap.size U (X1843.alloc oS) := b1847.alloc b1847.size _
              have r1850 := OwnS.alloc r1844 oS
              have r1851 := R4.alloc r1848 oS
              have r1852 := R10.new X1843 b1847.size
              refine app5 r1850 r1851 b1849.size hl6 fun p1853 c1854 X1855 r1856 b1857 k1858 => ?_
              have b1859 := b1849.trans b1857
              have r1860 := k1858 r1852
              refine Calls.mono (Read_s hW (hGV _ (hd.trans (b1859.mono hd.size))).bnd (own_read r1856).1 (own_read r1856).2 hl61) ?_
              rintro e X1861 ⟨v, rfl, vs, en, rfl, b1862, s1863, hen, _⟩
              obtain rfl := hen hno
              have b1864 := b1859.trans (b1862.mono b1859.size)
              have r1865 := r1860.below b1862
              refine put_sys r1865.1 zero_len s1863.len s1863.one fun Y gY fY sY => ?_
              exact ⟨(), ⟨.cons rfl (.cons rfl (.cons rfl (.cons rfl .nil))), rfl⟩, fin _ _ Y b1864 r1865.2 gY⟩
            · refine app5 r1844 r1848 b1847.size hl6 fun p1866 c1867 X1868 r1869 b1870 k1871 => ?_
              have b1872 := b1847.trans b1870
              refine And.intro ?_ ?_
              · have b1873 : Below U.heap.size U (X1868.alloc oS) := b1872.alloc b1872.size _
                have r1874 := OwnS.alloc r1869 oS
                have r1875 := R10.new X1868 b1872.size
                refine Calls.mono (Read_s hW (hGV _ (hd.trans (b1873.mono hd.size))).bnd (own_read r1874).1 (own_read r1874).2 hl61) ?_
                rintro e X1876 ⟨v, rfl, vs, en, rfl, b1877, s1878, hen, _⟩
                obtain rfl := hen hno
                have b1879 := b1873.trans (b1877.mono b1873.size)
                have r1880 := r1875.below b1877
                refine put_sys r1880.1 zero_len s1878.len s1878.one fun Y gY fY sY => ?_
                exact ⟨(), ⟨.cons rfl (.cons rfl (.cons rfl (.cons rfl .nil))), rfl⟩, fin _ _ Y b1879 r1880.2 gY⟩
              · refine Calls.mono (Read_s hW (hGV _ (hd.trans (b1872.mono hd.size))).bnd (own_read r1869).1 (own_read r1869).2 hl61) ?_
                rintro e X1881 ⟨v, rfl, vs, en, rfl, b1882, s1883, hen, _⟩
                obtain rfl := hen hno
                have b1884 := b1872.trans (b1882.mono b1872.size)
                have b1885 : Below U.heap.size U (X1881.alloc oS) := b1884.alloc b1884.size _
                have r1886 := R10.new X1881 b1884.size
                refine put_sys r1886.1 zero_len s1883.len s1883.one fun Y gY fY sY => ?_
                exact ⟨(), ⟨.cons rfl (.cons rfl (.cons rfl (.cons rfl .nil))), rfl⟩, fin _ _ Y b1885 r1886.2 gY⟩
        · have b1887 : Below U.heap.size U ((U.alloc oZ).alloc oS) := b1810.alloc b1810.size _
          have r1888 := R4.alloc r1811 oS
          have r1889 := R10.new (U.alloc oZ) b1810.size
          refine ⟨⟨by decide, by decide, rfl⟩, [], rfl, ?_⟩
          have b1890 : Below U.heap.size U (((U.alloc oZ).alloc oS).alloc oE) := b1887.alloc b1887.size _
          have r1891 := R4.alloc r1888 oE
          have r1892 := R10.alloc r1889 oE
          have r1893 := R1.new ((U.alloc oZ).alloc oS) b1887.size
          refine app3 r1893 b1890.size (hrU.below b1890) hk hl6 fun p1894 c1895 X1896 r1897 b1898 k1899 => ?_
          have b1900 := b1890.trans b1898
          have r1901 := k1899.r4 r1891
          have r1902 := k1899.r10 r1892
          refine app5 r1897 r1901 b1900.size hl6 fun p1903 c1904 X1905 r1906 b1907 k1908 => ?_
          have b1909 := b1900.trans b1907
          have r1910 := k1908 r1902
          refine Calls.mono (Read_s hW (hGV _ (hd.trans (b1909.mono hd.size))).bnd (own_read r1906).1 (own_read r1906).2 hl61) ?_
          rintro e X1911 ⟨v, rfl, vs, en, rfl, b1912, s1913, hen, _⟩
          obtain rfl := hen hno
          have b1914 := b1909.trans (b1912.mono b1909.size)
          have r1915 := r1910.below b1912
          refine put_sys r1915.1 zero_len s1913.len s1913.one fun Y gY fY sY => ?_
          exact ⟨(), ⟨.cons rfl (.cons rfl (.cons rfl (.cons rfl .nil))), rfl⟩, fin _ _ Y b1914 r1915.2 gY⟩
      · have b1916 : Below U.heap.size U (U.alloc oS) := hbU.alloc hbU.size _
        have r1917 := R10.new U hbU.size
        refine And.intro ?_ ?_
        · refine ⟨⟨by decide, by decide, rfl⟩, [], rfl, ?_⟩
          have b1918 : Below U.heap.size U ((U.alloc oS).alloc oE) := b1916.alloc b1916.size _
          have r1919 := R10.alloc r1917 oE
          have r1920 := R1.new (U.alloc oS) b1916.size
          refine And.intro ?_ ?_
          · refine ⟨⟨by decide, by decide, rfl⟩, [u8 0], rfl, ?_⟩
            have b1921 : Below U.heap.size U (((U.alloc oS).alloc oE).alloc oZ) := b1918.alloc b1918.size _
            have r1922 := R1.alloc r1920 oZ
            have r1923 := R10.alloc r1919 oZ
            have r1924 := R4.new ((U.alloc oS).alloc oE) b1918.size
            refine app3 r1922 b1921.size (hrU.below b1921) hk hl6 fun p1925 c1926 X1927 r1928 b1929 k1930 => ?_
            have b1931 := b1921.trans b1929
            have r1932 := k1930.r4 r1924
            have r1933 := k1930.r10 r1923
            refine app5 r1928 r1932 b1931.size hl6 fun p1934 c1935 X1936 r1937 b1938 k1939 => ?_
            have b1940 := b1931.trans b1938
            have r1941 := k1939 r1933
            refine Calls.mono (Read_s hW (hGV _ (hd.trans (b1940.mono hd.size))).bnd (own_read r1937).1 (own_read r1937).2 hl61) ?_
            rintro e X1942 ⟨v, rfl, vs, en, rfl, b1943, s1944, hen, _⟩
            obtain rfl := hen hno
            have b1945 := b1940.trans (b1943.mono b1940.size)
            have r1946 := r1941.below b1943
            refine put_sys r1946.1 zero_len s1944.len s1944.one fun Y gY fY sY => ?_
            exact ⟨(), ⟨.cons rfl (.cons rfl (.cons rfl (.cons rfl .nil))), rfl⟩, fin _ _ Y b1945 r1946.2 gY⟩
          · refine app3 r1920 b1918.size (hrU.below b1918) hk hl6 fun p1947 c1948 X1949 r1950 b1951 k1952 => ?_
            have b1953 := b1918.trans b1951
            have r1954 := k1952.r10 r1919
            refine ⟨⟨by decide, by decide, rfl⟩, [u8 0], rfl, ?_⟩
            have b1955 : Below U.heap.size U (X1949.alloc oZ) := b1953.alloc b1953.size _
            have r1956 := OwnS.alloc r1950 oZ
            have r1957 := R10.alloc r1954 oZ
            have r1958 := R4.new X1949 b1953.size
            refine app5 r1956 r1958 b1955.size hl6 fun p1959 c1960 X1961 r1962 b1963 k1964 => ?_
            have b1965 := b1955.trans b1963
            have r1966 := k1964 r1957
            refine Calls.mono (Read_s hW (hGV _ (hd.trans (b1965.mono hd.size))).bnd (own_read r1962).1 (own_read r1962).2 hl61) ?_
            rintro e X1967 ⟨v, rfl, vs, en, rfl, b1968, s1969, hen, _⟩
            obtain rfl := hen hno
            have b1970 := b1965.trans (b1968.mono b1965.size)
            have r1971 := r1966.below b1968
            refine put_sys r1971.1 zero_len s1969.len s1969.one fun Y gY fY sY => ?_
            exact ⟨(), ⟨.cons rfl (.cons rfl (.cons rfl (.cons rfl .nil))), rfl⟩, fin _ _ Y b1970 r1971.2 gY⟩
        · refine ⟨⟨by decide, by decide, rfl⟩, [u8 0], rfl, ?_⟩
          have b1972 : Below U.heap.size U ((U.alloc oS).alloc oZ) := b1916.alloc b1916.size _
          have r1973 := R10.alloc r1917 oZ
          have r1974 := R4.new (U.alloc oS) b1916.size
          refine ⟨⟨by decide, by decide, rfl⟩, [], rfl, ?_⟩
          have b1975 : Below U.heap.size U (((U.alloc oS).alloc oZ).alloc oE) := b1972.alloc b1972.size _
          have r1976 := R4.alloc r1974 oE
          have r1977 := R10.alloc r1973 oE
          have r1978 := R1.new ((U.alloc oS).alloc oZ) b1972.size
          refine app3 r1978 b1975.size (hrU.below b1975) hk hl6 fun p1979 c1980 X1981 r1982 b1983 k1984 => ?_
          have b1985 := b1975.trans b1983
          have r1986 := k1984.r4 r1976
          have r1987 := k1984.r10 r1977
          refine app5 r1982 r1986 b1985.size hl6 fun p1988 c1989 X1990 r1991 b1992 k1993 => ?_
          have b1994 := b1985.trans b1992
          have r1995 := k1993 r1987
          refine Calls.mono (Read_s hW (hGV _ (hd.trans (b1994.mono hd.size))).bnd (own_read r1991).1 (own_read r1991).2 hl61) ?_
          rintro e X1996 ⟨v, rfl, vs, en, rfl, b1997, s1998, hen, _⟩
          obtain rfl := hen hno
          have b1999 := b1994.trans (b1997.mono b1994.size)
          have r2000 := r1995.below b1997
          refine put_sys r2000.1 zero_len s1998.len s1998.one fun Y gY fY sY => ?_
          exact ⟨(), ⟨.cons rfl (.cons rfl (.cons rfl (.cons rfl .nil))), rfl⟩, fin _ _ Y b1999 r2000.2 gY⟩
  clear hbV
  rintro _ X ⟨hbX, hX⟩
  dsimp only at hbX hX ⊢
  refine ⟨Unit, fun _ => ⟨[(1, .slice p l.length cap), (2, .pointer (some ⟨w.heap.size, 0, none⟩)), (5, .pointer (some ⟨gs, 0, none⟩)), (8, .int .i64 220), (10, .int .i64 220)], []⟩, fun _ Y => Below V.heap.size V Y ∧ Below W0.heap.size W0 Y, ?_, ?_⟩
  · have hd := hX.drew
    have f0U := hdr (block_below hX f0)
    have hVU : Below V.heap.size V X.drew := hbX.drew
    have hno : readS g l.dropLast = none := enc_less hs hl0
    have hrU := hRV _ hd
    have hrd : RowB byteE X.drew.heap.size X.drew (cutBase p cap 0 1) l.dropLast := by rw [cutBase_zero, List.dropLast_eq_take]; exact hrU.take _
    refine DrawE.treeQ [11] (.op 0 (.op 1 (.op 2 (.op 3 (.op 4 (.op 5 (.alt (.op 10 (.op 6 (.op 7 (.op 8 (.op 9 (.op 11 (.op 12 .nil))))))) (.op 6 (.op 7 (.op 8 (.op 9 (.op 10 (.op 11 (.op 12 .nil)))))))))))))) (by kernel_rfl) ?_
    generalize X.drew = U at hd f0U hrU hrd hVU ⊢
    have fin : ∀ (g' : Nat) (X Y : World), Below U.heap.size U X → U.heap.size ≤ g' → X.grownBy Y (some g') → Below V.heap.size V Y ∧ Below W0.heap.size W0 Y := fun g' X Y hX hg gY => by
      have h1 := hVU.trans (hX.mono hVU.size)
      have h2 := hd.trans (hX.mono hd.size)
      refine ⟨h1.grown gY h1.size fun k e => ?_, h2.grown gY h2.size fun k e => ?_⟩
      · have := hVU.size; simp only [Option.some.injEq] at e; omega
      · have := hd.size; simp only [Option.some.injEq] at e; omega
    refine ⟨wv, hlw, cells_block f0U, hlt f0U, ?_⟩
    refine ⟨(l.length - 1 : Nat), (wrap_i64 (by omega)).trans (by omega), ?_⟩
    refine ⟨l.length - 1, rfl, by omega, ?_⟩
    have rd : ∀ Y, Below U.heap.size U Y → Calls Tryd.prog 13 #[.agg wv.toArray, .slice (cutBase p cap 0 1) (l.length - 1) (cap - 0)] Y fun e w' => ∃ v, e = .returned v ∧ ReadR g l.dropLast Y v w' := fun Y hY => by
      have := Read_s (bytes := l.dropLast) (p := cutBase p cap 0 1) (cap := cap - 0) (w := Y) hW (hGV _ (hd.trans (hY.mono hd.size))).bnd ((hrd.below hY).mono hY.size) (by rw [List.length_dropLast]; omega) (by rw [List.length_dropLast]; omega)
      rwa [List.length_dropLast] at this
    refine And.intro ?_ ?_
    · refine ⟨(Below.refl _ _).alloc (Nat.le_refl _) _, ?_⟩
      have hb : Below U.heap.size U (U.alloc oS) := (Below.refl _ _).alloc (Nat.le_refl _) _
      have r10 := R10.new U (Nat.le_refl _)
      refine Calls.mono (rd (U.alloc oS) hb) ?_
      rintro e Y ⟨v, rfl, vs2, en, rfl, hbY, hS2, hen, _⟩
      obtain rfl := hen hno
      refine ⟨hbY, ?_⟩
      have r2 := r10.below hbY
      refine put_sys r2.1 zero_len hS2.len hS2.one fun Z gZ fZ sZ => ?_
      exact ⟨(), ⟨.cons rfl (.cons rfl (.cons rfl (.cons rfl (.cons rfl .nil)))), rfl⟩, fin _ _ Z (hb.trans (hbY.mono hb.size)) r2.2 gZ⟩
    · refine Calls.mono (rd U (Below.refl _ _)) ?_
      rintro e Y ⟨v, rfl, vs2, en, rfl, hbY, hS2, hen, _⟩
      obtain rfl := hen hno
      refine ⟨hbY, ?_⟩
      have hb := hbY.alloc hbY.size oS
      have r2 := R10.new Y hbY.size
      refine ⟨(Below.refl _ _).alloc (Nat.le_refl _) _, ?_⟩
      refine put_sys r2.1 zero_len hS2.len hS2.one fun Z gZ fZ sZ => ?_
      exact ⟨(), ⟨.cons rfl (.cons rfl (.cons rfl (.cons rfl (.cons rfl .nil)))), rfl⟩, fin _ _ Z hb r2.2 gZ⟩
  clear hbX hX X
  rintro _ X ⟨hbX, hX⟩
  dsimp only at hbX hX ⊢
  have hd := hX.drew
  have f0U := hdr (block_below hX f0)
  have fsU := hdr (block_below hbX fs)
  have hSU : SysV X.drew.heap.size X.drew vs s := (hS.below hbX.drew).mono hbX.drew.size
  have hrU := (hRV _ hd).slr (Nat.le_refl _)
  refine DrawE.ord [] [0, 1, 2, 3, 4, 5, 8, 9, 6, 7, 10, 11, 12, 13, 14, 15, 16, 17, 18, 19, 20] (by kernel_rfl) ?_
  refine ⟨wv, hlw, cells_block f0U, hlt f0U, ?_⟩
  refine ⟨vs, hS.len, cells_block fsU, hlt fsU, ?_⟩
  refine Calls.mono (Fits_c hW hSU (hGV _ hd).bnd) ?_
  rintro e Y ⟨rfl, hbY⟩
  refine ⟨hbY, ?_⟩
  have hY := hd.trans (hbY.mono hd.size)
  rw [hfit]
  refine And.intro (fun _ => ?_) (fun h => by cases h)
  have f0Y := block_below hbY f0U
  have fsY := block_below hbY fsU
  refine ⟨wv, hlw, cells_block f0Y, hlt f0Y, ?_⟩
  refine ⟨vs, hS.len, cells_block fsY, hlt fsY, ?_⟩
  refine ⟨_, fun w2 hb2 => conv_arg (hrU.below hbY) w2 hb2, ?_⟩
  refine Calls.mono (Bytes_s hW ((hSU.below hbY).mono hbY.size) (hGV _ hY).bnd) ?_
  rintro e Z ⟨q, cq, rfl, ho, hbZ⟩
  refine ⟨hbZ, ?_⟩
  rw [bytes_fit hfit] at ho ⊢
  refine ⟨_, fun w2 hb2 => conv_arg ho.row w2 hb2, ?_⟩
  refine ⟨_, fun w => eql_str _ _ (encSy s) l w, ?_⟩
  rw [decide_eq_true hle.symm]
  refine And.intro (fun _ => ?_) (fun h => by cases h)
  refine And.intro (fun _ => ?_) (fun h => by cases h)
  exact ⟨rfl, hwv Z (hY.trans (hbZ.mono hY.size))⟩
end Go.Proofs.YtmfplkeenombbaaDoor
