/- Law17: msg.scan. -/
import Derived.Test.YtkekidalckflhaaDoorMg5
import Derived.Test.YtkekidalckflhaaDoorVcJ
namespace Go.Proofs.YtkekidalckflhaaDoor
open Go.Vc Go.RowKit Go.Sei

def zeroM : Msg := ⟨0, 0, 0, 0, 0, 0, false, 0, 0, 0, 0⟩
def rd (f : UInt8 → Msg → Msg) (s : Msg × Wst) : Msg × Wst := (f (num (nxt s.2).1 (nxt s.2).2).1 s.1, (num (nxt s.2).1 (nxt s.2).2).2)
def c0 (ws : List (List UInt8)) : Msg × Wst := if (skp [107, 105, 110, 100] (ws, true)).1 then rd (fun n m => { m with kind := n }) (zeroM, (skp [107, 105, 110, 100] (ws, true)).2)
  else ({ zeroM with kind := kindL (nxt (skp [107, 105, 110, 100] (ws, true)).2).1 }, (nxt (skp [107, 105, 110, 100] (ws, true)).2).2)
def c1 (s : Msg × Wst) : Msg × Wst :=
  let x := nxt s.2
  let a := num (Lib.cut x.1 [62]).1 x.2
  let b := num (Lib.cut x.1 [62]).2.1 a.2
  ({ s.1 with from_ := a.1, «to» := b.1 }, b.2)
def c2 (s : Msg × Wst) : Msg × Wst := (s.1, ((skp [108, 105, 110, 101] s.2).2.1, (skp [108, 105, 110, 101] s.2).1 && (skp [108, 105, 110, 101] s.2).2.2))
def c3 (s : Msg × Wst) : Msg × Wst := rd (fun n m => { m with line := n }) s
def opt (wd : List UInt8) (f : Msg × Wst → Msg × Wst) (s : Msg × Wst) : Msg × Wst := if (skp wd s.2).1 then f (s.1, (skp wd s.2).2) else (s.1, (skp wd s.2).2)
def c4 (s : Msg × Wst) : Msg × Wst := opt [97, 115, 107, 101, 114] (rd fun n m => { m with asker := n }) s
def c5 (s : Msg × Wst) : Msg × Wst := opt [97, 99, 107, 115] (rd fun n m => { m with acks := n }) s
def c6 (s : Msg × Wst) : Msg × Wst := ({ s.1 with alone := (skp [97, 108, 111, 110, 101] s.2).1 }, (skp [97, 108, 111, 110, 101] s.2).2)
def r0 (s : Msg × Wst) : Msg × Wst := rd (fun n m => { m with d0 := n }) s
def r1 (s : Msg × Wst) : Msg × Wst := rd (fun n m => { m with d1 := n }) s
def r2 (s : Msg × Wst) : Msg × Wst := rd (fun n m => { m with d2 := n }) s
def r3 (s : Msg × Wst) : Msg × Wst := rd (fun n m => { m with d3 := n }) s
def c7 (s : Msg × Wst) : Msg × Wst := opt [100, 97, 116, 97] (fun s => r3 (r2 (r1 (r0 s)))) s
def dat (a : Msg × Wst) : Nat → Msg × Wst
  | 0 => a
  | 1 => r0 a
  | 2 => r1 (r0 a)
  | 3 => r2 (r1 (r0 a))
  | _ => r3 (r2 (r1 (r0 a)))
def scanS (ws : List (List UInt8)) : Msg × Wst := c7 (c6 (c5 (c4 (c3 (c2 (c1 (c0 ws)))))))
def scanL (ws : List (List UInt8)) : Msg × Bool := ((scanS ws).1, (scanS ws).2.2 && decide (((scanS ws).2.1.length : Int) = 0))

theorem nxt_short {st : Wst} (h : ∀ x ∈ st.1, x.length ≤ 4294967280) : (nxt st).1.length ≤ 4294967280 := by
  unfold nxt
  split
  · simp
  · rename_i w r hs; exact h w (by rw [hs]; simp)
theorem cut_short (s sep : List UInt8) : (Lib.cut s sep).1.length ≤ s.length ∧ (Lib.cut s sep).2.1.length ≤ s.length := by
  unfold Lib.cut
  split <;> simp <;> omega
theorem drewN_below (w : World) (n : Nat) : Below w.heap.size w (w.drewN n) := ⟨rfl, rfl, rfl, Nat.le_refl _, fun _ _ => rfl⟩

section
variable {w0 V : World} {st : Wst} {m : Msg}
theorem Sc.set {T : TypeId} {iT : TI} (h : Sc w0 st m V) (hT : TIok Tryd.prog T iT) (hs : iT.size = 1) {o : Nat} {v : Value} (ho : o < 11) (hv : v.cells = #[v]) (h1 : v.oneCell' = true) (m' : Msg) (he : m.enc.take o ++ [v] ++ m.enc.drop (o + 1) = m'.enc)
    {K : World → Prop} (k : ∀ V', Sc w0 st m' V' → K V') : SatR ((storeVar T ⟨w0.heap.size + 1, o, none⟩ v).run Tryd.prog V) fun _ w' => K w' := by
  have hl := h.lt
  refine store_cell hT hs h.m (by show o < 11; exact ho) hv h1 fun V' f g z => k V' ?_
  obtain ⟨⟨p, cap, f1, hr, hc⟩, fm, fo, fn, hb, hg, hsh⟩ := h
  have hoth : ∀ j, j < V.heap.size → j ≠ w0.heap.size + 1 → V'.heap[j]? = V.heap[j]? := fun j hj hne => g.block j hj (fun e => hne (by simpa using e))
  refine ⟨⟨p, cap, (hoth _ (by omega) (by omega)).trans f1, hr, hc⟩, ?_, (hoth _ (by omega) (by omega)).trans fo, (hoth _ (by omega) (by omega)).trans fn, hb.grown g hb.size (fun j e => by simp at e; omega), hg, hsh⟩
  rw [f]
  have : m.val.cells.toList = m.enc := rfl
  rw [this, he]; rfl
theorem Sc.drew (h : Sc w0 st m V) : Sc w0 st m V.drew := h.below (Below.refl _ V).drew
theorem Sc.setM (h : Sc w0 st m V) {K : World → Prop} (k : ∀ V', Sc w0 st m V' → K V') : SatR ((storeVar 30 ⟨w0.heap.size + 1, 0, none⟩ m.val).run Tryd.prog V) fun _ w' => K w' := by
  have hl := h.lt
  obtain ⟨⟨p, cap, f1, hr, hc⟩, fm, fo, fn, hb, hg, hsh⟩ := h
  refine store_box (v := m.val) (ttOk.get 30 _ rfl) fm (by rfl) rfl (by rfl) (k _ ?_)
  exact ⟨⟨p, cap, (setRow_old (by omega)).trans f1, hr, hc⟩, setRow_new fm, (setRow_old (by omega)).trans fo, (setRow_old (by omega)).trans fn, below_setRow hb (by omega) _, hg, hsh⟩
theorem Sc.setOk (h : Sc w0 st m V) (b : Bool) {K : World → Prop} (k : ∀ V', Sc w0 (st.1, b) m V' → K V') : SatR ((storeVar 4 ⟨w0.heap.size + 2, 0, none⟩ (.bool b)).run Tryd.prog V) fun _ w' => K w' := by
  have hl := h.lt
  obtain ⟨⟨p, cap, f1, hr, hc⟩, fm, fo, fn, hb, hg, hsh⟩ := h
  refine store_box (v := .bool b) (ttOk.get 4 _ rfl) fo (by rfl) rfl (by rfl) (k _ ?_)
  exact ⟨⟨p, cap, (setRow_old (by omega)).trans f1, hr, hc⟩, (setRow_old (by omega)).trans fm, setRow_new fo, (setRow_old (by omega)).trans fn, below_setRow hb (by omega) _, hg, hsh⟩
end

abbrev scEnv (w : World) : VEnv := [(1, .pointer (some ⟨w.heap.size, 0, none⟩)), (2, .pointer (some ⟨w.heap.size + 1, 0, none⟩)), (3, .pointer (some ⟨w.heap.size + 2, 0, none⟩)), (4, .pointer (some ⟨w.heap.size + 3, 0, none⟩)),
  (5, .func (.func 44) #[] #[.pointer (some ⟨w.heap.size + 2, 0, none⟩)]), (6, .func (.func 46) #[] #[.pointer (some ⟨w.heap.size, 0, none⟩), .pointer (some ⟨w.heap.size + 3, 0, none⟩)])]

theorem scan_c (p : Option Addr) (cap : Nat) (ws : List (List UInt8)) (w : World) (hr : SlR strE w p ws) (hc : ws.length ≤ cap) (hg : GlobM w) (hsh : ∀ x ∈ ws, x.length ≤ 4294967280) :
    Calls Tryd.prog 24 #[.slice p ws.length cap] w fun e w' => e = .returned (.tuple #[(scanL ws).1.val, .bool (scanL ws).2]) ∧ Below w.heap.size w w' := by
  refine calls_of_M (S := sg 87) (sgOk _) (args := [.slice p ws.length cap]) (.s .p (.s .p (.s .p (.s .p (.c .p (.c .p (.s .p (.c .p (.c .p (.c .p (.c .p (.c .p (.c .p (.c .p .p))))))))))))))
    Tryd.func24 rfl rfl (Nat.le_of_ble_eq_true rfl) rfl ?_
  obtain ⟨X, hX⟩ : ∃ X, X = (w.alloc (.cells #[.slice p ws.length cap] 46)).alloc (.cells zeroM.val.cells 30) := ⟨_, rfl⟩
  have hXs : X.heap.size = w.heap.size + 2 := by rw [hX]; simp
  have fX0 : X.heap[w.heap.size]? = some (.cells #[.slice p ws.length cap] 46 (0, 0)) := by rw [hX]; exact hold _ (hnew w _)
  have fX1 : X.heap[w.heap.size + 1]? = some (.cells zeroM.val.cells 30 (0, 0)) := by
    have := hnew (w.alloc (.cells #[.slice p ws.length cap] 46)) (.cells zeroM.val.cells 30)
    rw [World.size_alloc] at this
    rw [hX]; exact this
  have hbX : Below w.heap.size w X := by rw [hX]; exact ((Below.refl _ _).alloc (Nat.le_refl _) _).alloc (by simp) _
  refine store_new (X := (w.alloc (.cells #[.slice p ws.length cap] 46)).alloc (.cells zeroM.val.cells 30)) (v := .bool true) (ttOk.get 4 _ rfl) (by rfl) rfl (by rfl) fun Y hbY fY sY => ?_
  rw [← hX] at hbY fY sY
  refine store_new (X := Y) (ttOk.get 63 _ rfl) (by rfl) rfl (by rfl) fun Z hbZ fZ sZ => ?_
  have hS : Sc w (ws, true) zeroM Z := by
    have hY0 := block_below hbY fX0
    have hY1 := block_below hbY fX1
    refine ⟨⟨p, cap, block_below hbZ hY0, hr, hc⟩, block_below hbZ hY1, ?_, ?_, hbX.trans ((hbY.trans (hbZ.mono hbY.size)).mono hbX.size), hg, hsh⟩
    · have := block_below hbZ fY
      rw [hXs] at this; exact this
    · rw [sY, hXs] at fZ
      rw [fZ]
      simp only [World.size_alloc]; rfl
  refine ⟨Unit, fun _ => ⟨scEnv w, []⟩, fun _ V => Sc w (ws, true) zeroM V, ?_, ?_⟩
  · refine ⟨(), ⟨?_, rfl⟩, hS⟩
    have e1 : (w.alloc (.cells #[.slice p ws.length cap] 46)).heap.size = w.heap.size + 1 := World.size_alloc _ _
    have e2 : ((w.alloc (.cells #[.slice p ws.length cap] 46)).alloc (.cells zeroM.val.cells 30)).heap.size = w.heap.size + 2 := by rw [← hX]; exact hXs
    have e3 : Y.heap.size = w.heap.size + 3 := by omega
    exact .cons rfl (.cons (by rw [← e1]; rfl) (.cons (by rw [← e2]; rfl) (.cons (by rw [← e3]; rfl) (.cons (by rw [← e2]; rfl) (.cons (by rw [← e3]; rfl) .nil)))))
  rintro _ V h
  refine ⟨Unit, fun _ => ⟨scEnv w, []⟩, fun _ V => Sc w (c0 ws).2 (c0 ws).1 V, ?_, ?_⟩
  · refine Calls.mono (skip_c [107, 105, 110, 100] w (ws, true) zeroM V h) ?_
    rintro e V1 ⟨rfl, h1⟩
    refine And.intro (fun hb => ?_) (fun hb => ?_)
    · refine ⟨_, cells_head (cells_block h1.n), ?_⟩
      refine Calls.mono (next_c w _ _ V1 h1) ?_
      rintro e V2 ⟨rfl, h2⟩
      refine Calls.mono (num_c _ (nxt_short h1.short) w _ _ V2 h2) ?_
      rintro e V3 ⟨rfl, h3⟩
      refine h3.set (ttOk.get 5 _ rfl) rfl (o := 0) (by decide) rfl rfl (c0 ws).1 (by unfold c0; rw [if_pos hb]; rfl) fun V4 h4 => ?_
      refine ⟨(), ⟨.cons rfl (.cons rfl (.cons rfl (.cons rfl (.cons rfl (.cons rfl .nil))))), rfl⟩, ?_⟩
      have : (c0 ws).2 = (rd (fun n m => { m with kind := n }) (zeroM, (skp [107, 105, 110, 100] (ws, true)).2)).2 := by unfold c0; rw [if_pos hb]
      rw [this]; exact h4
    · refine ⟨_, cells_head (cells_block h1.n), ?_⟩
      refine Calls.mono (next_c w _ _ V1 h1) ?_
      rintro e V2 ⟨rfl, h2⟩
      refine Calls.mono (kindOf_c _ V2 (h2.glob.below h2.bel)) ?_
      rintro e _ ⟨rfl, rfl⟩
      refine h2.set (ttOk.get 5 _ rfl) rfl (o := 0) (by decide) rfl rfl (c0 ws).1 (by unfold c0; rw [if_neg (by rw [hb]; decide)]; rfl) fun V4 h4 => ?_
      refine ⟨(), ⟨.cons rfl (.cons rfl (.cons rfl (.cons rfl (.cons rfl (.cons rfl .nil))))), rfl⟩, ?_⟩
      have : (c0 ws).2 = (nxt (skp [107, 105, 110, 100] (ws, true)).2).2 := by unfold c0; rw [if_neg (by rw [hb]; decide)]
      rw [this]; exact h4
-- STAGES
  obtain ⟨s, hs⟩ : ∃ s, s = c0 ws := ⟨_, rfl⟩
  rw [← hs]
  rintro _ V h
  refine ⟨_, cells_head (cells_block h.n), ?_⟩
  refine Calls.mono (next_c w _ _ V h) ?_
  rintro e V1 ⟨rfl, h1⟩
  obtain ⟨mm, hmm⟩ := (h1.glob.below h1.bel).max
  have hx := nxt_short h.short
  have hcs := cut_short (nxt s.2).1 [62]
  refine Calls.mono (Tryd.strings_Cut (bs (nxt s.2).1) (bs [62]) mm V1 (by show (nxt s.2).1.length < _; omega) hmm) ?_
  rintro e _ ⟨rfl, n, rfl⟩
  have h2 := h1.below (drewN_below V1 n)
  refine ⟨Unit, fun _ => ⟨scEnv w, []⟩, fun _ V => Sc w (c1 s).2 (c1 s).1 V, ?_, ?_⟩
  · refine Calls.mono (num_c (Lib.cut (nxt s.2).1 [62]).1 (by omega) w _ _ _ h2) ?_
    rintro e V3 ⟨rfl, h3⟩
    refine Calls.mono (num_c (Lib.cut (nxt s.2).1 [62]).2.1 (by omega) w _ _ _ h3) ?_
    rintro e V4 ⟨rfl, h4⟩
    refine h4.set (ttOk.get 5 _ rfl) rfl (o := 1) (by decide) rfl rfl { s.1 with from_ := (num (Lib.cut (nxt s.2).1 [62]).1 (nxt s.2).2).1 } rfl fun V5 h5 => ?_
    refine h5.set (ttOk.get 5 _ rfl) rfl (o := 2) (by decide) rfl rfl (c1 s).1 rfl fun V6 h6 => ?_
    exact ⟨(), ⟨.cons rfl (.cons rfl (.cons rfl (.cons rfl (.cons rfl (.cons rfl .nil))))), rfl⟩, h6⟩
  clear h h1 h2 hx hcs
  obtain ⟨s1, hs1⟩ : ∃ s1, s1 = c1 s := ⟨_, rfl⟩
  rw [← hs1]
  rintro _ V h
  refine ⟨Unit, fun _ => ⟨scEnv w, []⟩, fun _ V => Sc w (c2 s1).2 (c2 s1).1 V, ?_, ?_⟩
  · refine Calls.mono (skip_c [108, 105, 110, 101] w _ _ V h) ?_
    rintro e V1 ⟨rfl, h1⟩
    refine And.intro (fun hb => ?_) (fun hb => ?_)
    · refine ⟨_, cells_head (cells_block h1.o), ?_⟩
      refine h1.setOk _ fun V2 h2 => ?_
      refine ⟨(), ⟨.cons rfl (.cons rfl (.cons rfl (.cons rfl (.cons rfl (.cons rfl .nil))))), rfl⟩, ?_⟩
      have : (c2 s1).2 = ((skp [108, 105, 110, 101] s1.2).2.1, (skp [108, 105, 110, 101] s1.2).2.2) := by unfold c2; rw [hb, Bool.true_and]
      rw [this]; exact h2
    · refine h1.setOk _ fun V2 h2 => ?_
      refine ⟨(), ⟨.cons rfl (.cons rfl (.cons rfl (.cons rfl (.cons rfl (.cons rfl .nil))))), rfl⟩, ?_⟩
      have : (c2 s1).2 = ((skp [108, 105, 110, 101] s1.2).2.1, false) := by unfold c2; rw [hb, Bool.false_and]
      rw [this]; exact h2
  clear h
  obtain ⟨s2, hs2⟩ : ∃ s2, s2 = c2 s1 := ⟨_, rfl⟩
  rw [← hs2]
  rintro _ V h
  refine ⟨Unit, fun _ => ⟨scEnv w, []⟩, fun _ V => Sc w (c3 s2).2 (c3 s2).1 V, ?_, ?_⟩
  · have h' := h
    refine ⟨_, cells_head (cells_block h.n), ?_⟩
    refine Calls.mono (next_c w _ _ V h) ?_
    rintro e V8 ⟨rfl, h8⟩
    refine Calls.mono (num_c _ (nxt_short h.short) w _ _ V8 h8) ?_
    rintro e V9 ⟨rfl, h9⟩
    refine h9.set (ttOk.get 5 _ rfl) rfl (o := 3) (by decide) rfl rfl (c3 s2).1 rfl fun V10 h10 => ?_
    exact ⟨(), ⟨.cons rfl (.cons rfl (.cons rfl (.cons rfl (.cons rfl (.cons rfl .nil))))), rfl⟩, h10⟩
  clear h
  obtain ⟨s3, hs3⟩ : ∃ s3, s3 = c3 s2 := ⟨_, rfl⟩
  rw [← hs3]
  rintro _ V h
  refine ⟨Unit, fun _ => ⟨scEnv w, []⟩, fun _ V => Sc w (c4 s3).2 (c4 s3).1 V, ?_, ?_⟩
  · refine Calls.mono (skip_c [97, 115, 107, 101, 114] w _ _ V h) ?_
    rintro e V1 ⟨rfl, h1⟩
    refine And.intro (fun hb => ?_) (fun hb => ?_)
    · have hc : c4 s3 = rd (fun n m => { m with asker := n }) (s3.1, (skp [97, 115, 107, 101, 114] s3.2).2) := by unfold c4 opt; rw [if_pos hb]
      refine ⟨_, cells_head (cells_block h1.n), ?_⟩
      refine Calls.mono (next_c w _ _ V1 h1) ?_
      rintro e V8 ⟨rfl, h8⟩
      refine Calls.mono (num_c _ (nxt_short h1.short) w _ _ V8 h8) ?_
      rintro e V9 ⟨rfl, h9⟩
      refine h9.set (ttOk.get 5 _ rfl) rfl (o := 4) (by decide) rfl rfl (rd (fun n m => { m with asker := n }) (s3.1, (skp [97, 115, 107, 101, 114] s3.2).2)).1 rfl fun V10 h10 => ?_
      refine ⟨(), ⟨.cons rfl (.cons rfl (.cons rfl (.cons rfl (.cons rfl (.cons rfl .nil))))), rfl⟩, ?_⟩
      rw [hc]; exact h10
    · have hc : c4 s3 = (s3.1, (skp [97, 115, 107, 101, 114] s3.2).2) := by unfold c4 opt; rw [if_neg (by rw [hb]; decide)]
      refine ⟨(), ⟨.cons rfl (.cons rfl (.cons rfl (.cons rfl (.cons rfl (.cons rfl .nil))))), rfl⟩, ?_⟩
      rw [hc]; exact h1
  clear h
  obtain ⟨s4, hs4⟩ : ∃ s4, s4 = c4 s3 := ⟨_, rfl⟩
  rw [← hs4]
  rintro _ V h
  refine ⟨Unit, fun _ => ⟨scEnv w, []⟩, fun _ V => Sc w (c5 s4).2 (c5 s4).1 V, ?_, ?_⟩
  · refine Calls.mono (skip_c [97, 99, 107, 115] w _ _ V h) ?_
    rintro e V1 ⟨rfl, h1⟩
    refine And.intro (fun hb => ?_) (fun hb => ?_)
    · have hc : c5 s4 = rd (fun n m => { m with acks := n }) (s4.1, (skp [97, 99, 107, 115] s4.2).2) := by unfold c5 opt; rw [if_pos hb]
      refine ⟨_, cells_head (cells_block h1.n), ?_⟩
      refine Calls.mono (next_c w _ _ V1 h1) ?_
      rintro e V8 ⟨rfl, h8⟩
      refine Calls.mono (num_c _ (nxt_short h1.short) w _ _ V8 h8) ?_
      rintro e V9 ⟨rfl, h9⟩
      refine h9.set (ttOk.get 5 _ rfl) rfl (o := 5) (by decide) rfl rfl (rd (fun n m => { m with acks := n }) (s4.1, (skp [97, 99, 107, 115] s4.2).2)).1 rfl fun V10 h10 => ?_
      refine ⟨(), ⟨.cons rfl (.cons rfl (.cons rfl (.cons rfl (.cons rfl (.cons rfl .nil))))), rfl⟩, ?_⟩
      rw [hc]; exact h10
    · have hc : c5 s4 = (s4.1, (skp [97, 99, 107, 115] s4.2).2) := by unfold c5 opt; rw [if_neg (by rw [hb]; decide)]
      refine ⟨(), ⟨.cons rfl (.cons rfl (.cons rfl (.cons rfl (.cons rfl (.cons rfl .nil))))), rfl⟩, ?_⟩
      rw [hc]; exact h1
  clear h
  obtain ⟨s5, hs5⟩ : ∃ s5, s5 = c5 s4 := ⟨_, rfl⟩
  rw [← hs5]
  rintro _ V h
  refine ⟨Unit, fun _ => ⟨scEnv w, []⟩, fun _ V => Sc w (c6 s5).2 (c6 s5).1 V, ?_, ?_⟩
  · refine Calls.mono (skip_c [97, 108, 111, 110, 101] w _ _ V h) ?_
    rintro e V1 ⟨rfl, h1⟩
    refine h1.set (ttOk.get 4 _ rfl) rfl (o := 6) (by decide) rfl rfl (c6 s5).1 rfl fun V2 h2 => ?_
    exact ⟨(), ⟨.cons rfl (.cons rfl (.cons rfl (.cons rfl (.cons rfl (.cons rfl .nil))))), rfl⟩, h2⟩
  clear h
  obtain ⟨s6, hs6⟩ : ∃ s6, s6 = c6 s5 := ⟨_, rfl⟩
  rw [← hs6]
  rintro _ V h
  refine ⟨Unit, fun _ => ⟨scEnv w, []⟩, fun _ V => Sc w (c7 s6).2 (c7 s6).1 V, ?_, ?_⟩
  · refine Calls.mono (skip_c [100, 97, 116, 97] w _ _ V h) ?_
    rintro e V1 ⟨rfl, h1⟩
    refine And.intro (fun hb => ?_) (fun hb => ?_)
    · have hc : c7 s6 = dat (s6.1, (skp [100, 97, 116, 97] s6.2).2) 4 := by unfold c7 opt; rw [if_pos hb]; rfl
      obtain ⟨a, ha⟩ : ∃ a, a = (s6.1, (skp [100, 97, 116, 97] s6.2).2) := ⟨_, rfl⟩
      rw [← ha] at hc
      have h1 : Sc w a.2 a.1 V1 := by rw [ha]; exact h1
      refine ⟨Nat, fun k => ⟨scEnv w ++ [(69, .int .i64 (k : Nat))], []⟩, fun k V => k ≤ 4 ∧ Sc w (dat a k).2 (dat a k).1 V, fun k => 4 - k, 0, ⟨.cons rfl (.cons rfl (.cons rfl (.cons rfl (.cons rfl (.cons rfl (.cons rfl .nil)))))), rfl⟩, ⟨by omega, h1⟩, ?_⟩
      rintro k V2 ⟨hk, h2⟩
      refine And.intro (fun hh => ?_) (fun hh => ?_)
      · have hh : (k : Int) < 4 := of_decide_eq_true hh
        have hk4 : k = 0 ∨ k = 1 ∨ k = 2 ∨ k = 3 := by omega
        rcases hk4 with rfl | rfl | rfl | rfl
        · have h2' := h2
          refine ⟨_, cells_head (cells_block h2.n), ?_⟩
          refine Calls.mono (next_c w _ _ V2 h2) ?_
          rintro e V8 ⟨rfl, h8⟩
          refine Calls.mono (num_c _ (nxt_short h2.short) w _ _ V8 h8) ?_
          rintro e V9 ⟨rfl, h9⟩
          refine ⟨0, rfl, by decide, ?_⟩
          refine h9.set (ttOk.get 5 _ rfl) rfl (o := 7) (by decide) rfl rfl (dat a 1).1 rfl fun V10 h10 => ?_
          refine ⟨1, (wrap_i64 (by omega)).trans (by omega), ?_⟩
          exact ⟨1, ⟨.cons rfl (.cons rfl (.cons rfl (.cons rfl (.cons rfl (.cons rfl (.cons rfl .nil)))))), rfl⟩, ⟨by omega, h10⟩, by dsimp only; omega⟩
        · have h2' := h2
          refine ⟨_, cells_head (cells_block h2.n), ?_⟩
          refine Calls.mono (next_c w _ _ V2 h2) ?_
          rintro e V8 ⟨rfl, h8⟩
          refine Calls.mono (num_c _ (nxt_short h2.short) w _ _ V8 h8) ?_
          rintro e V9 ⟨rfl, h9⟩
          refine ⟨1, rfl, by decide, ?_⟩
          refine h9.set (ttOk.get 5 _ rfl) rfl (o := 8) (by decide) rfl rfl (dat a 2).1 rfl fun V10 h10 => ?_
          refine ⟨2, (wrap_i64 (by omega)).trans (by omega), ?_⟩
          exact ⟨2, ⟨.cons rfl (.cons rfl (.cons rfl (.cons rfl (.cons rfl (.cons rfl (.cons rfl .nil)))))), rfl⟩, ⟨by omega, h10⟩, by dsimp only; omega⟩
        · have h2' := h2
          refine ⟨_, cells_head (cells_block h2.n), ?_⟩
          refine Calls.mono (next_c w _ _ V2 h2) ?_
          rintro e V8 ⟨rfl, h8⟩
          refine Calls.mono (num_c _ (nxt_short h2.short) w _ _ V8 h8) ?_
          rintro e V9 ⟨rfl, h9⟩
          refine ⟨2, rfl, by decide, ?_⟩
          refine h9.set (ttOk.get 5 _ rfl) rfl (o := 9) (by decide) rfl rfl (dat a 3).1 rfl fun V10 h10 => ?_
          refine ⟨3, (wrap_i64 (by omega)).trans (by omega), ?_⟩
          exact ⟨3, ⟨.cons rfl (.cons rfl (.cons rfl (.cons rfl (.cons rfl (.cons rfl (.cons rfl .nil)))))), rfl⟩, ⟨by omega, h10⟩, by dsimp only; omega⟩
        · have h2' := h2
          refine ⟨_, cells_head (cells_block h2.n), ?_⟩
          refine Calls.mono (next_c w _ _ V2 h2) ?_
          rintro e V8 ⟨rfl, h8⟩
          refine Calls.mono (num_c _ (nxt_short h2.short) w _ _ V8 h8) ?_
          rintro e V9 ⟨rfl, h9⟩
          refine ⟨3, rfl, by decide, ?_⟩
          refine h9.set (ttOk.get 5 _ rfl) rfl (o := 10) (by decide) rfl rfl (dat a 4).1 rfl fun V10 h10 => ?_
          refine ⟨4, (wrap_i64 (by omega)).trans (by omega), ?_⟩
          exact ⟨4, ⟨.cons rfl (.cons rfl (.cons rfl (.cons rfl (.cons rfl (.cons rfl (.cons rfl .nil)))))), rfl⟩, ⟨by omega, h10⟩, by dsimp only; omega⟩
      · have hh : ¬ (k : Int) < 4 := of_decide_eq_false hh
        have hk4 : k = 4 := by omega
        subst hk4
        refine ⟨(), ⟨.cons rfl (.cons rfl (.cons rfl (.cons rfl (.cons rfl (.cons rfl .nil))))), rfl⟩, ?_⟩
        rw [hc]; exact h2
    · have hc : c7 s6 = (s6.1, (skp [100, 97, 116, 97] s6.2).2) := by unfold c7 opt; rw [if_neg (by rw [hb]; decide)]
      refine ⟨(), ⟨.cons rfl (.cons rfl (.cons rfl (.cons rfl (.cons rfl (.cons rfl .nil))))), rfl⟩, ?_⟩
      rw [hc]; exact h1
  rintro _ V h
  have hfin : scanS ws = c7 s6 := by unfold scanS; rw [← hs, ← hs1, ← hs2, ← hs3, ← hs4, ← hs5, ← hs6]
  have hval : scanL ws = ((c7 s6).1, (c7 s6).2.2 && decide (((c7 s6).2.1.length : Int) = 0)) := by unfold scanL; rw [hfin]
  rw [hval]
  obtain ⟨a, ha⟩ : ∃ a, a = c7 s6 := ⟨_, rfl⟩
  rw [← ha] at h ⊢
  obtain ⟨m, ⟨wl, ok⟩⟩ := a
  have h : Sc w (wl, ok) m V := h
  clear ha hval hfin
  refine DrawE.treeQ [7, 8] (.op 0 (.op 1 (.op 2 (.alt (.op 3 (.alt (.op 4 (.alt (.op 5 (.alt (.op 6 (.op 7 (.op 8 (.nil)))) (.op 7 (.op 6 (.op 8 (.nil)))))) (.op 7 (.op 5 (.op 6 (.op 8 (.nil))))))) (.op 7 (.op 4 (.op 5 (.op 6 (.op 8 (.nil)))))))) (.op 7 (.op 3 (.op 4 (.op 5 (.op 6 (.op 8 (.nil))))))))))) (by kernel_rfl) ?_
  have h := h.drew
  refine ⟨m.enc, rfl, cells_block h.m, hlt h.m, ?_⟩
  refine ⟨_, cells_head (cells_block h.o), ?_⟩
  refine And.intro (fun hb => ?_) (fun hb => ?_)
  · refine And.intro ?_ ?_
    · obtain ⟨pw, cw, fw, _, _⟩ := h.w
      refine ⟨_, cells_head (cells_block fw), ?_⟩
      refine And.intro ?_ ?_
      · refine And.intro ?_ ?_
        · refine And.intro ?_ ?_
          · refine h.setM fun V7 h => ?_
            refine h.setOk _ fun V8 h => ?_
            refine ⟨_, rfl, cells_block h.m, ?_⟩
            refine ⟨_, cells_head (cells_block h.o), ?_⟩
            exact And.intro (by rw [hb, Bool.true_and]; rfl) h.bel
          · refine h.setM fun V7 h => ?_
            refine h.setOk _ fun V8 h => ?_
            refine ⟨_, rfl, cells_block h.m, ?_⟩
            refine ⟨_, cells_head (cells_block h.o), ?_⟩
            exact And.intro (by rw [hb, Bool.true_and]; rfl) h.bel
        · refine h.setM fun V7 h => ?_
          refine h.setOk _ fun V8 h => ?_
          refine ⟨_, rfl, cells_block h.m, ?_⟩
          refine ⟨_, cells_head (cells_block h.o), ?_⟩
          exact And.intro (by rw [hb, Bool.true_and]; rfl) h.bel
      · refine h.setM fun V7 h => ?_
        refine h.setOk _ fun V8 h => ?_
        refine ⟨_, rfl, cells_block h.m, ?_⟩
        refine ⟨_, cells_head (cells_block h.o), ?_⟩
        exact And.intro (by rw [hb, Bool.true_and]; rfl) h.bel
    · refine h.setM fun V7 h => ?_
      obtain ⟨pw, cw, fw, _, _⟩ := h.w
      refine ⟨_, cells_head (cells_block fw), ?_⟩
      refine h.setOk _ fun V8 h => ?_
      refine ⟨_, rfl, cells_block h.m, ?_⟩
      refine ⟨_, cells_head (cells_block h.o), ?_⟩
      exact And.intro (by rw [hb, Bool.true_and]; rfl) h.bel
  · refine And.intro ?_ ?_
    · refine And.intro ?_ ?_
      · refine And.intro ?_ ?_
        · refine And.intro ?_ ?_
          · refine h.setM fun V7 h => ?_
            refine h.setOk _ fun V8 h => ?_
            refine ⟨_, rfl, cells_block h.m, ?_⟩
            refine ⟨_, cells_head (cells_block h.o), ?_⟩
            exact And.intro (by rw [hb, Bool.false_and]; rfl) h.bel
          · refine h.setM fun V7 h => ?_
            refine h.setOk _ fun V8 h => ?_
            refine ⟨_, rfl, cells_block h.m, ?_⟩
            refine ⟨_, cells_head (cells_block h.o), ?_⟩
            exact And.intro (by rw [hb, Bool.false_and]; rfl) h.bel
        · refine h.setM fun V7 h => ?_
          refine h.setOk _ fun V8 h => ?_
          refine ⟨_, rfl, cells_block h.m, ?_⟩
          refine ⟨_, cells_head (cells_block h.o), ?_⟩
          exact And.intro (by rw [hb, Bool.false_and]; rfl) h.bel
      · refine h.setM fun V7 h => ?_
        refine h.setOk _ fun V8 h => ?_
        refine ⟨_, rfl, cells_block h.m, ?_⟩
        refine ⟨_, cells_head (cells_block h.o), ?_⟩
        exact And.intro (by rw [hb, Bool.false_and]; rfl) h.bel
    · refine h.setM fun V7 h => ?_
      refine h.setOk _ fun V8 h => ?_
      refine ⟨_, rfl, cells_block h.m, ?_⟩
      refine ⟨_, cells_head (cells_block h.o), ?_⟩
      exact And.intro (by rw [hb, Bool.false_and]; rfl) h.bel
end Go.Proofs.YtkekidalckflhaaDoor
