/- Contracts: the iterator over the messages that may be delivered next. -/
import Derived.Test.YtflljnnndmkfkaaDoorNet2
namespace Go.Proofs.YtflljnnndmkfkaaDoor
open Go.Vc Go.RowKit Go.Sei

theorem cells_same {w w2 : World} {b o : Nat} {vs : List Value} (hb : w2.heap[b]? = w.heap[b]?) (h : Cells w ⟨b, o, none⟩ vs) : Cells w2 ⟨b, o, none⟩ vs :=
  cells_mk fun i v hv => by have := cells_at h hv; rw [← this]; exact World.cell?_of_block (a := ⟨b, o + i, none⟩) hb

/-- The blocks that the iterator reads. -/
def RdN (b1 b2 : Nat) (p : Option Addr) (l : List Msg) (k : Nat) : Prop := k = 0 ∨ k = b1 ∨ k = b2 ∨ (l ≠ [] ∧ ∃ a, p = some a ∧ k = a.block)

/-- What the iterator finds. -/
structure Found (X : World) (b1 b2 : Nat) (p : Option Addr) (cap : Nat) (l : List Msg) (mode : UInt8) : Prop where
  box1 : X.heap[b1]? = some (.cells #[.slice p l.length cap] 22 (0, 0))
  box2 : X.heap[b2]? = some (.cells #[u8 mode] 5 (0, 0))
  glob : Glob X
  row : SlR Msg.E X p l

theorem Found.same {X Y : World} {b1 b2 : Nat} {p : Option Addr} {cap : Nat} {l : List Msg} {mode : UInt8} (h : Found X b1 b2 p cap l mode) (hs : X.heap.size ≤ Y.heap.size) (hr : ∀ k, RdN b1 b2 p l k → Y.heap[k]? = X.heap[k]?) : Found Y b1 b2 p cap l mode := by
  refine ⟨(hr b1 (.inr (.inl rfl))).trans h.box1, (hr b2 (.inr (.inr (.inl rfl)))).trans h.box2, cells_same (hr 0 (.inl rfl)) h.glob, ?_⟩
  rcases h.row with h0 | ⟨b, o, rfl, hb, hc⟩
  · exact .inl h0
  · by_cases hl : l = []
    · exact .inl hl
    · exact .inr ⟨b, o, rfl, by omega, fun i hi => cells_same (hr b (.inr (.inr (.inr ⟨hl, _, rfl, rfl⟩)))) (hc i hi)⟩

theorem Found.below {X Y : World} {b1 b2 : Nat} {p : Option Addr} {cap : Nat} {l : List Msg} {mode : UInt8} (h : Found X b1 b2 p cap l mode) (hb : Below X.heap.size X Y) : Found Y b1 b2 p cap l mode :=
  ⟨block_below hb h.box1, block_below hb h.box2, h.glob.below hb, h.row.below hb⟩

theorem RdN.lt {X : World} {b1 b2 : Nat} {p : Option Addr} {cap : Nat} {l : List Msg} {mode : UInt8} (h : Found X b1 b2 p cap l mode) {k : Nat} (hk : RdN b1 b2 p l k) : k < X.heap.size := by
  rcases hk with rfl | rfl | rfl | ⟨hl, a, rfl, rfl⟩
  · exact World.block_lt_of_cell? X _ (cells_head h.glob)
  · exact hlt h.box1
  · exact hlt h.box2
  · rcases h.row with h0 | ⟨b, o, he, hb, _⟩
    · exact absurd h0 hl
    · cases he; exact hb

theorem zint (w : World) : (zeroValue 3).run Tryd.prog w = .ok (.int .i64 0) w := by
  have h : (Tryd.prog.info? 3).bind (·.zero) = some (.int .i64 0) := by kernel_rfl
  cases hi : Tryd.prog.info? 3 with
  | none => rw [hi] at h; cases h
  | some inf =>
    rw [hi] at h
    have h : inf.zero = some (.int .i64 0) := h
    simp [zeroValue, typeInfo, hi, h]

theorem look_c {w : World} {r : Nat} {f : UInt8 × UInt8 × UInt8 → Option Value} (h : MapF qv w r f) (q : UInt8 × UInt8 × UInt8) : (Instr.lookup 57 (.map (some r)) (.agg (qcells q).toArray) false).run Tryd.prog w = .ok ((f q).getD (.int .i64 0)) w :=
  lookup_run qkey Tryd.underlying57 zint h q false

theorem ready1_c (b1 b2 : Nat) (p : Option Addr) (cap : Nat) (l : List Msg) (mode : UInt8) (W0 : World) (hF : Found W0 b1 b2 p cap l mode) (hn : l.length ≤ 1000000000) :
    IterS Tryd.prog 27 [.pointer (some ⟨b1, 0, none⟩), .pointer (some ⟨b2, 0, none⟩)] (fun i : Nat => [.int .i64 i]) (upto l mode l.length) W0 (RdN b1 b2 p l) := by
  intro yl Fp J Jx W hsz hrd hrf hJ hJx hy h0
  have hFW : Found W b1 b2 p cap l mode := hF.same hsz hrd
  refine calls_of_E (S := sg 40) (sgOk _) (args := [.func (.yield yl) #[] #[], .pointer (some ⟨b1, 0, none⟩), .pointer (some ⟨b2, 0, none⟩)]) Tryd.func27 rfl rfl (Nat.le_of_ble_eq_true rfl) rfl ?_
  refine ⟨Value.map (some W.heap.size), W.alloc (Obj.map #[] 0), by rfl, ?_⟩
  have hb1 : Below W.heap.size W (W.alloc (.map #[] 0)) := (Below.refl _ W).alloc (Nat.le_refl _) _
  refine ⟨_, cells_head (cells_block (block_below hb1 hFW.box1)), ?_⟩
  obtain ⟨hJ1, hfp1⟩ := hJ.step _ _ _ h0 (.of_below hb1)
  refine ⟨Nat, fun k => ⟨[(0, .func (.yield yl) #[] #[]), (2, .pointer (some ⟨b2, 0, none⟩)), (4, .map (some W.heap.size)), (9, .slice p l.length cap), (10, .int .i64 l.length), (11, .int .i64 (k : Nat))], []⟩,
    fun k X => k ≤ l.length ∧ J (upto l mode k) X ∧ W.heap.size ≤ X.heap.size ∧ (∀ k, RdN b1 b2 p l k → X.heap[k]? = W.heap[k]? ∧ ¬ Fp X k) ∧ MapF qv X W.heap.size (cntF l mode k) ∧ ¬ Fp X W.heap.size,
    fun k => l.length - k, 0, ⟨.cons rfl (.cons rfl (.cons rfl (.cons rfl (.cons rfl (.cons rfl .nil))))), rfl⟩, ⟨Nat.zero_le _, hJ1, by simp, ?_, ?_, ?_⟩, ?_⟩
  · exact fun k hk => ⟨hb1.block k (RdN.lt hFW hk), fun h => hrf k hk (hfp1 k h)⟩
  · have : (cntF l mode 0) = fun _ => none := by funext q; simp [cntF, cnt]
    rw [this]; exact MapF.new
  · exact fun h => by have := hJ.lt _ _ _ h0 (hfp1 _ h); omega
  rintro k X ⟨hk, hj, hszX, hrdX, hm, hfr⟩
  have hFX : Found X b1 b2 p cap l mode := hFW.same hszX fun k hk => (hrdX k hk).1
  refine And.intro (fun h => ?_) (fun h => ?_)
  · have h := of_decide_eq_true h
    have hkl : k < l.length := by omega
    obtain ⟨b, o, rfl, hb, hc⟩ := hFX.row.at hkl
    refine ⟨k, rfl, hkl, ?_⟩
    refine ⟨(l[k]).enc, rfl, hc k hkl, hb, ?_⟩
    refine store_new (ttOk.get 30 _ rfl) (by rfl) rfl (by rfl) fun X1 hb2 f6 s1 => ?_
    refine ⟨_, rfl, cells_block f6, by show X.heap.size < X1.heap.size; omega, ?_⟩
    have hF1 : Found X1 b1 b2 (some ⟨b, o, none⟩) cap l mode := hFX.below hb2
    refine ⟨_, cells_head (cells_block hF1.box2), ?_⟩
    refine Calls.mono (queue_c l[k] mode X1 hF1.glob) ?_
    rintro e X2 ⟨rfl, hb3⟩
    refine store_new (ttOk.get 50 _ rfl) (by rfl) rfl (by rfl) fun X3 hb4 f7 s3 => ?_
    have hb5 : Below X.heap.size X X3 := (hb2.trans (hb3.mono hb2.size)).trans (hb4.mono (Nat.le_trans hb2.size hb3.size))
    refine DrawE.tree [4, 6] (.op 0 (.op 1 (.alt (.op 2 (.op 3 (.op 4 (.op 5 (.op 6 .nil))))) (.op 4 (.op 2 (.op 3 (.op 5 (.op 6 .nil)))))))) (by kernel_rfl) ?_
    refine ⟨_, rfl, cells_block (hdr f7), hlt (hdr f7), ?_⟩
    have hW : W.heap.size < X.heap.size := by obtain ⟨es, cl, h1, _⟩ := hm; exact hlt h1
    have hm5 : MapF qv X3.drew W.heap.size (cntF l mode k) := hm.below (hb5.drew)
    have hcn := cnt_le l mode k (queue l[k] mode)
    have hget := cntF_getD l mode k (queue l[k] mode)
    obtain ⟨born, o1, hme, hms⟩ := mapEntry_run qkey Tryd.underlying57 zint hm5 (queue l[k] mode)
    obtain ⟨o2, hes, hm7⟩ := entryStore_run (P := Tryd.prog) (T := 57) hms (.int .i64 (cnt l mode k (queue l[k] mode) + 1 : Int))
    rw [cntF_step l mode hkl] at hm7
    obtain ⟨hj5, hfp5⟩ := hJ.step _ _ _ hj (Step.of_below hb5.drew)
    have hfr5 : ¬ Fp X3.drew W.heap.size := fun h => hfr (hfp5 _ h)
    obtain ⟨hj6, hfp6⟩ := hJ.step _ _ _ hj5 (Step.put (Nat.le_refl _) hfr5 o1)
    have hfr6 : ¬ Fp (X3.drew.putObj W.heap.size o1) W.heap.size := fun h => hfr5 (hfp6 _ h)
    obtain ⟨hj7, hfp7⟩ := hJ.step _ _ _ hj6 (Step.put (Nat.le_refl _) hfr6 o2)
    have hfp : ∀ i, Fp ((X3.drew.putObj W.heap.size o1).putObj W.heap.size o2) i → Fp X i := fun i h => hfp5 i (hfp6 i (hfp7 i h))
    have hold7 : ∀ i, i ≠ W.heap.size → ((X3.drew.putObj W.heap.size o1).putObj W.heap.size o2).heap[i]? = X3.heap[i]? := fun i hi => (heap_put_old hi).trans (heap_put_old hi)
    have hsz7 : ((X3.drew.putObj W.heap.size o1).putObj W.heap.size o2).heap.size = X3.heap.size := by simp [World.putObj]
    have hb4s := hb4.size
    have hb5s := hb5.size
    have hb3s := hb3.size
    obtain ⟨Z, hZ⟩ : ∃ Z, Z = (X3.drew.putObj W.heap.size o1).putObj W.heap.size o2 := ⟨_, rfl⟩
    have f7Z : Z.heap[X2.heap.size]? = some (.cells (Value.agg (qcells (queue l[k] mode)).toArray).cells 50 (0, 0)) := by
      rw [hZ, hold7 _ (by omega)]; exact f7
    have hrdZ : ∀ i, RdN b1 b2 (some ⟨b, o, none⟩) l i → Z.heap[i]? = W.heap[i]? ∧ ¬ Fp Z i := fun i hi => by
      have h1 := RdN.lt hFW hi
      refine ⟨?_, fun h => (hrdX i hi).2 (hfp i (hZ ▸ h))⟩
      rw [hZ, hold7 i (by omega), hb5.block i (by omega)]
      exact (hrdX i hi).1
    have hFZ : Found Z b1 b2 (some ⟨b, o, none⟩) cap l mode := hFW.same (by rw [hZ, hsz7]; omega) fun i hi => (hrdZ i hi).1
    have hszZ : W.heap.size ≤ Z.heap.size := by rw [hZ, hsz7]; omega
    rw [← hZ] at hm7 hj7
    have hfrZ : ¬ Fp Z W.heap.size := fun h => hfr (hfp _ (hZ ▸ h))
    have hup := upto_succ l mode k
    have hpre : upto l mode (k + 1) <+: upto l mode l.length := upto_prefix l mode hkl
    have hdl := dlv_eq l mode hkl
    have hc1 : (cntF l mode (k + 1) (queue l[k] mode)).getD (.int .i64 0) = .int .i64 (cnt l mode k (queue l[k] mode) + 1 : Int) := by
      rw [cntF_getD, cnt_succ l mode hkl, if_pos rfl]; rfl
    have hZM : W.heap.size < Z.heap.size := by obtain ⟨es, cl, h1, _⟩ := hm7; exact hlt h1
    have hinv : ∀ V, J (upto l mode (k + 1)) V → Keeps Fp Z V → k + 1 ≤ l.length ∧ J (upto l mode (k + 1)) V ∧ W.heap.size ≤ V.heap.size ∧ (∀ i, RdN b1 b2 (some ⟨b, o, none⟩) l i → V.heap[i]? = W.heap[i]? ∧ ¬ Fp V i) ∧
        MapF qv V W.heap.size (cntF l mode (k + 1)) ∧ ¬ Fp V W.heap.size := fun V hJV hKV => by
      have hKs := hKV.size
      refine ⟨hkl, hJV, by omega, fun i hi => ?_, hm7.same (hKV.same _ hZM hfrZ), fun h => ?_⟩
      · have h1 := RdN.lt hFW hi
        obtain ⟨h2, h3⟩ := hrdZ i hi
        refine ⟨(hKV.same i (by omega) h3).trans h2, fun h => ?_⟩
        rcases hKV.fp i h with h4 | h4
        · exact h3 h4
        · omega
      · rcases hKV.fp _ h with h4 | h4
        · exact hfrZ h4
        · omega
    refine And.intro ?_ ?_
    refine ⟨.int .i64 (cnt l mode k (queue l[k] mode)), fun w2 hb => ?_, ?_⟩
    · rw [← hget]; exact look_c (hm5.below hb) _
    refine ⟨_, wrap_i64 (by omega), ?_⟩
    refine ⟨_, _, hme, ?_⟩
    refine ⟨_, _, hes, ?_⟩
    rw [← hZ]
    rotate_left
    refine ⟨_, _, hme, ?_⟩
    refine ⟨.int .i64 (cnt l mode k (queue l[k] mode)), fun w2 hb => ?_, ?_⟩
    · have := look_c (hms.map.below hb) (queue l[k] mode)
      rw [if_pos rfl, Option.getD_some, hget] at this
      exact this
    refine ⟨_, wrap_i64 (by omega), ?_⟩
    refine ⟨_, _, hes, ?_⟩
    rw [← hZ]
    rotate_left
    all_goals
      refine ⟨_, cells_head (cells_block hFZ.box2), ?_⟩
      refine And.intro (fun hm1 => ?_) (fun hm1 => ?_)
      · have hm1 := (u8_eq (y := 1)).1 (of_decide_eq_true hm1)
        have hd : dlv l mode k = true := by rw [hdl, hm1]; rfl
        rw [hd, if_pos rfl] at hup
        refine And.intro (fun _ => ?_) (fun h => by cases h)
        refine YieldR.mono (hy (upto l mode k) k Z hj7 (hup ▸ hpre)) ?_
        rintro v V (⟨rfl, hJV, hKV⟩ | ⟨rfl, hJV⟩)
        · refine And.intro (fun h => by cases h) (fun _ => ?_)
          refine ⟨_, wrap_i64 (by omega), ?_⟩
          exact ⟨k + 1, ⟨.cons rfl (.cons rfl (.cons rfl (.cons rfl (.cons rfl (.cons rfl .nil))))), rfl⟩, hinv V (hup ▸ hJV) hKV, by dsimp only; omega⟩
        · refine And.intro (fun _ => ?_) (fun h => by cases h)
          exact And.intro ⟨_, rfl⟩ (.inr ⟨_, hup ▸ hpre, hJV⟩)
      · have hm1 := of_decide_eq_false hm1
        refine ⟨_, rfl, cells_block f7Z, hlt f7Z, ?_⟩
        refine ⟨.int .i64 (cnt l mode k (queue l[k] mode) + 1 : Int), fun w2 hb => ?_, ?_⟩
        · rw [← hc1]; exact look_c (hm7.below hb) _
        refine And.intro (fun hq => ?_) (fun hq => ?_)
        · have hq := of_decide_eq_true hq
          have hd : dlv l mode k = true := by rw [hdl, decide_eq_true (show cnt l mode k (queue l[k] mode) = 0 by omega), Bool.or_true]
          rw [hd, if_pos rfl] at hup
          refine YieldR.mono (hy (upto l mode k) k Z hj7 (hup ▸ hpre)) ?_
          rintro v V (⟨rfl, hJV, hKV⟩ | ⟨rfl, hJV⟩)
          · refine And.intro (fun h => by cases h) (fun _ => ?_)
            refine ⟨_, wrap_i64 (by omega), ?_⟩
            exact ⟨k + 1, ⟨.cons rfl (.cons rfl (.cons rfl (.cons rfl (.cons rfl (.cons rfl .nil))))), rfl⟩, hinv V (hup ▸ hJV) hKV, by dsimp only; omega⟩
          · refine And.intro (fun _ => ?_) (fun h => by cases h)
            exact And.intro ⟨_, rfl⟩ (.inr ⟨_, hup ▸ hpre, hJV⟩)
        · have hq := of_decide_eq_false hq
          have hd : dlv l mode k = false := by
            rw [hdl, decide_eq_false (show ¬ cnt l mode k (queue l[k] mode) = 0 by omega), decide_eq_false (fun e => hm1 (by rw [e]; rfl))]; rfl
          rw [hd] at hup
          simp only [Bool.false_eq_true, if_false, List.append_nil] at hup
          refine And.intro (fun h => by cases h) (fun _ => ?_)
          refine ⟨_, wrap_i64 (by omega), ?_⟩
          exact ⟨k + 1, ⟨.cons rfl (.cons rfl (.cons rfl (.cons rfl (.cons rfl (.cons rfl .nil))))), rfl⟩, hinv Z (hup ▸ hj7) (Keeps.refl _ _), by dsimp only; omega⟩
  · refine And.intro ⟨_, rfl⟩ (.inl ?_)
    have h := of_decide_eq_false h
    have : k = l.length := by omega
    subst this
    exact hj
end Go.Proofs.YtflljnnndmkfkaaDoor
