/- Law17: the closures of msg.scan; kindOf. -/
import Derived.Test.YtkekidalckflhaaDoorMg2
import Derived.Laws.Strings
namespace Go.Proofs.YtkekidalckflhaaDoor
open Go.Vc Go.RowKit Go.Sei

theorem eql_str (x y : Operand) (a b : List UInt8) (w : World) : (do eqGuard .eql 9 x y (strV a) (strV b); binOp .eql 9 (strV a) (strV b)).run Tryd.prog w = .ok (.bool (decide (a = b))) w := by
  have h1 : (eqGuard .eql 9 x y (strV a) (strV b)).run Tryd.prog w = .ok () w := rfl
  rw [Sem.run_bind, h1, Result.andThen_ok]
  show (Op.stringOp .eql (bs a) (bs b)).run Tryd.prog w = _
  simp only [Op.stringOp, Sem.run_pure, ByteArray.toList_eq, bs_list]
  have hd : (a == b) = decide (a = b) := by by_cases h : a = b <;> simp [h]
  rw [hd]
theorem neq_str (x y : Operand) (a b : List UInt8) (w : World) : (do eqGuard .neq 9 x y (strV a) (strV b); binOp .neq 9 (strV a) (strV b)).run Tryd.prog w = .ok (.bool (!decide (a = b))) w := by
  have h1 : (eqGuard .neq 9 x y (strV a) (strV b)).run Tryd.prog w = .ok () w := rfl
  rw [Sem.run_bind, h1, Result.andThen_ok]
  show (Op.stringOp .neq (bs a) (bs b)).run Tryd.prog w = _
  simp only [Op.stringOp, Sem.run_pure, ByteArray.toList_eq, bs_list]
  have hd : (a == b) = decide (a = b) := by by_cases h : a = b <;> simp [h]
  rw [hd]
theorem partE_at {off sz : Nat} {cs : List Value} {v : Value} {K : Value → Prop} (h : cs[off]? = some v) (k : K v) : partE off sz false cs K := by
  unfold partE; rw [h]; exact k

/-- What the words are read into: the words that are left, and whether all went well. -/
abbrev Wst := List (List UInt8) × Bool
def nxt (st : Wst) : List UInt8 × Wst := match st.1 with
  | [] => ([], ([], false))
  | w :: r => (w, (r, st.2))
def num (s : List UInt8) (st : Wst) : UInt8 × Wst := match Lib.parseUintB 8 s with
  | .ok u => (UInt8.ofNat u, st)
  | _ => (0, (st.1, false))
def skp (w : List UInt8) (st : Wst) : Bool × Wst := match st.1 with
  | [] => (false, st)
  | x :: r => if x = w then (true, (r, st.2)) else (false, st)

/-- The boxes of a scan, from block b on: the words, the message, 'ok', the closure 'next'. -/
structure Sc (w0 : World) (st : Wst) (m : Msg) (V : World) : Prop where
  w : ∃ p cap, V.heap[w0.heap.size]? = some (.cells #[.slice p st.1.length cap] 46 (0, 0)) ∧ SlR strE w0 p st.1 ∧ st.1.length ≤ cap
  m : V.heap[w0.heap.size + 1]? = some (.cells m.val.cells 30 (0, 0))
  o : V.heap[w0.heap.size + 2]? = some (.cells #[.bool st.2] 4 (0, 0))
  n : V.heap[w0.heap.size + 3]? = some (.cells #[.func (.func 43) #[] #[.pointer (some ⟨w0.heap.size, 0, none⟩), .pointer (some ⟨w0.heap.size + 2, 0, none⟩)]] 63 (0, 0))
  bel : Below w0.heap.size w0 V
  glob : GlobM w0
  short : ∀ x ∈ st.1, x.length ≤ 4294967280
theorem Sc.below {w0 V V2 : World} {st : Wst} {m : Msg} (h : Sc w0 st m V) (hb : Below V.heap.size V V2) : Sc w0 st m V2 := by
  obtain ⟨⟨p, cap, h1, h2, h3⟩, h4, h5, h6, h7, h8, h9⟩ := h
  exact ⟨⟨p, cap, block_below hb h1, h2, h3⟩, block_below hb h4, block_below hb h5, block_below hb h6, h7.trans (hb.mono h7.size), h8, h9⟩
theorem Sc.lt {w0 V : World} {st : Wst} {m : Msg} (h : Sc w0 st m V) : w0.heap.size + 3 < V.heap.size := hlt h.n

theorem next_c (w0 : World) (st : Wst) (m : Msg) (V : World) (h : Sc w0 st m V) :
    Calls Tryd.prog 43 #[.pointer (some ⟨w0.heap.size, 0, none⟩), .pointer (some ⟨w0.heap.size + 2, 0, none⟩)] V fun e V' => e = .returned (strV (nxt st).1) ∧ Sc w0 (nxt st).2 m V' := by
  obtain ⟨⟨p, cap, f1, hr, hc⟩, fm, fo, fn, hb, hg, hsh⟩ := h
  refine calls_of_E (S := sg 13) (sgOk _) (args := [.pointer (some ⟨w0.heap.size, 0, none⟩), .pointer (some ⟨w0.heap.size + 2, 0, none⟩)]) Tryd.func43 rfl rfl (Nat.le_of_ble_eq_true rfl) rfl ?_
  refine ⟨_, cells_head (cells_block f1), ?_⟩
  refine And.intro (fun h => ?_) (fun h => ?_)
  · have h : (st.1.length : Int) = 0 := of_decide_eq_true h
    have he : st.1 = [] := List.eq_nil_of_length_eq_zero (by omega)
    have hn : nxt st = ([], ([], false)) := by unfold nxt; rw [he]
    refine store_box (v := .bool false) (ttOk.get 4 _ rfl) fo (by rfl) rfl (by rfl) ?_
    rw [hn]
    refine And.intro rfl ⟨⟨p, cap, ?_, .nil, Nat.zero_le _⟩, (setRow_old (by omega)).trans fm, setRow_new fo, (setRow_old (by omega)).trans fn, below_setRow hb (by omega) _, hg, fun x hx => by cases hx⟩
    rw [he] at f1
    exact (setRow_old (by omega)).trans f1
  · have h : ¬ (st.1.length : Int) = 0 := of_decide_eq_false h
    obtain ⟨x, r, he⟩ : ∃ x r, st.1 = x :: r := by
      cases hs : st.1 with
      | nil => rw [hs] at h; simp at h
      | cons x r => exact ⟨x, r, rfl⟩
    have hn : nxt st = (x, (r, st.2)) := by unfold nxt; rw [he]
    have hlen : st.1.length = r.length + 1 := by rw [he]; rfl
    have hr' := hr
    rw [he] at hr'
    obtain ⟨bk, o, hp, hbk, hcl⟩ := hr'.at (i := 0) (by simp)
    subst hp
    refine ⟨_, cells_head (cells_block f1), ?_⟩
    refine ⟨0, rfl, by omega, ?_⟩
    have hx := cells_head (cells_below hb (hcl 0 (by simp)))
    refine ⟨_, hx, ?_⟩
    refine ⟨_, cells_head (cells_block f1), ?_⟩
    refine ⟨1, rfl, by omega, ?_⟩
    refine store_box (ttOk.get 46 _ rfl) f1 (by rfl) rfl (by rfl) ?_
    rw [hn]
    have hsub := hr'.sub (cap := cap) (lo := 1) (hi := (x :: r).length) (by simp) (Nat.le_refl _) (by rw [← he]; exact hc)
    have hd : ((x :: r).drop 1).take ((x :: r).length - 1) = r := by simp
    rw [hd] at hsub
    refine And.intro rfl ⟨⟨cutBase (some ⟨bk, o, none⟩) cap 1 1, cap - 1, ?_, hsub, by dsimp only; omega⟩, (setRow_old (by omega)).trans fm, (setRow_old (by omega)).trans fo, (setRow_old (by omega)).trans fn, below_setRow hb (Nat.le_refl _) _, hg, fun y hy => hsh y (by rw [he]; exact List.mem_cons_of_mem _ hy)⟩
    have e1 : r.length = st.1.length - 1 := by omega
    dsimp only
    rw [e1]
    exact setRow_new f1
end Go.Proofs.YtkekidalckflhaaDoor
