/- Law17: the text of a message. -/
import Derived.Test.YtkekidalckflhaaDoorMg1
import Derived.Test.YtkekidalckflhaaDoorMsgE
import Derived.Test.YtkekidalckflhaaDoorCm2
import Derived.Test.YtkekidalckflhaaDoorVcJ
import Derived.Test.YtkekidalckflhaaDoorVcK
namespace Go.Proofs.YtkekidalckflhaaDoor
open Go.Vc Go.RowKit Go.Sei

def strE : Enc (List UInt8) := ⟨fun l => [strV l], 1, fun _ => rfl, by decide, fun a u hu => by
  simp only [List.mem_cons, List.not_mem_nil, or_false] at hu; subst hu; rfl⟩
theorem strE_flat (l : List (List UInt8)) : l.flatMap strE.enc = l.map strV := by
  induction l with
  | nil => rfl
  | cons a r ih => rw [List.flatMap_cons, ih]; rfl

theorem add_str (x y : Operand) (a b : List UInt8) (h : a.length + b.length ≤ 1000000000) (w : World) : (do eqGuard .add 9 x y (strV a) (strV b); binOp .add 9 (strV a) (strV b)).run Tryd.prog w = .ok (strV (a ++ b)) w := by
  have h1 : (eqGuard .add 9 x y (strV a) (strV b)).run Tryd.prog w = .ok () w := rfl
  have hsz : ¬ (((bs a).size + (bs b).size : Nat) : Int) > IntKind.i64.max := by
    have e1 : (bs a).size = a.length := rfl
    have e2 : (bs b).size = b.length := rfl
    rw [e1, e2]
    have : IntKind.i64.max = 9223372036854775807 := by decide
    omega
  have h3 : bs a ++ bs b = bs (a ++ b) := by
    apply ByteArray.ext
    simp [bs, ByteArray.data_append]
  rw [Sem.run_bind, h1, Result.andThen_ok]
  show (Op.stringOp .add (bs a) (bs b)).run Tryd.prog w = _
  simp only [Op.stringOp, if_neg hsz, Sem.run_pure, h3]; rfl
theorem neq_data (x y : Operand) (a b c e a' b' c' e' : UInt8) (w : World) : (do eqGuard .neq 28 x y (.agg (dcells a b c e).toArray) (.agg (dcells a' b' c' e').toArray); binOp .neq 28 (.agg (dcells a b c e).toArray) (.agg (dcells a' b' c' e').toArray)).run Tryd.prog w =
    .ok (.bool (!(decide (a = a') && decide (b = b') && decide (c = c') && decide (e = e')))) w := by
  have h : (Op.equal 28 (.agg (dcells a b c e).toArray) (.agg (dcells a' b' c' e').toArray)).run Tryd.prog w = .ok (decide (a = a') && decide (b = b') && decide (c = c') && decide (e = e')) w := eq_data 9998 a b c e a' b' c' e' w
  have hg : Tryd.prog.eqGuardType Tryd.prog.depth 28 = false := by kernel_rfl
  have h1 : (eqGuard .neq 28 x y (.agg (dcells a b c e).toArray) (.agg (dcells a' b' c' e').toArray)).run Tryd.prog w = .ok () w := by
    simp only [eqGuard, Bool.not_true, Bool.false_eq_true, if_false, Sem.run_bind, run_program, Result.andThen_ok, hg, Bool.not_false, if_true, Sem.run_pure]
  rw [Sem.run_bind, h1]
  simp only [Result.andThen_ok, binOp, Sem.run_bind, h, Sem.run_pure]

/-- The words of a message, as they come. -/
def w0 (m : Msg) : List (List UInt8) := if classOf m.kind = 0 then [[107, 105, 110, 100], dig m.kind] else [kindNames.getD m.kind.toNat []]
def w1 (m : Msg) : List (List UInt8) := w0 m ++ [dig m.from_ ++ [62] ++ dig m.to, [108, 105, 110, 101], dig m.line]
def w2 (m : Msg) : List (List UInt8) := w1 m ++ (if m.asker = 0 then [] else [[97, 115, 107, 101, 114], dig m.asker])
def w3 (m : Msg) : List (List UInt8) := w2 m ++ (if m.acks = 0 then [] else [[97, 99, 107, 115], dig m.acks])
def w4 (m : Msg) : List (List UInt8) := w3 m ++ (if m.alone then [[97, 108, 111, 110, 101]] else [])
def w5 (m : Msg) : List (List UInt8) := w4 m ++ (if m.d0 = 0 ∧ m.d1 = 0 ∧ m.d2 = 0 ∧ m.d3 = 0 then [] else [[100, 97, 116, 97], dig m.d0, dig m.d1, dig m.d2, dig m.d3])
def textOf (m : Msg) : List UInt8 := Lib.join (w5 m) [32]
theorem w_len (m : Msg) : (w0 m).length ≤ 2 ∧ (w1 m).length ≤ 5 ∧ (w2 m).length ≤ 7 ∧ (w3 m).length ≤ 9 ∧ (w4 m).length ≤ 10 ∧ (w5 m).length ≤ 15 := by
  have h0 : (w0 m).length ≤ 2 := by unfold w0; split <;> simp
  have h1 : (w1 m).length ≤ 5 := by unfold w1; simp; omega
  have h2 : (w2 m).length ≤ 7 := by unfold w2; split <;> simp <;> omega
  have h3 : (w3 m).length ≤ 9 := by unfold w3; split <;> simp <;> omega
  have h4 : (w4 m).length ≤ 10 := by unfold w4; split <;> simp <;> omega
  have h5 : (w5 m).length ≤ 15 := by unfold w5; split <;> simp <;> omega
  exact ⟨h0, h1, h2, h3, h4, h5⟩

/-- The box of the message, the row of words. -/
structure TxS (w : World) (m : Msg) (p : Option Addr) (cap : Nat) (ws : List (List UInt8)) (V : World) : Prop where
  box : V.heap[w.heap.size]? = some (.cells m.val.cells 30 (0, 0))
  own : OwnS strE 9 (w.heap.size + 1) V p cap ws
  bel : Below w.heap.size w V
theorem TxS.below {w V V2 : World} {m : Msg} {p : Option Addr} {cap : Nat} {ws : List (List UInt8)} (h : TxS w m p cap ws V) (hb : Below V.heap.size V V2) : TxS w m p cap ws V2 :=
  ⟨block_below hb h.box, h.own.below hb, h.bel.trans (hb.mono h.bel.size)⟩

theorem app_words {w V : World} {m : Msg} {p : Option Addr} {cap n c : Nat} {ws : List (List UInt8)} (news : List (List UInt8)) (h : TxS w m p cap ws V) (hn : news.length = n) (hlen : ws.length + n ≤ 100) {K : Value → World → Prop}
    (k : ∀ p' cap' W, TxS w m p' cap' (ws ++ news) W → K (.slice p' (ws ++ news).length cap') W) :
    SatR ((Builtin.append_ #[46, 46] 46 #[.slice p ws.length cap, .slice (some ⟨V.heap.size, 0, none⟩) n c]).run Tryd.prog (V.alloc (.cells (news.map strV).toArray 9))) K := by
  have hs := hlt h.box
  refine app_own (E := strE) (news := news) (B := w.heap.size + 1) Tryd.underlying46 (ttOk.get 9 _ rfl) rfl rfl rfl (h.own.alloc _) hn (by rw [strE_flat]; exact cells_new) (by simp; omega) (by omega) (by show (ws.length + n) * 16 ≤ 140737488355328; omega) ?_
  intro p' cap' W ho hg hb _
  refine k p' cap' W ⟨?_, ho, (h.bel.alloc h.bel.size _).trans (hb.mono (by omega))⟩
  rw [hb.block _ (by omega)]
  exact hold _ h.box
end Go.Proofs.YtkekidalckflhaaDoor
