/- Contracts of functions, and plain facts, for the law that the last text of this claim proves. -/
import Derived.CallsIn
import Derived.OrdersIn
import Derived.Below
import Derived.RangeFuncLeaves
import Derived.Laws.StructEq
import Derived.Laws.Rows
import Derived.RangeFuncSeq
import Derived.Deep.LoopGhost
import Derived.Laws.AppendOwn
import Derived.Maps.AppendAt
import Derived.Laws.AppendOwnNone
import Derived.KernelRfl
import Derived.Test.YtkpaomeeknegpaaGreatDoorProg
import GoSem.Instr.MapEntry
import Derived.ChangeKeysEq
import Derived.RangeFuncIn
import Derived.RangeFuncNested
import Derived.Lib.AppendZerosOnto
import Derived.Laws.OwnMore
import Derived.Laws.MakeOwn
set_option linter.unusedSimpArgs false
set_option linter.unusedVariables false
namespace Go
abbrev Ja:=@Nat.exists_ge_and_testBit_of_ge_two_pow
abbrev Jb:=@List.set_eq_take_append_cons_drop
abbrev Jc:=@Array.all_eq_true_iff_forall_mem
abbrev Jd:=@List.take_succ_eq_append_getElem
abbrev Je:=@List.eq_nil_iff_forall_not_mem
abbrev Jf:=@List.eq_nil_of_length_eq_zero
abbrev Jg:=@List.take_append_of_le_length
abbrev Jh:=@Array.getElem?_setIfInBounds
abbrev Ji:=@Array.getD_eq_getD_getElem?
abbrev Jj:=@List.drop_length_add_append
abbrev Jk:=@Array.getElem?_eq_some_iff
abbrev Jl:=@Int.fdiv_eq_ediv_of_nonneg
abbrev Jm:=@List.getD_eq_getElem?_getD
abbrev Jn:=@List.getElem?_append_right
abbrev Jo:=@Array.getElem?_eq_getElem
abbrev Jp:=@Classical.byContradiction
abbrev Jq:=@List.drop_eq_getElem_cons
abbrev Jr:=@List.getElem?_append_left
abbrev Js:=@List.getElem?_eq_some_iff
abbrev Jt:=@List.isEmpty_eq_false_iff
abbrev Ju:=@List.eq_of_mem_replicate
abbrev Jv:=@List.getElem?_eq_getElem
abbrev Jw:=@List.getElem?_cons_succ
abbrev Jy:=@List.head_eq_of_cons_eq
abbrev Jz:=@Nat.add_sub_cancel_left
abbrev JA:=@List.drop_eq_nil_of_le
abbrev JB:=@List.drop_of_length_le
abbrev JC:=@List.filter_eq_nil_iff
abbrev JD:=@List.getElem?_set_self
abbrev JE:=@List.getElem_cons_drop
abbrev JF:=@List.take_of_length_le
abbrev JH:=@Nat.testBit_lt_two_pow
abbrev JI:=@Array.mem_of_getElem?
abbrev JJ:=@List.getElem?_eq_none
abbrev JK:=@List.getElem?_reverse
abbrev JL:=@List.length_filter_le
abbrev JM:=@List.length_replicate
abbrev JN:=@List.mem_append_right
abbrev JO:=@List.set_append_right
abbrev JP:=@List.take_append_drop
abbrev JQ:=@Nat.eq_of_beq_eq_true
abbrev JR:=@Nat.le_of_ble_eq_true
abbrev JS:=@Array.toList_extract
abbrev JT:=@List.contains_eq_mem
abbrev JU:=@List.getElem?_set_ne
abbrev JV:=@List.mem_append_left
abbrev JW:=@List.mem_cons_of_mem
abbrev JY:=@List.mem_of_getElem?
abbrev JZ:=@List.mem_of_mem_take
abbrev Ka:=@List.pairwise_append
abbrev Kb:=@List.reverse_reverse
abbrev Kc:=@Nat.div_lt_of_lt_mul
abbrev Kd:=@Nat.eq_of_testBit_eq
abbrev Ke:=@Nat.pow_le_pow_right
abbrev Kf:=@Nat.pow_lt_pow_right
abbrev Kg:=@List.flatMap_append
abbrev Kh:=@List.getElem?_range
abbrev Ki:=@List.getElem_of_mem
abbrev Kj:=@List.length_reverse
abbrev Kk:=@List.map_congr_left
abbrev Kl:=@List.mem_map_of_mem
abbrev Km:=@List.reverse_append
abbrev Kn:=@List.takeWhile_cons
abbrev Ko:=@Nat.testBit_two_pow
abbrev Kq:=@Go.run_enterLoop_outer
abbrev Kr:=@Array.foldl_toList
abbrev Ks:=@BitVec.toNat_ofInt
abbrev Kt:=@Bool.false_eq_true
abbrev Ku:=@Bool.false_ne_true
abbrev Kv:=@List.filter_append
abbrev Kw:=@List.getElem?_drop
abbrev Kx:=@List.getElem?_take
abbrev Ky:=@List.getElem_range
abbrev Kz:=@List.mem_cons_self
abbrev KA:=@List.mem_singleton
abbrev KB:=@List.ne_nil_of_mem
abbrev KC:=@List.set_cons_succ
abbrev KD:=@Nat.and_one_is_mod
abbrev KE:=@Nat.lt_of_le_of_lt
abbrev KF:=@Nat.lt_of_lt_of_le
abbrev KG:=@Nat.pos_of_ne_zero
abbrev KH:=@UInt8.toNat_ofNat'
abbrev KI:=@of_decide_eq_false
abbrev KJ:=@Bool.not_eq_true'
abbrev KK:=@Int.toNat_natCast
abbrev KL:=@List.all_eq_false
abbrev KM:=@List.any_eq_false
abbrev KN:=@List.append_assoc
abbrev KO:=@List.ext_getElem?
abbrev KQ:=@List.filter_congr
abbrev KR:=@List.flatMap_cons
abbrev KS:=@List.foldl_append
abbrev KT:=@List.getElem?_map
abbrev KU:=@List.length_range
abbrev KV:=@List.reverse_cons
abbrev KW:=@List.size_toArray
abbrev KX:=@Nat.or_lt_two_pow
abbrev KY:=@Option.some.injEq
abbrev KZ:=@Result.andThen_ok
abbrev Qa:=@not_true_eq_false
abbrev Qb:=@of_decide_eq_true
abbrev Qc:=@Go.run_storeCells_at
abbrev Qd:=@Array.toList_inj
abbrev Qe:=@Array.toList_map
abbrev Qf:=@BitVec.toNat_and
abbrev Qg:=@Bool.and_eq_true
abbrev Qh:=@Bool.not_eq_true
abbrev Qi:=@List.all_eq_true
abbrev Qj:=@List.any_eq_true
abbrev Qk:=@List.cons_append
abbrev Ql:=@List.drop_length
abbrev Qm:=@List.filter_cons
abbrev Qn:=@List.flatMap_map
abbrev Qo:=@List.flatMap_nil
abbrev Qp:=@List.getElem_map
abbrev Qq:=@List.isEmpty_iff
abbrev Qr:=@List.length_cons
abbrev Qs:=@List.length_drop
abbrev Qt:=@List.length_take
abbrev Qu:=@List.not_mem_nil
abbrev Qv:=@List.take_length
abbrev Qw:=@Nat.and_le_right
abbrev Qx:=@Nat.le_add_right
abbrev Qy:=@Nat.lt_of_not_le
abbrev Qz:=@Nat.lt_succ_self
abbrev QA:=@Nat.min_le_right
abbrev QB:=@Nat.mod_eq_of_lt
abbrev QC:=@Nat.zero_testBit
abbrev QD:=@Go.World.size_alloc
abbrev QE:=@decide_eq_decide
abbrev QF:=@Bool.or_eq_true
abbrev QG:=@Int.natCast_mul
abbrev QH:=@List.all_append
abbrev QI:=@List.append_nil
abbrev QJ:=@List.cons.injEq
abbrev QK:=@List.foldl_cons
abbrev QL:=@List.length_map
abbrev QM:=@List.length_nil
abbrev QN:=@List.length_set
abbrev QO:=@List.map_append
abbrev QQ:=@List.mem_append
abbrev QR:=@List.mem_filter
abbrev QS:=@List.nil_append
abbrev QT:=@List.nodup_cons
abbrev QU:=@List.range_succ
abbrev QV:=@List.take_left'
abbrev QW:=@Nat.and_le_left
abbrev QX:=@Nat.div_add_mod
abbrev QY:=@Nat.min_eq_left
abbrev QZ:=@Nat.not_lt_zero
abbrev Ua:=@Nat.testBit_and
abbrev Ub:=@Nat.two_pow_pos
abbrev Uc:=@Option.map_some
abbrev Ud:=@Option.some.inj
abbrev Ue:=@UInt8.toNat_inj
abbrev Uf:=@decide_eq_false
abbrev Ug:=@Bool.and_false
abbrev Uh:=@Bool.false_and
abbrev Ui:=@List.drop_drop
abbrev Uj:=@List.drop_left
abbrev Uk:=@List.drop_zero
abbrev Ul:=@List.mapM_cons
abbrev Um:=@List.mem_range
abbrev Un:=@List.take_zero
abbrev Uo:=@Nat.mul_le_mul
abbrev Up:=@Nat.testBit_or
abbrev Uq:=@decide_eq_true
abbrev Ur:=@Go.run_underlying
abbrev Us:=@Go.Addr.mk.injEq
abbrev Ut:=@Bool.false_or
abbrev Uu:=@Bool.not_true
abbrev Uv:=@Bool.or_false
abbrev Uw:=@Bool.true_and
abbrev Ux:=@Int.ofNat.inj
abbrev Uy:=@List.all_cons
abbrev Uz:=@List.any_cons
abbrev UA:=@List.map_cons
abbrev UB:=@List.mem_cons
abbrev UC:=@Nat.add_assoc
abbrev UD:=@Nat.mul_assoc
abbrev UE:=@Prod.mk.injEq
abbrev UF:=@Bool.not_not
abbrev UG:=@List.map_map
abbrev UH:=@List.map_set
abbrev UI:=@List.mem_map
abbrev UJ:=@Nat.add_comm
abbrev UK:=@Nat.add_zero
abbrev UL:=@Nat.le_trans
abbrev UM:=@Nat.mul_comm
abbrev UN:=@Nat.sub_self
abbrev UO:=@Nat.sub_zero
abbrev UP:=@Nat.succ_mul
abbrev UQ:=@Nat.zero_add
abbrev UR:=@Nat.zero_mul
abbrev US:=@Sem.run_bind
abbrev UT:=@Sem.run_pure
abbrev UU:=@Nat.add_mul
abbrev UV:=@Nat.le_refl
abbrev UW:=@Nat.mul_one
abbrev UX:=@Nat.one_mul
abbrev UY:=@Nat.zero_le
abbrev UZ:=@Go.run_endLoop
abbrev Ga:=@Go.RowKit.Below.refl
abbrev Gb:=@Go.Calls.mono
abbrev Gc:=@Nat.ble_eq
abbrev Gd:=@Nat.blt_eq
abbrev Ge:=@Nat.mod_lt
abbrev Gf:=@And.intro
abbrev Gg:=@Go.wpIn_mono
abbrev Gh:=@and_true
abbrev Gi:=@congrArg
abbrev Gj:=@if_false
abbrev Gk:=@or_false
abbrev Gl:=@if_true
abbrev Gm:=@if_neg
abbrev Gn:=@if_pos
abbrev Gp:=@absurd
abbrev Wd:=World
abbrev OA:=Option Addr
noncomputable abbrev PG:=Go.Proofs.Tryz.prog
end Go
namespace Go
open Go.RowKit
abbrev At0 (b:Nat):Value := .pointer (some ⟨b,0,none⟩)
theorem gE {α:Type _} {l:List α} {i:Nat} (h:i<l.length):l[i]?=some l[i]:=Jv h
theorem bAT (a b:Bool):((a&&b)=true)=(a=true/\b=true):=Qg a b
theorem dE {p:Prop} [Decidable p]:(decide p=true)=p:=decide_eq_true_eq
theorem cmo {P:Program} {f:FuncId} {args:Array Value} {w:Wd} {R R':Ending->Wd->Prop} (h:Calls P f args w R) (k:∀ e w',R e w'->R' e w'):Calls P f args w R':=h.mono k
theorem nL {a b c:Nat} (h:a<b) (k:b<=c):a<c:=KF h k
theorem wz (w:Wd) (o:Obj):(w.alloc o).heap.size=w.heap.size+1:=QD w o
theorem lap {α:Type _} {a b:List α}:(a++b).length=a.length+b.length:=List.length_append
theorem tsg {α:Type _} {i:Nat} {l:List α} (h:i<l.length):l.take (i+1)=l.take i++[l[i]]:=Jd h
theorem gDe {α:Type _} {l:List α} {i:Nat} {a:α}:l.getD i a=(l[i]?).getD a:=Jm
theorem gM {α:Type _} {l:List α} {i:Nat} (h:i<l.length):l[i]∈l:=List.getElem_mem h
theorem zdc {n k:Nat} (h:k<n):n-(k+1)<n-k:=by omega
abbrev Bw (w X:Wd):Prop:=Below w.heap.size w X
theorem zst {w X Y:Wd} (a:Below w.heap.size w X) (b:Below X.heap.size X Y):Below w.heap.size w Y:=a.trans (b.mono a.size)
theorem zba (w:Wd) (o:Obj):Below w.heap.size w (w.alloc o):=(Ga _ w).alloc (UV _) _
theorem dT {p:Prop} [Decidable p] (h:decide p=true):p:=Qb h
theorem dF {p:Prop} [Decidable p] (h:decide p=false):¬ p:=KI h
end Go
namespace Go.Vc
open Go.RowKit
def FR (r:Option Nat):Fence:={ fn:=fun _=>True,depth:=none,alive:=false,round:=r }
abbrev VEnv:=List (Nat×Value)
def VEnv.find:VEnv->Nat->Option Value
 | [],_=>none
 | (k,v)::r,t=>match Nat.beq k t with
  | true=>some v
  | false=>VEnv.find r t
structure Env where
 vs:VEnv
 ds:List Deferred:=[]
def Env.find (E:Env) (t:Nat):Option Value:=VEnv.find E.vs t
inductive TK where
 | other | bool | string | int (k:IntKind) | slice (e esz:Nat) | array (n e esz:Nat) (eagg:Bool) | struct (fs:List (Nat×Nat×Bool)) | map (k v:Nat) | ptr (e:Nat)
structure TI where
 kind:TK
 size:Nat
 agg:Bool
 bytes:Nat
 zero:Option (List Value)
abbrev TT:=List (Nat×TI)
def TT.get:TT->Nat->Option TI
 | [],_=>none
 | (k,v)::r,t=>match Nat.beq k t with
  | true=>some v
  | false=>TT.get r t
def zfs (d:TypeDesc):Bool:=match d with | .struct _ | .array _ _=>true | _=>false
def zgm (P:Program) (t:Nat):Prop:=(∃ i,P.info? t=some i)/\∃ d,P.underlying t=some d
structure TIok (P:Program) (t:Nat) (i:TI):Prop where
 info:∃ inf,P.info? t=some inf/\inf.size=i.size/\inf.bytes=i.bytes/\∀ z,i.zero=some z->∃ v,inf.zero=some v/\v.cells.toList=z
 desc:∃ d,P.underlying t=some d/\zfs d=i.agg /\
  match i.kind with
  | .other=>True
  | .bool=>d = .bool
  | .string=>d = .string
  | .int k=>d = .int k
  | .slice e esz=>d = .slice e/\P.cellsOf e=esz/\zgm P e
  | .array n e esz eagg=>d = .array n e/\P.cellsOf e=esz/\((P.underlying e).map zfs).getD false=eagg/\zgm P e
  | .struct fs=>∃ F:Array Field,d = .struct F/\fs=F.toList.map (fun f=>(f.offset,P.cellsOf f.type,((P.underlying f.type).map zfs).getD false))/\∀ f∈F.toList,zgm P f.type
  | .map k v=>d = .map k v
  | .ptr e=>d = .pointer e
def zkR (g:Nat):List Nat->Bool
 | []=>true
 | x::r=>match Nat.beq x g with
  | true=>false
  | false=>zkR g r
structure Sig where
 P:Program
 τ:TT
 n:Nat
 lo:Nat
 hi:Nat
 r:Option Nat:=none
 no:List Nat:=[]
structure SigOk (S:Sig):Prop where
 ty:∀ t i,TT.get S.τ t=some i->TIok S.P t i
 call:∀ g,S.lo<=g->g<S.hi->zkR g S.no=true->∀ args w,(callFunc g args).run S.P w = .ok (.enter g args) w
 mixed:S.P.follows .mixedOrders=true
structure Agrees (S:Sig) (a:Act) (E:Env):Prop where
 size:a.tmps.size=S.n
 defers:a.defers=E.ds
 val:∀ t v,Env.find E t=some v->a.tmps[t]?=some v
def opd (E:Env):Operand->Option Value
 | .tmp t=>Env.find E t
 | .const v=>some v
 | .global g=>some (.pointer (some ⟨g,0,none⟩))
 | .func f=>some (.func (.func f) #[] #[])
theorem Agrees.eval {S:Sig} {a:Act} {E:Env} (h:Agrees S a E) {x:Operand} {v:Value} (hx:opd E x=some v):a.eval x=v:=by
 cases x with
 | tmp t =>
  have:=h.val t v hx;simp [Act.eval,this]
 | const u=>simpa [opd,Act.eval] using hx
 | global g=>simpa [opd,Act.eval] using hx
 | func f=>simpa [opd,Act.eval] using hx
inductive CovL (E:VEnv):VEnv->Prop
 | nil:CovL E []
 | cons {t:Nat} {v:Value} {r:VEnv} (h:VEnv.find E t=some v) (k:CovL E r):CovL E ((t,v)::r)
structure Cov (E E0:Env):Prop where
 c:CovL E.vs E0.vs
 d:E.ds=E0.ds
theorem CovL.find {E E0:VEnv} (h:CovL E E0):∀ t v,VEnv.find E0 t=some v->VEnv.find E t=some v:=by
 induction h with
 | nil=>intro t v h;simp [VEnv.find] at h
 | @cons t u r h _ ih =>
  intro t' v hf;simp only [VEnv.find] at hf
  cases hb:Nat.beq t t' with
  | true =>
   rw [hb] at hf;have:t=t':=JQ hb;subst this;simp only [KY] at hf;subst hf;exact h
  | false=>rw [hb] at hf;exact ih t' v hf
theorem Agrees.cov {S:Sig} {a:Act} {E E0:Env} (h:Agrees S a E) (c:Cov E E0):Agrees S a E0 :=
 ⟨h.size,h.defers.trans c.d,fun t v hf=>h.val t v (c.c.find t v hf)⟩
def zgn (dst:Option Nat) (v:Value) (E:Env):Env:=match dst with | some d=>⟨(d,v)::E.vs,E.ds⟩ | none=>E
def znd (n:Nat):Option Nat->Bool
 | none=>true
 | some d=>Nat.blt d n
theorem Agrees.put {S:Sig} {a:Act} {E:Env} (h:Agrees S a E) {dst:Option Nat} (hd:znd S.n dst=true) (v:Value):Agrees S (a.put dst v) (zgn dst v E):=by
 cases dst with
 | none=>exact h
 | some d =>
  have hd':d<S.n:=by simpa [znd,Gd] using hd
  refine⟨by simp [Act.put,h.size],h.defers,fun t u hf=>?_⟩;simp only [zgn,Env.find,VEnv.find] at hf
  cases hb:Nat.beq d t with
  | true =>
   rw [hb] at hf;have e:d=t:=JQ hb;subst e;simp only [KY] at hf;subst hf;simp [Act.put,h.size,hd']
  | false =>
   rw [hb] at hf;have e:d≠t:=fun e=>by subst e;simp at hb
   have:=h.val t u hf;simp [Act.put,e,this]
def Ar (k:IntKind) (e:Int) (K:Value->Prop):Prop:=∃ r,k.wrap e=r/\K (.int k r)
def zK (w:Wd) (p:Addr) (vs:List Value):Prop:=∀ i v,vs[i]?=some v->w.cell? (p.add i)=some v
def SatR {α:Type} (r:Result α) (K:α->Wd->Prop):Prop:=∃ v w',r = .ok v w'/\K v w'
theorem SatR.mk {α:Type} {r:Result α} {K:α->Wd->Prop} {v:α} {w':Wd} (h:r = .ok v w') (k:K v w'):SatR r K:=⟨v,w',h,k⟩
def Br (b:Bool) (A B:Prop):Prop:=(b=true->A)/\(b=false->B)
def zsN (P:Program) (d:TypeDesc):TK->Bool
 | .other=>true
 | .bool=>(match d with | .bool=>true | _=>false)
 | .string=>(match d with | .string=>true | _=>false)
 | .int k=>(match d with | .int k'=>decide (k'=k) | _=>false)
 | .slice e esz=>(match d with | .slice e'=>Nat.beq e' e&&Nat.beq (P.cellsOf e) esz&&(P.info? e).isSome&&(P.underlying e).isSome | _=>false)
 | .array n e esz eagg=>(match d with | .array n' e'=>Nat.beq n' n&&Nat.beq e' e&&Nat.beq (P.cellsOf e) esz&&(((P.underlying e).map zfs).getD false == eagg)&&(P.info? e).isSome&&(P.underlying e).isSome | _=>false)
 | .struct fs=>(match d with
  | .struct F=>decide (fs=F.toList.map (fun f=>(f.offset,P.cellsOf f.type,((P.underlying f.type).map zfs).getD false)))&&F.toList.all fun f=>(P.info? f.type).isSome&&(P.underlying f.type).isSome
  | _=>false)
 | .map k v=>(match d with | .map k' v'=>Nat.beq k' k&&Nat.beq v' v | _=>false)
 | .ptr e=>(match d with | .pointer e'=>Nat.beq e' e | _=>false)
def zqk (P:Program) (t:Nat) (i:TI):Bool :=
 match P.underlying t with
 | some d=>(zfs d == i.agg)&&zsN P d i.kind
 | none=>false
theorem jV {P:Program} {t:Nat} (h1:(P.info? t).isSome=true) (h2:(P.underlying t).isSome=true):zgm P t :=
 ⟨Option.isSome_iff_exists.1 h1,Option.isSome_iff_exists.1 h2⟩
theorem zuQ {P:Program} {t:Nat} {i:TI} (h1:(P.info? t).map (fun x=>(x.size,x.bytes))=some (i.size,i.bytes))
  (h2:∀ z,i.zero=some z->((P.info? t).bind (fun x=>x.zero)).map (fun v=>v.cells.toList)=some z) (h3:zqk P t i=true):TIok P t i:=by
 obtain⟨inf,hi,he⟩:=Option.map_eq_some_iff.1 h1;simp only [UE] at he;refine⟨⟨inf,hi,he.1,he.2,fun z hz=>?_⟩,?_⟩
 ·have:=h2 z hz;rw [hi] at this;obtain⟨v,hv,hc⟩:=Option.map_eq_some_iff.1 this;exact⟨v,hv,hc⟩
 ·unfold zqk at h3
  split at h3
  ·rename_i d hd;simp only [bAT,beq_iff_eq] at h3;refine⟨d,hd,h3.1,?_⟩;have h4:=h3.2;generalize i.kind=k at h4
   cases k <;> simp only [zsN] at h4
   case other=>trivial
   case bool=>split at h4 <;> simp_all
   case string=>split at h4 <;> simp_all
   case int k=>split at h4 <;> simp_all
   case slice e esz =>
    split at h4
    ·simp only [bAT] at h4;obtain⟨⟨⟨a,b⟩,c⟩,e⟩:=h4;exact⟨by rw [JQ a],JQ b,jV c e⟩
    ·cases h4
   case array n e esz eagg =>
    split at h4
    ·simp only [bAT,beq_iff_eq] at h4;obtain⟨⟨⟨⟨⟨a,b⟩,c⟩,e⟩,f⟩,g⟩:=h4;have a':=JQ a;have b':=JQ b;subst a' b';exact⟨rfl,JQ c,e,jV f g⟩
    ·cases h4
   case struct fs =>
    split at h4
    ·rename_i F;simp only [bAT,dE,Qi] at h4;exact⟨F,rfl,h4.1,fun f hf=>jV (h4.2 f hf).1 (h4.2 f hf).2⟩
    ·cases h4
   case map k v =>
    split at h4
    ·simp only [bAT] at h4;rw [JQ h4.1,JQ h4.2]
    ·cases h4
   case ptr e =>
    split at h4
    ·rw [JQ h4]
    ·cases h4
  ·cases h3
inductive TTok (P:Program):TT->Prop
 | nil:TTok P []
 | cons {t:Nat} {i:TI} {r:TT} (h:TIok P t i) (k:TTok P r):TTok P ((t,i)::r)
theorem TTok.get {P:Program}:∀ {τ:TT},TTok P τ->∀ t i,TT.get τ t=some i->TIok P t i
 | [],_,t,i,h=>by simp [TT.get] at h
 | (u,j)::r,.cons hj hr,t,i,h=>by
  simp only [TT.get] at h
  cases hb:Nat.beq u t with
  | true =>
   rw [hb] at h;simp only [KY] at h;have e:=JQ hb;subst e h;exact hj
  | false=>rw [hb] at h;exact hr.get t i h
def zqA (P:Program) (lo hi:Nat) (no:List Nat):Bool :=
 (List.range (hi-lo)).all fun k=>match zkR (lo+k) no with
  | false=>true
  | true=>match P.funcs[lo+k]? with
   | some fn => fn.name != "runtime.NumGoroutine" && fn.body.isSome
   | none=>false
theorem zt3 {P:Program} {lo hi:Nat} {no:List Nat} (h:zqA P lo hi no=true):∀ g,lo<=g->g<hi->zkR g no=true->∀ args w,(callFunc g args).run P w = .ok (.enter g args) w:=by
 intro g h1 h2 hn args w;simp only [zqA,Qi,Um] at h;have h3:=h (g-lo) (by omega);rw [show lo+(g-lo)=g by omega,hn] at h3;dsimp only at h3
 split at h3
 ·rename_i fn hf;simp only [bAT,bne_iff_ne,ne_eq] at h3;simp [callFunc,hf,h3.1,Option.isSome_iff_ne_none.1 h3.2]
 ·cases h3
theorem nm {α:Sort _} (a:α):∃ x,x=a:=⟨a,rfl⟩
def ztU (E:VEnv):VEnv->List (Option Value)
 | []=>[]
 | (t,_)::r=>VEnv.find E t::ztU E r
def ztT:VEnv->List (Option Value)
 | []=>[]
 | (_,v)::r=>some v::ztT r
theorem zuA {E:VEnv}:∀ {E0:VEnv},ztU E E0=ztT E0->CovL E E0
 | [],_ => .nil
 | (t,v)::r,h => .cons (Jy h) (zuA (List.tail_eq_of_cons_eq h))
theorem cvE {E E0:Env} (h:ztU E.vs E0.vs=ztT E0.vs) (d:E.ds=E0.ds):Cov E E0:=⟨zuA h,d⟩
theorem biE {b:Bool} {A B:Prop} (h:b=true->A) (k:b=false->B):(b=true->A)/\(b=false->B):=⟨h,k⟩
end Go.Vc
namespace Go.Sei
def els (s:Nat):List Nat:=(List.range 64).filter fun i=>s.testBit i
def ctz (s:Nat):Nat:=(els s).headD 64
def qI (s:Nat):Nat:=s&&&(s-1)
theorem ziw {s:Nat} (h:s≠0):∃ k m,s=2^k*(2*m+1):=by
 induction s using Nat.strongRecOn with
 | _ s ih =>
  by_cases hp:s%2=1
  ·exact⟨0,s/2,by rw [Nat.pow_zero,UX];omega⟩
  ·obtain⟨k,m,e⟩:=ih (s/2) (by omega) (by omega);refine⟨k+1,m,?_⟩;rw [Nat.pow_succ,UM (2^k) 2,UD,<- e];omega
theorem zdL (k a j:Nat):(2^k*a).testBit j=(decide (k<=j)&&a.testBit (j-k)):=by
 rw [Nat.testBit_two_pow_mul]
theorem zfp (m j:Nat):(2*m+1).testBit j=match j with | 0=>true | j+1=>m.testBit j:=by
 cases j with
 | zero=>rw [Nat.testBit_zero];simp
 | succ j=>rw [Nat.testBit_succ];congr 1;omega
theorem zly (m j:Nat):(2*m).testBit j=match j with | 0=>false | j+1=>m.testBit j:=by
 cases j with
 | zero=>rw [Nat.testBit_zero];simp
 | succ j=>rw [Nat.testBit_succ];congr 1;omega
theorem zlZ (k m:Nat):qI (2^k*(2*m+1))=2^k*(2*m):=by
 unfold qI;apply Kd;intro j;have h1:=Ub k;have e:2^k*(2*m+1)-1=2^k*(2*m)+(2^k-1):=by rw [Nat.mul_add,UW];omega
 rw [Ua,e,Nat.testBit_two_pow_mul_add _ (by omega),zdL,zdL];by_cases hj:j<k
 ·rw [Gn hj];have:¬ k<=j:=by omega
  simp [this]
 ·rw [Gm hj,zfp,zly];have:k<=j:=by omega
  cases h:j-k with
  | zero=>simp
  | succ i=>simp [this]
theorem zhr {n k m:Nat} (hn:0<n) (h:2^k*(2*m+1)<2^n):(2^k*(2*m+1))&&&(2^n-2^k*(2*m+1))=2^k:=by
 have hk:k<n:=by
  apply Qy;intro hk;have h1:2^n<=2^k:=Ke (by decide) hk;have h2:2^k*1<=2^k*(2*m+1):=Nat.mul_le_mul_left _ (by omega);omega
 have h1:=Ub k;have e64:2^n=2^k*2^(n-k):=by rw [<- Nat.pow_add];congr 1;omega
 have e63:2^(n-k)=2*2^(n-1-k):=by rw [<- Nat.pow_succ'];congr 1;omega
 have hm:2*m+1<2^(n-k):=by
  rw [e64] at h;exact Nat.lt_of_mul_lt_mul_left h
 have hm2:m<2^(n-1-k):=by omega
 have e:2^n-2^k*(2*m+1)=2^k*(2*(2^(n-1-k)-(m+1))+1):=by
  rw [e64,<- Nat.mul_sub];congr 1;omega
 rw [e];apply Kd;intro j;rw [Ua,zdL,zdL,zfp,zfp,Ko];by_cases hj:k<=j
 ·cases h:j-k with
  | zero =>
   have:k=j:=by omega
   simp [this]
  | succ i =>
   have:k≠j:=by omega
   show ((decide (k<=j)&&m.testBit i)&&(decide (k<=j)&&(2^(n-1-k)-(m+1)).testBit i))=decide (k=j);rw [Nat.testBit_two_pow_sub_succ hm2]
   cases m.testBit i <;> simp [this]
 ·have:k≠j:=by omega
  simp [hj,this]
theorem ziN {k m:Nat} (h:2^k*(2*m+1)<2^64):(2^k*(2*m+1))&&&(2^64-2^k*(2*m+1))=2^k:=zhr (by decide) h
theorem zgg {p:Nat->Bool} {n k:Nat} (hk:k<n) (h1:∀ i,i<k->p i=false) (h2:p k=true) :
  (List.range n).filter p=k::(List.range n).filter (fun i=>p i&&decide (i≠k)):=by
 have e:List.range n=List.range k++k::(List.range (n-k-1)).map (fun i=>k+1+i):=by
  apply List.ext_getElem
  ·simp;omega
  ·intro i h1 h2;rw [Ky];by_cases hi:i<k
   ·rw [List.getElem_append_left (by simpa using hi)];simp
   ·obtain⟨j,rfl⟩:∃ j,i=k+j:=⟨i-k,by omega⟩;rw [List.getElem_append_right (by simp)];simp only [KU,Jz]
    cases j with
    | zero=>simp
    | succ j=>simp;omega
 rw [e,Kv,Kv,Qm,Qm];have f1:(List.range k).filter p=[]:=by
  rw [JC];intro i hi;rw [h1 i (Um.1 hi)];decide
 have f2:(List.range k).filter (fun i=>p i&&decide (i≠k))=[]:=by
  rw [JC];intro i hi;rw [h1 i (Um.1 hi)];simp
 rw [f1,f2,h2];simp only [QS,Gl,ne_eq,Qa,decide_false,Ug,Kt,Gj];congr 1;apply KQ;intro x hx;obtain⟨i,_,rfl⟩:=UI.1 hx;have:k+1+i≠k:=by omega
 simp [this]
theorem jX {s:Nat} (h0:s≠0) (h:s<2^64):els s=ctz s::els (qI s)/\qI s<s/\s&&&(2^64-s)=2^ctz s/\ctz s<64:=by
 obtain⟨k,m,e⟩:=ziw h0;subst e;have h1:=Ub k;have hk:k<64:=by
  apply Qy;intro hk;have h2:2^64<=2^k:=Ke (by decide) hk;have h3:2^k*1<=2^k*(2*m+1):=Nat.mul_le_mul_left _ (by omega);omega
 have hh:els (2^k*(2*m+1))=k::els (2^k*(2*m)):=by
  unfold els;rw [zgg hk]
  ·congr 1;apply KQ;intro i _;rw [zdL,zdL,zfp,zly]
   cases hi:i-k with
   | zero =>
    by_cases hik:k<=i
    ·have:i=k:=(by omega);simp [this]
    ·simp [hik]
   | succ j =>
    have:i≠k:=(by omega);simp [this]
  ·intro i hi;rw [zdL];have:¬ k<=i:=by omega
   simp [this]
  ·rw [zdL,zfp];simp
 have hc:ctz (2^k*(2*m+1))=k:=by unfold ctz;rw [hh];rfl
 rw [hc,zlZ];refine⟨hh,?_,ziN h,hk⟩;rw [Nat.mul_add,UW];omega
theorem zhU {s:Nat} (h0:s≠0) (h:s<2^32):s&&&(2^32-s)=2^ctz s/\ctz s<32:=by
 obtain⟨h1,_,h2,h3⟩:=jX h0 (nL h (by decide));have hc:ctz s<32:=by
  have hm:ctz s∈els s:=by rw [h1];exact Kz
  unfold els at hm;have hb:=(QR.1 hm).2;apply Qy;intro hc;have:=JH (nL h (Ke (by decide) hc));rw [this] at hb;cases hb
 refine⟨?_,hc⟩;obtain⟨k,m,e⟩:=ziw h0;have h4:s&&&(2^64-s)=2^k:=by rw [e] at h ⊢;exact ziN (nL h (by decide))
 have h5:s&&&(2^32-s)=2^k:=by rw [e] at h ⊢;exact zhr (by decide) h
 rw [h5,<- h4,h2]
theorem zao:els 0=[]:=by
 unfold els;rw [JC];intro i _;simp
theorem zqh {s i:Nat} (h:i∈els s):i<64:=by
 unfold els at h;exact Um.1 (QR.1 h).1
theorem qW {s i:Nat}:i∈els s↔i<64/\s.testBit i=true:=by
 unfold els;rw [QR,Um]
end Go.Sei
namespace Go.Vc
open Go.RowKit
def qh (E:Env) (x:Operand) (f:Value->Prop):Prop:=match opd E x with | some v=>f v | none=>False
def zgR (E:Env):List Operand->(List Value->Prop)->Prop
 | [],f=>f []
 | x::r,f=>qh E x fun v=>zgR E r fun vs=>f (v::vs)
theorem zo {E:Env} {x:Operand} {f:Value->Prop} (h:qh E x f):∃ v,opd E x=some v/\f v:=by
 unfold qh at h
 split at h
 ·exact⟨_,by assumption,h⟩
 ·exact h.elim
theorem za9 {S:Sig} {E:Env}:∀ {l:List Operand} {f:List Value->Prop},zgR E l f->∃ vs,f vs/\∀ a,Agrees S a E->l.map a.eval=vs
 | [],f,h=>⟨[],h,fun _ _=>rfl⟩
 | x::r,f,h=>by
  obtain⟨v,hv,h⟩:=zo h;obtain⟨vs,hf,ha⟩:=za9 (S:=S) h;exact⟨v::vs,hf,fun a hag=>by simp only [UA,hag.eval hv,ha a hag]⟩
def znO (P:Program) (m:Sem Value) (K:Value->Prop):Prop:=∃ v,(∀ w,m.run P w = .ok v w)/\K v
def zi9 (P:Program) (w:Wd) (m:Sem Value) (K:Value->Prop):Prop:=∃ v,(∀ w2,Bw w w2->m.run P w2 = .ok v w2)/\K v
def kEq (k k':IntKind):Bool:=decide (k=k')
def zrG (op:BinOp) (k:IntKind) (a b:Int) (K:Value->Prop):Prop :=
 match op with
 | .lss=>K (.bool (decide (a<b)))
 | .leq=>K (.bool (decide (a<=b)))
 | .gtr=>K (.bool (decide (b<a)))
 | .geq=>K (.bool (decide (b<=a)))
 | .eql=>K (.bool (decide (a=b)))
 | .neq=>K (.bool (!decide (a=b)))
 | .add=>Ar k (a+b) K
 | .sub=>Ar k (a-b) K
 | .mul=>Ar k (a*b) K
 | .quo=>b≠0/\Ar k (a.tdiv b) K
 | .rem=>b≠0/\∃ r,a.tmod b=r/\K (.int k r)
 | .and=>∃ r,k.wrap ((BitVec.ofInt k.bits a&&&BitVec.ofInt k.bits b).toNat)=r/\K (.int k r)
 | .or=>∃ r,k.wrap ((BitVec.ofInt k.bits a|||BitVec.ofInt k.bits b).toNat)=r/\K (.int k r)
 | .xor=>∃ r,k.wrap ((BitVec.ofInt k.bits a ^^^ BitVec.ofInt k.bits b).toNat)=r/\K (.int k r)
 | .andNot=>∃ r,k.wrap ((BitVec.ofInt k.bits a &&& ~~~ BitVec.ofInt k.bits b).toNat)=r/\K (.int k r)
 | _=>False
def zsv (P:Program) (op:BinOp) (T:TypeId) (x y:Operand) (vx vy:Value) (K:Value->Prop):Prop :=
 match vx,vy with
 | .int k a,.int k' b =>
  match op with
  | .shl=>0<=b/\Ar k (a*2^(min b.toNat k.bits)) K
  | .shr=>0<=b/\∃ r,a.fdiv (2^(min b.toNat k.bits))=r/\K (.int k r)
  | op=>match kEq k k' with
   | true=>zrG op k a b K
   | false=>False
 | vx,vy=>znO P (do eqGuard op T x y vx vy;binOp op T vx vy) K
def zjL (o:Option TI) (f:Nat) (g:Nat->Nat->Bool->Prop):Prop :=
 match o with
 | some { kind := .struct fs,.. }=>(match fs[f]? with
  | some (off,sz,agg)=>g off sz agg
  | none=>False)
 | _=>False
def ziI (off sz:Nat) (agg:Bool) (cs:List Value) (K:Value->Prop):Prop :=
 match agg with
 | true=>K (.agg ((cs.drop off).take sz).toArray)
 | false=>match cs[off]? with
  | some v=>K v
  | none=>False
def idx (vi:Value) (n:Nat) (g:Nat->Prop):Prop :=
 match vi with
 | .int _ i=>∃ j:Nat,(j:Int)=i/\j<n/\g j
 | _=>False
def zeB (o:Option TI) (vx vi:Value) (K:Value->Prop):Prop :=
 match o with
 | some { kind := .slice _ esz,.. }=>(match vx with
  | .slice (some ⟨b,o,none⟩) len _=>idx vi len fun j=>K (.pointer (some ⟨b,o+j*esz,none⟩))
  | _=>False)
 | some { kind := .array n _ esz _,.. }=>(match vx with
  | .pointer (some ⟨b,o,none⟩)=>idx vi n fun j=>K (.pointer (some ⟨b,o+j*esz,none⟩))
  | _=>False)
 | _=>False
def bnd (o:Option Value) (dflt top:Nat) (g:Nat->Prop):Prop :=
 match o with
 | none=>g dflt
 | some (.int _ i)=>∃ j:Nat,(j:Int)=i/\j<=top/\g j
 | some _=>False
def jq (base:OA) (m l esz:Nat):OA:=if m=l then base else base.map (·.add (l*esz))
def zlP (o:Option TI) (vx:Value) (lo hi:Option Value) (K:Value->Prop):Prop :=
 match o with
 | some { kind := .slice _ esz,.. }=>(match vx with
  | .slice base len cap=>bnd hi len cap fun h=>bnd lo 0 h fun l=>K (.slice (jq base cap l esz) (h-l) (cap-l))
  | _=>False)
 | some { kind := .array n _ esz _,.. }=>(match vx with
  | .pointer (some a)=>bnd hi n n fun h=>bnd lo 0 h fun l=>K (.slice (jq (some a) n l esz) (h-l) (n-l))
  | _=>False)
 | some { kind := .string,.. }=>(match vx with
  | .string s=>bnd hi s.size s.size fun h=>bnd lo 0 h fun l=>K (.string (s.extract l h))
  | _=>False)
 | _=>False
def zka (E:Env) (o:Option Operand) (f:Option Value->Prop):Prop :=
 match o with
 | none=>f none
 | some x=>qh E x fun v=>f (some v)
def zha (l:List Value) (off:Nat):List Value->List Value
 | []=>l
 | v::r=>zha (l.set off v) (off+1) r
def zei (place:Nat->Option (Nat×Nat)) (cells:List Value):List (Nat×Value)->Option (List Value)
 | []=>some cells
 | (i,v)::qI=>match place i with
  | none=>none
  | some (off,sz)=>match Nat.beq v.cells.size sz&&Nat.ble (off+sz) cells.length with
   | true=>zei place (zha cells off v.cells.toList) qI
   | false=>none
def zia:List (Nat×Operand)->List Value->List (Nat×Value)
 | (i,_)::r,v::vs=>(i,v)::zia r vs
 | _,_=>[]
def zjy (fs:List (Nat×Nat×Bool)) (i:Nat):Option (Nat×Nat) :=
 match fs[i]? with
 | some (off,sz,_)=>some (off,sz)
 | none=>none
def zqD (o:Option TI) (ps:List (Nat×Operand)) (vs:List Value) (K:Value->Prop):Prop :=
 match o with
 | some { kind := .struct fs,zero:=some z,.. }=>∃ cells,zei (zjy fs) z (zia ps vs)=some cells/\K (.agg cells.toArray)
 | some { kind := .array _ _ esz _,zero:=some z,.. }=>∃ cells,zei (fun i=>some (i*esz,esz)) z (zia ps vs)=some cells/\K (.agg cells.toArray)
 | _=>False
def zcg (z:List Value):Nat->List Value
 | 0=>[]
 | n+1=>z++zcg z n
def isN (op:Op):Bool :=
 match op with
 | .move _ | .assign _ | .pick .. | .binOp .. | .unOp .. | .field .. | .index .. | .fieldAddr .. | .indexAddr .. | .slice .. | .extract .. | .makeFunc .. | .nilCheck _ | .build .. => true
 | _=>false
def zpw (S:Sig) (E:Env) (op:Op) (w:Wd) (K:Value->Prop):Prop :=
 match op with
 | .move x=>qh E x K
 | .assign x=>qh E x K
 | .pick c a b=>qh E c fun vc=>qh E a fun va=>qh E b fun vb=>(match vc with
  | .bool t=>K (match t with | true=>va | false=>vb)
  | _=>False)
 | .binOp op T x y _=>qh E x fun vx=>qh E y fun vy=>zsv S.P op T x y vx vy K
 | .unOp op _ x=>qh E x fun v=>(match op,v with
  | .not,.bool b=>K (.bool (!b))
  | .neg,.int k n=>Ar k (0-n) K
  | op,v=>znO S.P (Op.unary op v) K)
 | .convert s d x=>qh E x fun v=>(match TT.get S.τ s,TT.get S.τ d,v with
  | some _,some { kind := .int k,.. },.int _ n=>Ar k n K
  | _,_,v=>zi9 S.P w (convert s d v) K)
 | .field T x f=>qh E x fun v=>zjL (TT.get S.τ T) f fun off sz agg=>(match v with
  | .agg cs=>ziI off sz agg cs.toList K
  | _=>False)
 | .index T x i=>qh E x fun vx=>qh E i fun vi=>(match TT.get S.τ T,vx with
  | some { kind := .array n _ esz eagg,.. },.agg cs=>idx vi n fun j=>ziI (j*esz) esz eagg cs.toList K
  | some { kind := .string,.. },.string s=>idx vi s.size fun j=>∃ u,s.data.toList[j]?=some u/\K (.int .u8 u.toNat)
  | _,_=>False)
 | .fieldAddr T x f=>qh E x fun v=>zjL (TT.get S.τ T) f fun off sz _=>(match Nat.beq sz 0 with
  | true=>False
  | false=>(match v with
   | .pointer (some ⟨b,o,none⟩)=>K (.pointer (some ⟨b,o+off,none⟩))
   | _=>False))
 | .indexAddr T x i=>qh E x fun vx=>qh E i fun vi=>zeB (TT.get S.τ T) vx vi K
 | .slice T x lo hi mx=>qh E x fun vx=>zka E lo fun l=>zka E hi fun h=>(match mx with
  | none=>zlP (TT.get S.τ T) vx l h K
  | some _=>False)
 | .lookup T x i ok=>qh E x fun vx=>qh E i fun vi=>zi9 S.P w (Instr.lookup T vx vi ok) K
 | .build T ps=>zgR E (ps.toList.map (·.2)) fun vs=>zqD (TT.get S.τ T) ps.toList vs K
 | .extract t i=>qh E t fun v=>(match v with
  | .tuple vs=>(match vs.toList[i]? with
   | some u=>K u
   | none=>False)
  | _=>False)
 | .makeFunc fn first captured=>zgR E first.toList fun fs=>zgR E captured.toList fun cs=>K (.func fn fs.toArray cs.toArray)
 | .nilCheck x=>qh E x fun v=>(match v with
  | .pointer (some a)=>K (.pointer (some a))
  | .func (.func f) a b=>K (.func (.func f) a b)
  | _=>False)
 | .load T a=>qh E a fun v=>(match v with
  | .pointer (some p)=>(match TT.get S.τ T with
   | some { agg:=true,size:=sz,.. }=>∃ vs:List Value,vs.length=sz/\zK w p vs/\(p.block<w.heap.size)/\K (.agg vs.toArray)
   | some { agg:=false,.. }=>∃ u,w.cell? p=some u/\K u
   | none=>False)
  | _=>False)
 | .call c=>(match c.callee with
  | .builtin .len=>(match c.args.toList,c.argTypes.toList with
   | [x],[T]=>qh E x fun v=>(match TT.get S.τ T,v with
    | some { kind := .slice _ _,.. },.slice _ n _=>K (.int .i64 n)
    | some { kind := .string,.. },.string s=>K (.int .i64 s.size)
    | some { kind := .array n _ _ _,.. },_=>K (.int .i64 n)
    | _,_=>False)
   | _,_=>False)
  | _=>False)
 | _=>False
section
variable {P:Program} {w:Wd}
theorem zbp (b o:Nat) (j:Nat):(⟨b,o,none⟩:Addr).add j=⟨b,o+j,none⟩:=by
 unfold Addr.add;split <;> simp_all
theorem zpV {op:BinOp} {k:IntKind} {a b:Int} {K:Value->Prop} (T:TypeId) (x y:Operand) (h1:op ≠ .shl) (h2:op ≠ .shr) (h:zrG op k a b K) :
  ∃ v,K v/\∀ w,(do eqGuard op T x y (.int k a) (.int k b);binOp op T (.int k a) (.int k b):Sem Value).run P w = .ok v w:=by
 have hg:∀ w,(eqGuard op T x y (.int k a) (.int k b)).run P w = .ok () w:=by
  intro w;unfold eqGuard;cases op <;> simp
 have hb:∀ v,(∀ w,(binOp op T (.int k a) (.int k b)).run P w = .ok v w)->∀ w,(do eqGuard op T x y (.int k a) (.int k b);binOp op T (.int k a) (.int k b):Sem Value).run P w = .ok v w:=by
  intro v hv w;rw [US,hg w,KZ,hv w]
 cases op <;> simp only [zrG] at h
 case lss=>exact⟨_,h,hb _ fun w=>by simp [binOp,Op.intCmp]⟩
 case leq=>exact⟨_,h,hb _ fun w=>by simp [binOp,Op.intCmp]⟩
 case gtr=>exact⟨_,h,hb _ fun w=>by simp [binOp,Op.intCmp]⟩
 case geq=>exact⟨_,h,hb _ fun w=>by simp [binOp,Op.intCmp]⟩
 case eql=>exact⟨_,h,hb _ fun w=>by simp [binOp,Op.intCmp];rfl⟩
 case neq=>exact⟨_,h,hb _ fun w=>by simp [binOp,Op.intCmp];rfl⟩
 case add=>obtain⟨r,e,hk⟩:=h;exact⟨_,hk,hb _ fun w=>by simp [binOp,Op.intArith,e]⟩
 case sub=>obtain⟨r,e,hk⟩:=h;exact⟨_,hk,hb _ fun w=>by simp [binOp,Op.intArith,e]⟩
 case mul=>obtain⟨r,e,hk⟩:=h;exact⟨_,hk,hb _ fun w=>by simp [binOp,Op.intArith,e]⟩
 case quo=>obtain⟨h0,r,e,hk⟩:=h;exact⟨_,hk,hb _ fun w=>by simp [binOp,Op.intDiv,e,h0]⟩
 case rem=>obtain⟨h0,r,e,hk⟩:=h;exact⟨_,hk,hb _ fun w=>by simp [binOp,Op.intDiv,e,h0]⟩
 case and=>obtain⟨r,e,hk⟩:=h;exact⟨_,hk,hb _ fun w=>by simp only [binOp,ne_eq,Qa,Gj,Op.intBits,UT,e]⟩
 case or=>obtain⟨r,e,hk⟩:=h;exact⟨_,hk,hb _ fun w=>by simp only [binOp,ne_eq,Qa,Gj,Op.intBits,UT,e]⟩
 case xor=>obtain⟨r,e,hk⟩:=h;exact⟨_,hk,hb _ fun w=>by simp only [binOp,ne_eq,Qa,Gj,Op.intBits,UT,e]⟩
 case andNot=>obtain⟨r,e,hk⟩:=h;exact⟨_,hk,hb _ fun w=>by simp only [binOp,ne_eq,Qa,Gj,Op.intBits,UT,e]⟩
theorem zqF {op:BinOp} {T:TypeId} {x y:Operand} {vx vy:Value} {K:Value->Prop} (h:zsv P op T x y vx vy K) :
  ∃ v,K v/\∀ w,(do eqGuard op T x y vx vy;binOp op T vx vy:Sem Value).run P w = .ok v w:=by
 unfold zsv at h
 split at h
 ·rename_i k a k' b
  split at h
  ·obtain⟨h0,r,e,hk⟩:=h;exact⟨_,hk,fun w=>by simp [eqGuard,binOp,Op.shift,e,Int.not_lt.2 h0]⟩
  ·obtain⟨h0,r,e,hk⟩:=h;exact⟨_,hk,fun w=>by simp [eqGuard,binOp,Op.shift,e,Int.not_lt.2 h0]⟩
  ·rename_i n1 n2
   split at h
   ·rename_i hk;have:k=k':=(by simpa [kEq] using hk);subst this;exact zpV T x y n1 n2 h
   ·exact h.elim
 ·obtain⟨v,hv,hk⟩:=h;exact⟨v,hk,hv⟩
theorem ziH {off sz:Nat} {agg:Bool} {cs:Array Value} {K:Value->Prop} {t:TypeId} (h:ziI off sz agg cs.toList K)
  (ha:((P.underlying t).map zfs).getD false=agg) (hs:P.cellsOf t=sz) (hn:zgm P t) :
  ∃ v,K v/\∀ w,(part t cs off).run P w = .ok v w:=by
 obtain⟨⟨i,hi⟩,d,hd⟩:=hn;have hagg:∀ w,(isAgg t).run P w = .ok agg w:=by
  intro w;rw [hd] at ha;simp only [Uc,Option.getD_some] at ha;simp only [isAgg,US,Ur hd,KZ];rw [<- ha]
  cases d <;> rfl
 have hsz:∀ w,(sizeOf t).run P w = .ok sz w:=by
  intro w;rw [<- hs];simp [sizeOf,typeInfo,hi,Program.cellsOf]
 unfold ziI at h
 split at h
 ·refine⟨_,h,fun w=>?_⟩;simp only [part,US,hagg w,KZ,Gl,hsz w,UT];congr 2;apply Qd.1;simp [JS,List.extract_eq_take_drop]
 ·split at h
  ·rename_i v hv;refine⟨_,h,fun w=>?_⟩;have hv':cs[off]?=some v:=by simpa using hv
   simp only [part,US,hagg w,KZ,hv',Kt,Gj,UT]
  ·exact h.elim
theorem zaY {t:TypeId} {sz:Nat} (hn:zgm P t) (hs:P.cellsOf t=sz):∀ w,(sizeOf t).run P w = .ok sz w:=by
 intro w;obtain⟨⟨i,hi⟩,_⟩:=hn;rw [<- hs];simp [sizeOf,typeInfo,hi,Program.cellsOf]
theorem znG {o:Option Value} {top dflt:Nat} {code:BoundsCode} {g:Nat->Prop} (h:bnd o dflt top g) :
  ∃ j,g j/\j<=(match o with | none=>dflt | some _=>top)/\∀ w,(match o with | some v=>Instr.sliceBound v top code | none=>pure dflt:Sem Nat).run P w = .ok j w:=by
 unfold bnd at h
 split at h
 ·exact⟨dflt,h,UV _,fun w=>rfl⟩
 ·rename_i k i;obtain⟨j,rfl,hj,hg⟩:=h;refine⟨j,hg,hj,fun w=>?_⟩;have h1:(0:Int)<=(j:Int)/\(j:Int)<=(top:Int):=⟨by omega,by omega⟩;simp [Instr.sliceBound,asIntOf,h1]
 ·exact h.elim
theorem zbr {isSlice:Bool} {len cap:Nat} {lo hi:Option Value} {g:Nat->Nat->Prop} (h:bnd hi len cap fun h=>bnd lo 0 h fun l=>g h l) :
  ∃ l h,g h l/\∀ w,(Instr.sliceBounds isSlice len cap lo hi none).run P w = .ok (l,h,cap) w:=by
 obtain⟨hh,h2,_,r1⟩:=znG (P:=P) (code:=if isSlice then .sliceAcap else .sliceAlen) h;obtain⟨l,h3,_,r2⟩:=znG (P:=P) (code := .sliceB) h2;refine⟨l,hh,h3,fun w=>?_⟩;have e1:=r1 w;have e2:=r2 w;unfold Instr.sliceBounds
 cases hi <;> cases lo <;> simp_all
theorem zkH (off:Nat):∀ (vs:List Value) (j:Nat) (l:List Value),((vs.toArray.zipIdx j).foldl (fun cs (c,j)=>cs.setIfInBounds (off+j) c) l.toArray)=(zha l (off+j) vs).toArray
 | [],j,l=>by rw [<- Kr];simp [zha]
 | v::r,j,l=>by
  have ih:=zkH off r (j+1) (l.set (off+j) v);simp only [zha];rw [<- UC] at ih;rw [<- ih,<- Kr,<- Kr];simp
theorem zfg {place:Nat->Option (Nat×Nat)}:∀ (parts:List (Nat×Value)) (cells out:List Value),zei place cells parts=some out->Instr.fill place cells.toArray parts=some out.toArray
 | [],cells,out,h=>by simp only [zei,KY] at h;subst h;rfl
 | (i,v)::r,cells,out,h=>by
  simp only [zei] at h
  split at h
  ·cases h
  ·rename_i off sz hp
   split at h
   ·rename_i hc;simp only [bAT,Gc] at hc;have h1:=JQ hc.1;have ih:=zfg r _ out h;have e:=zkH off v.cells.toList 0 cells;simp only [UK] at e;simp only [Instr.fill,hp,h1,ne_eq,Qa,decide_false,Ut,KW,dE,gt_iff_lt];rw [Gm (by omega),<- ih];congr 1
   ·cases h
theorem zgP (z:List Value):∀ n,(zcg z n).length=n*z.length
 | 0=>by simp [zcg]
 | n+1=>by simp only [zcg,lap,zgP z n,UU];omega
theorem zj5 (z:List Value) (hz:0<z.length):∀ (n i:Nat),i<n*z.length->(zcg z n)[i]?=z[i%z.length]?
 | 0,i,h=>by omega
 | n+1,i,h=>by
  simp only [zcg,List.getElem?_append]
  split
  ·rename_i hi;rw [QB hi]
  ·rename_i hi;rw [UU] at h;rw [zj5 z hz n (i-z.length) (by omega)];rw [show i%z.length=(i-z.length)%z.length from Nat.mod_eq_sub_mod (by omega)]
theorem zmC (z:List Value) (hz:0<z.length) (n:Nat):((Array.range (n*z.length)).map (z.toArray[· % z.toArray.size]!))=(zcg z n).toArray:=by
 apply Array.ext
 ·simp [zgP]
 ·intro i h1 h2;have h1':i<n*z.length:=by simpa using h1
  have hm:i%z.length<z.length:=Ge _ hz;have:=zj5 z hz n i h1';rw [gE hm] at this;simp only [Array.getElem_map,Array.getElem_range,KW,List.getElem_toArray];have h3:(zcg z n)[i]?=some (zcg z n)[i]:=gE (by simpa using h2);rw [h3] at this;simp only [KY] at this;rw [this,getElem!_pos _ _ (by simpa using hm)];rfl
end
theorem zde {w w2:Wd} (hb:Bw w w2) {p:Addr} {u:Value} (h:w.cell? p=some u):w2.cell? p=some u :=
 (hb.cell (World.block_lt_of_cell? w p h)).trans h
theorem zfa {vi:Value} {n:Nat} {g:Nat->Prop} (h:idx vi n g):∃ k j,vi = .int k (j:Nat)/\j<n/\g j:=by
 unfold idx at h
 split at h
 ·rename_i k i;obtain⟨j,rfl,hj,hg⟩:=h;exact⟨k,j,rfl,hj,hg⟩
 ·exact h.elim
theorem zf9 {P:Program} {w:Wd} {T:Nat} {i:TI} (ht:TIok P T i) (ha:i.agg=true) {p:Addr} {vs:List Value} (hl:vs.length=i.size) (hc:zK w p vs) :
  (loadVar T p).run P w = .ok (.agg vs.toArray) w:=by
 obtain⟨⟨inf,hi,hs,_,_⟩,d,hd,hda,_⟩:=ht;have hagg:(isAgg T).run P w = .ok true w:=by
  simp only [isAgg,US,Ur hd,KZ];rw [<- ha,<- hda];cases d <;> rfl
 have hsz:(sizeOf T).run P w = .ok vs.length w:=by
  rw [hl,<- hs];simp [sizeOf,typeInfo,hi]
 have hld:=run_loadCells_list (P:=P) w p vs hc;simp only [loadVar,US,hagg,KZ,Gl,hsz,hld,UT]
theorem zf8 {P:Program} {w:Wd} {T:Nat} {i:TI} (ht:TIok P T i) (ha:i.agg=false) {p:Addr} {u:Value} (hc:w.cell? p=some u) :
  (loadVar T p).run P w = .ok u w:=by
 obtain⟨_,d,hd,hda,_⟩:=ht;have hagg:(isAgg T).run P w = .ok false w:=by
  simp only [isAgg,US,Ur hd,KZ];rw [<- ha,<- hda];cases d <;> rfl
 simp only [loadVar,US,hagg,KZ,Kt,Gj,run_load,hc]
theorem zr {w w2:Wd} (hb:Bw w w2) {p:Addr} {vs:List Value} (h:zK w p vs):zK w2 p vs :=
 fun i v hv=>zde hb (h i v hv)
def zua (S:Sig) (E:Env) (o:Oper) (w:Wd) (v:Value):Prop :=
 ∀ a,Agrees S a E->∀ w2,(isN o.op=true\/Bw w w2)->(execOp a.eval o).run S.P w2 = .ok (.value v) w2
theorem zhJ {S:Sig} (hS:SigOk S) {T:Nat} {vx vi:Value} {K:Value->Prop} (h:zeB (TT.get S.τ T) vx vi K) :
  ∃ v,K v/\∀ w,(Instr.indexAt T vx vi).run S.P w = .ok v w:=by
 unfold zeB at h
 split at h
 ·rename_i e esz _ _ _ _ ht;obtain⟨_,d,hd,_,hk⟩:=hS.ty _ _ ht;obtain⟨rfl,he,hn⟩:=hk
  split at h
  ·rename_i b o len cap;obtain⟨k,j,rfl,hj,hg⟩:=zfa h;refine⟨_,hg,fun w=>?_⟩;simp [Instr.indexAt,asIntOf,Ur hd,zaY hn he,hj,zbp]
  ·exact h.elim
 ·rename_i n e esz eagg _ _ _ _ ht;obtain⟨_,d,hd,_,hk⟩:=hS.ty _ _ ht;obtain⟨rfl,he,_,hn⟩:=hk
  split at h
  ·rename_i b o;obtain⟨k,j,rfl,hj,hg⟩:=zfa h;refine⟨_,hg,fun w=>?_⟩;simp [Instr.indexAt,asIntOf,Ur hd,zaY hn he,hj,zbp,Instr.sureAddr]
  ·exact h.elim
 ·exact h.elim
theorem zlO {S:Sig} (hS:SigOk S) {T:Nat} {vx:Value} {lo hi:Option Value} {K:Value->Prop} (h:zlP (TT.get S.τ T) vx lo hi K) :
  ∃ v,K v/\∀ w,(Instr.sliceAt T vx lo hi none).run S.P w = .ok v w:=by
 unfold zlP at h
 split at h
 ·rename_i e esz _ _ _ _ ht;obtain⟨_,d,hd,_,hk⟩:=hS.ty _ _ ht;obtain⟨rfl,he,hn⟩:=hk
  split at h
  ·rename_i base len cap;obtain⟨l,hh,hg,hr⟩:=zbr (P:=S.P) (isSlice:=true) h;refine⟨_,hg,fun w=>?_⟩;simp only [Instr.sliceAt,US,Ur hd,KZ,Instr.slice,hr w,zaY hn he w,UT,jq]
  ·exact h.elim
 ·rename_i n e esz eagg _ _ _ _ ht;obtain⟨_,d,hd,_,hk⟩:=hS.ty _ _ ht;obtain⟨rfl,he,_,hn⟩:=hk
  split at h
  ·rename_i a;obtain⟨l,hh,hg,hr⟩:=zbr (P:=S.P) (isSlice:=false) h;refine⟨_,hg,fun w=>?_⟩;simp only [Instr.sliceAt,US,Ur hd,KZ,hr w,zaY hn he w,UT,Instr.sureAddr,jq]
   split <;> simp_all
  ·exact h.elim
 ·rename_i _ _ _ _ ht;obtain⟨_,d,hd,_,hk⟩:=hS.ty _ _ ht;obtain rfl:=hk
  split at h
  ·rename_i s;obtain⟨l,hh,hg,hr⟩:=zbr (P:=S.P) (isSlice:=false) h;refine⟨_,hg,fun w=>?_⟩;simp only [Instr.sliceAt,US,Ur hd,KZ,Instr.slice,hr w,UT,Option.isSome_none,Kt,Gj]
  ·exact h.elim
 ·exact h.elim
theorem zgh {S:Sig} (hS:SigOk S) {T f:Nat} {g:Nat->Nat->Bool->Prop} (h:zjL (TT.get S.τ T) f g) :
  ∃ (F:Array Field) (fd:Field),S.P.underlying T=some (.struct F)/\F[f]?=some fd/\g fd.offset (S.P.cellsOf fd.type) (((S.P.underlying fd.type).map zfs).getD false)/\zgm S.P fd.type:=by
 unfold zjL at h
 split at h
 ·rename_i fs _ _ _ _ ht;obtain⟨_,d,hd,_,hk⟩:=hS.ty _ _ ht;obtain⟨F,rfl,rfl,hn⟩:=hk
  split at h
  ·rename_i off sz agg hf;rw [KT] at hf
   cases hF:F.toList[f]? with
   | none=>rw [hF] at hf;simp at hf
   | some fd =>
    rw [hF] at hf;simp only [Uc,KY,UE] at hf;obtain⟨rfl,rfl,rfl⟩:=hf;exact⟨F,fd,hd,by simpa using hF,h,hn fd (JY hF)⟩
  ·exact h.elim
 ·exact h.elim
theorem zf4 {S:Sig} (hS:SigOk S) {E:Env} {o:Oper} {w:Wd} {K:Value->Prop} (h:zpw S E o.op w K):∃ v,K v/\zua S E o w v:=by
 obtain⟨dst,op,type,pos,after,guard⟩:=o
 cases op <;> simp only [zpw] at h
 case move x =>
  obtain⟨v,hv,hk⟩:=zo h;exact⟨v,hk,fun a ha w2 _=>by simp [execOp,ha.eval hv]⟩
 case assign x =>
  obtain⟨v,hv,hk⟩:=zo h;exact⟨v,hk,fun a ha w2 _=>by simp [execOp,ha.eval hv]⟩
 case pick c x y =>
  replace h:=zo h;obtain⟨vc,hc,h⟩:=h;replace h:=zo h;obtain⟨va,hx,h⟩:=h;replace h:=zo h;obtain⟨vb,hy,h⟩:=h
  split at h
  ·rename_i t;refine⟨_,h,fun a ha w2 _=>?_⟩;simp only [execOp,ha.eval hc,ha.eval hx,ha.eval hy,asBool,US,UT,KZ]
   cases t <;> rfl
  ·exact h.elim
 case binOp op T x y yt =>
  replace h:=zo h;obtain⟨vx,hx,h⟩:=h;replace h:=zo h;obtain⟨vy,hy,h⟩:=h;obtain⟨v,hk,hr⟩:=zqF h;refine⟨v,hk,fun a ha w2 _=>?_⟩;simp only [execOp,ha.eval hx,ha.eval hy];rw [US,hr w2];rfl
 case unOp op T x =>
  replace h:=zo h;obtain⟨v,hv,h⟩:=h
  split at h
  ·exact⟨_,h,fun a ha w2 _=>by simp [execOp,ha.eval hv,Op.unary]⟩
  ·obtain⟨r,e,hk⟩:=h;exact⟨_,hk,fun a ha w2 _=>by simp only [Int.zero_sub] at e;simp [execOp,ha.eval hv,Op.unary,Op.intArith,e]⟩
  ·obtain⟨u,hu,hk⟩:=h;exact⟨u,hk,fun a ha w2 _=>by simp only [execOp,ha.eval hv];rw [US,hu w2];rfl⟩
 case convert s d x =>
  replace h:=zo h;obtain⟨v,hv,h⟩:=h
  split at h
  ·rename_i hs hd;obtain⟨_,ds,hds,_⟩:=hS.ty _ _ hs;obtain⟨_,dd,hdd,_,hk⟩:=hS.ty _ _ hd;obtain rfl:=hk;obtain⟨r,e,hk⟩:=h;refine⟨_,hk,fun a ha w2 _=>?_⟩;simp only [execOp,ha.eval hv,US,convert,Ur hds,Ur hdd,KZ,Conv.intToInt,UT,e]
  ·obtain⟨u,hu,hk⟩:=h;exact⟨u,hk,fun a ha w2 hb=>by simp only [execOp,ha.eval hv];rw [US,hu w2 (hb.resolve_left (by simp [isN]))];rfl⟩
 case field T x f =>
  replace h:=zo h;obtain⟨v,hv,h⟩:=h;obtain⟨F,fd,hu,hf,h,hn⟩:=zgh hS h
  split at h
  ·rename_i cs;obtain⟨v',hk,hr⟩:=ziH h rfl rfl hn;refine⟨v',hk,fun a ha w2 _=>?_⟩;simp only [execOp,ha.eval hv,US,Instr.field,Ur hu,KZ,hf,asAgg,UT,hr w2]
  ·exact h.elim
 case index T x i =>
  replace h:=zo h;obtain⟨vx,hx,h⟩:=h;replace h:=zo h;obtain⟨vi,hi,h⟩:=h
  split at h
  ·rename_i n e esz eagg _ _ _ _ cs ht;obtain⟨_,d,hd,_,hk⟩:=hS.ty _ _ ht;obtain⟨rfl,he,hag,hn⟩:=hk;obtain⟨k,j,rfl,hj,hg⟩:=zfa h;obtain⟨v',hk,hr⟩:=ziH hg hag he hn;refine⟨v',hk,fun a ha w2 _=>?_⟩;have h1:(0:Int)<=(j:Int)/\(j:Int)<(n:Int):=⟨by omega,by omega⟩;simp only [execOp,ha.eval hx,ha.eval hi,US,Instr.index,asIntOf,UT,Ur hd,KZ,h1,and_self,Gl,zaY hn he,KK,hr w2]
  ·rename_i s ht;obtain⟨_,d,hd,_,hk⟩:=hS.ty _ _ ht;obtain rfl:=hk;obtain⟨k,j,rfl,hj,u,hu,hg⟩:=zfa h;refine⟨_,hg,fun a ha w2 _=>?_⟩;have hu':s[j]?=some u:=by
    have h2:s.data[j]?=some u:=(by simpa using hu);obtain⟨hlt,e⟩:=Jk.1 h2;rw [getElem?_pos s j hj];exact Gi some e
   simp [execOp,ha.eval hx,ha.eval hi,Instr.index,asIntOf,Ur hd,hu']
  ·exact h.elim
 case fieldAddr T x f =>
  replace h:=zo h;obtain⟨v,hv,h⟩:=h;obtain⟨F,fd,hu,hf,h,hn⟩:=zgh hS h
  split at h
  ·exact h.elim
  ·rename_i hz;have hz':S.P.cellsOf fd.type≠0:=fun e=>by rw [e] at hz;simp at hz
   split at h
   ·rename_i b o;refine⟨_,h,fun a ha w2 _=>?_⟩;simp only [execOp,ha.eval hv,US,Instr.fieldAt,Ur hu,KZ,hf,UT,Instr.sureAddr,fieldPlace,zaY hn rfl w2,hz',Gj,zbp]
   ·exact h.elim
 case indexAddr T x i =>
  replace h:=zo h;obtain⟨vx,hx,h⟩:=h;replace h:=zo h;obtain⟨vi,hi,h⟩:=h;obtain⟨v,hk,hr⟩:=zhJ hS h;exact⟨v,hk,fun a ha w2 _=>by simp only [execOp,ha.eval hx,ha.eval hi];rw [US,hr w2];rfl⟩
 case slice T x lo hi mx =>
  replace h:=zo h;obtain⟨vx,hx,h⟩:=h;have oe:∀ {o:Option Operand} {f:Option Value->Prop},zka E o f->∃ ov,f ov/\∀ a,Agrees S a E->o.map a.eval=ov:=by
   intro o f h
   cases o with
   | none=>exact⟨none,h,fun _ _=>rfl⟩
   | some x=>obtain⟨v,hv,hf⟩:=zo h;exact⟨some v,hf,fun a ha=>by simp [ha.eval hv]⟩
  obtain⟨l,h,hl⟩:=oe h;obtain⟨hh,h,hhh⟩:=oe h
  split at h
  ·obtain⟨v,hk,hr⟩:=zlO hS h;exact⟨v,hk,fun a ha w2 _=>by simp only [execOp,ha.eval hx,hl a ha,hhh a ha,Option.map_none];rw [US,hr w2];rfl⟩
  ·exact h.elim
 case lookup T x i ok =>
  replace h:=zo h;obtain⟨vx,hx,h⟩:=h;replace h:=zo h;obtain⟨vi,hi,u,hu,hk⟩:=h;exact⟨u,hk,fun a ha w2 hb=>by simp only [execOp,ha.eval hx,ha.eval hi];rw [US,hu w2 (hb.resolve_left (by simp [isN]))];rfl⟩
 case build T ps =>
  obtain⟨vs,h,hvs⟩:=za9 (S:=S) h;have e:∀ a,Agrees S a E->(ps.map fun (i,x)=>(i,a.eval x)).toList=zia ps.toList vs:=fun a ha=>by
   rw [<- hvs a ha];simp only [Qe,UG];generalize ps.toList=l
   induction l with
   | nil=>rfl
   | cons p r ih=>obtain⟨i,x⟩:=p;simp only [UA,Function.comp_apply,zia,ih]
  unfold zqD at h
  split at h
  ·rename_i fs _ _ _ z ht;obtain⟨⟨inf,hi,_,_,hzz⟩,d,hd,_,hk⟩:=hS.ty _ _ ht;obtain⟨F,rfl,rfl,hkn⟩:=hk;obtain⟨zv,hzv,hzc⟩:=hzz z rfl;obtain⟨cells,hf,hk⟩:=h;refine⟨_,hk,fun a ha w2 _=>?_⟩;have hzr:(zeroValue T).run S.P w2 = .ok zv w2:=by simp [zeroValue,typeInfo,hi,hzv]
   have hpl:(F.mapM fun f=>do pure (f.offset,<- sizeOf f.type):Sem (Array (Nat×Nat))).run S.P w2 = .ok (F.map fun f=>(f.offset,S.P.cellsOf f.type)) w2:=by
    rw [Array.mapM_eq_mapM_toList,Sem.run_map];have key:∀ l:List Field,(∀ f∈l,zgm S.P f.type)->(l.mapM fun f=>do pure (f.offset,<- sizeOf f.type):Sem (List (Nat×Nat))).run S.P w2 = .ok (l.map fun f=>(f.offset,S.P.cellsOf f.type)) w2:=by
     intro l
     induction l with
     | nil=>intro _;rfl
     | cons f r ih =>
      intro hl;simp only [Ul,US,zaY (hl f Kz) rfl w2,KZ,UT,ih (fun g hg=>hl g (JW _ hg)),UA]
    rw [key F.toList hkn];simp only [KZ];congr 1;rw [<- Qd];simp
   have hfl:=zfg _ _ _ hf;have hplace:(fun i=>(F.map fun f=>(f.offset,S.P.cellsOf f.type))[i]?)=zjy (F.toList.map fun f=>(f.offset,S.P.cellsOf f.type,((S.P.underlying f.type).map zfs).getD false)):=by
    funext i;simp only [zjy,KT,Array.getElem?_map,Array.getElem?_toList]
    cases F[i]? <;> rfl
   simp only [execOp,US,Instr.build,hzr,KZ,Ur hd,hpl];rw [hplace,e a ha];have hz2:zv.cells=z.toArray:=by rw [<- hzc]
   rw [hz2,hfl];rfl
  ·rename_i n e0 esz eagg _ _ _ z ht;obtain⟨⟨inf,hi,_,_,hzz⟩,d,hd,_,hk⟩:=hS.ty _ _ ht;obtain⟨rfl,he,_,hkn⟩:=hk;obtain⟨zv,hzv,hzc⟩:=hzz z rfl;obtain⟨cells,hf,hk⟩:=h;refine⟨_,hk,fun a ha w2 _=>?_⟩;have hzr:(zeroValue T).run S.P w2 = .ok zv w2:=by simp [zeroValue,typeInfo,hi,hzv]
   have hfl:=zfg _ _ _ hf;simp only [execOp,US,Instr.build,hzr,KZ,Ur hd,zaY hkn he w2];rw [e a ha];have hz2:zv.cells=z.toArray:=by rw [<- hzc]
   rw [hz2,hfl];rfl
  ·exact h.elim
 case extract t i =>
  replace h:=zo h;obtain⟨v,hv,h⟩:=h
  split at h
  ·rename_i vs
   split at h
   ·rename_i u hu;refine⟨_,h,fun a ha w2 _=>?_⟩;have hu':vs[i]?=some u:=(by simpa using hu);simp [execOp,ha.eval hv,Instr.extract,hu']
   ·exact h.elim
  ·exact h.elim
 case makeFunc fn first captured =>
  obtain⟨fs,h,hf⟩:=za9 (S:=S) h;obtain⟨cs,h,hc⟩:=za9 (S:=S) h;refine⟨_,h,fun a ha w2 _=>?_⟩;have e1:first.map a.eval=fs.toArray:=by rw [<- hf a ha,<- Qe]
  have e2:captured.map a.eval=cs.toArray:=by rw [<- hc a ha,<- Qe]
  simp [execOp,Instr.makeFunc,e1,e2]
 case nilCheck x =>
  replace h:=zo h;obtain⟨v,hv,h⟩:=h
  split at h
  ·exact⟨_,h,fun a ha w2 _=>by simp [execOp,ha.eval hv]⟩
  ·exact⟨_,h,fun a ha w2 _=>by simp [execOp,ha.eval hv]⟩
  ·exact h.elim
 case load T x =>
  replace h:=zo h;obtain⟨v,hv,h⟩:=h
  split at h
  ·split at h
   ·rename_i sz _ _ ht;obtain⟨vs,hl,hc,_,hk⟩:=h;refine⟨_,hk,fun a ha w2 hb=>?_⟩;replace hb:=hb.resolve_left (by simp [isN]);simp only [execOp,ha.eval hv,US,Instr.loadAt,Instr.sureAddr,UT,KZ,zf9 (hS.ty _ _ ht) rfl hl (zr hb hc)]
   ·rename_i _ _ _ _ ht;obtain⟨u,hc,hk⟩:=h;refine⟨_,hk,fun a ha w2 hb=>?_⟩;replace hb:=hb.resolve_left (by simp [isN]);simp only [execOp,ha.eval hv,US,Instr.loadAt,Instr.sureAddr,UT,KZ,zf8 (hS.ty _ _ ht) rfl (zde hb hc)]
   ·exact h.elim
  ·exact h.elim
 case call c =>
  obtain⟨callee,args,argTypes⟩:=c
  split at h
  ·rename_i hc;dsimp only at hc;subst hc
   split at h
   ·rename_i x T hx hT;have ex:args = #[x]:=(by rw [<- Qd];simpa using hx);have eT:argTypes = #[T]:=(by rw [<- Qd];simpa using hT);subst ex eT;replace h:=zo h;obtain⟨v,hv,h⟩:=h
    split at h
    ·rename_i e esz _ _ _ _ a n c ht;obtain⟨_,d,hd,_,hk⟩:=hS.ty _ _ ht;obtain⟨rfl,_⟩:=hk;exact⟨_,h,fun a ha w2 _=>by simp [execOp,resolve,invoke,builtin,Builtin.len_,ha.eval hv,Ur hd,goInt]⟩
    ·rename_i _ _ _ _ s ht;obtain⟨_,d,hd,_,hk⟩:=hS.ty _ _ ht;obtain rfl:=hk;exact⟨_,h,fun a ha w2 _=>by simp [execOp,resolve,invoke,builtin,Builtin.len_,ha.eval hv,Ur hd,goInt]⟩
    ·rename_i n e esz eagg _ _ _ _ ht;obtain⟨_,d,hd,_,hk⟩:=hS.ty _ _ ht;obtain⟨rfl,_⟩:=hk;refine⟨_,h,fun a ha w2 _=>?_⟩;simp [execOp,resolve,invoke,builtin,Builtin.len_,ha.eval hv,Ur hd,goInt]
    ·exact h.elim
   ·exact h.elim
  ·exact h.elim
def NN:Nat:=1000
def CallR (P:Program) (g:Nat) (args:Array Value) (w:Wd) (K:Value->Wd->Prop) (KP:List PanicEntry->Wd->Prop):Prop :=
 Calls P g args w fun e w'=>match e with
  | .returned v=>K v w'
  | .panicked ch=>KP ch w'
  | .outgrown=>False
theorem CallR.mk {P:Program} {g:Nat} {args:Array Value} {w:Wd} {K:Value->Wd->Prop} {KP:List PanicEntry->Wd->Prop} {R:Ending->Wd->Prop}
  (h:Calls P g args w R) (k:∀ e w',R e w'->∃ v,e = .returned v/\K v w'):CallR P g args w K KP :=
 h.mono fun e w' r=>by obtain⟨v,rfl,hk⟩:=k e w' r;exact hk
def YieldR (P:Program) (l:Nat) (args:Array Value) (w:Wd) (K:Value->Wd->Prop):Prop :=
 YieldAt (FR none) (NN-1) P l args w fun e w'=>match e with
  | .returned v=>K v w'
  | _=>False
def jY (S:Sig) (g:Nat):Bool:=Nat.ble S.lo g&&Nat.blt g S.hi&&zkR g S.no
def znD (S:Sig) (vf:Value) (vs:List Value) (w:Wd) (K:Value->Wd->Prop) (KP:List PanicEntry->Wd->Prop):Prop :=
 match vf with
 | .func (.func g) first captured=>(match jY S g with
  | true=>CallR S.P g (first.toList++vs++captured.toList).toArray w K KP
  | false=>False)
 | .func (.yield l) first _=>YieldR S.P l (first.toList++vs).toArray w K
 | .func fn first captured=>∃ g args,(invoke (.fn fn captured) (first.toList++vs).toArray).run S.P w = .ok (.enter g args) w/\CallR S.P g args w K KP
 | _=>False
def zlv (S:Sig) (b:Builtin) (argTypes:Array TypeId) (type:TypeId) (vs:List Value) (w:Wd) (K:Value->Wd->Prop) (KP:List PanicEntry->Wd->Prop):Prop :=
 match b with
 | .append=>SatR ((Builtin.append_ argTypes type vs.toArray).run S.P w) K
 | .copy=>SatR ((Builtin.copy_ argTypes type vs.toArray).run S.P w) K
 | .cap=>SatR ((Builtin.cap_ argTypes type vs.toArray).run S.P w) K
 | .len=>SatR ((Builtin.len_ argTypes type vs.toArray).run S.P w) K
 | .min=>SatR ((Builtin.min_ argTypes type vs.toArray).run S.P w) K
 | .max=>SatR ((Builtin.max_ argTypes type vs.toArray).run S.P w) K
 | .delete=>SatR ((Builtin.delete_ argTypes type vs.toArray).run S.P w) K
 | .clear=>SatR ((Builtin.clear_ argTypes type vs.toArray).run S.P w) K
 | .panic=>∃ v w',(Instr.panic (vs.toArray.getD 0 .nilIface)).run S.P w = .halt (.panic v) w'/\KP [{ v,recovered:=false }] w'
 | _=>False
def zr8 (S:Sig) (E:Env) (o:Oper) (w:Wd) (K:Value->Wd->Prop) (KP:List PanicEntry->Wd->Prop):Prop :=
 match o.op with
 | .alloc T=>(match TT.get S.τ T with
  | some { zero:=some z,.. }=>K (.pointer (some ⟨w.heap.size,0,none⟩)) (w.alloc (.cells z.toArray T))
  | _=>False)
 | .box T x=>qh E x fun v=>K (.pointer (some ⟨w.heap.size,0,none⟩)) (w.alloc (.cells v.cells T))
 | .buildSlice T n ps=>zgR E (ps.toList.map (·.2)) fun vs=>(match TT.get S.τ T with
  | some { kind := .slice e esz,.. }=>(match TT.get S.τ e with
   | some { zero:=some z,.. }=>(n*esz<=16777216/\0<esz/\z.length=esz)/\∃ cells:List Value,
     zei (fun i=>some (i*esz,esz)) (zcg z n) (zia ps.toList vs)=some cells /\
     K (.slice (some ⟨w.heap.size,0,none⟩) n n) (w.alloc (.cells cells.toArray e))
   | _=>False)
  | _=>False)
 | .store T a x=>qh E a fun va=>qh E x fun vx=>(match va with
  | .pointer (some p)=>SatR ((storeVar T p vx).run S.P w) fun _ w'=>K undef w'
  | _=>False)
 | .makeSlice T l c=>qh E l fun vl=>qh E c fun vc=>SatR ((Instr.makeSlice T vl vc).run S.P w) K
 | .makeMap T r=>zka E r fun vr=>SatR ((Instr.makeMap T vr).run S.P w) K
 | .makeInterface T x=>qh E x fun v=>SatR ((Instr.makeInterface T v).run S.P w) K
 | .mapUpdate T m k x=>qh E m fun vm=>qh E k fun vk=>qh E x fun vx=>SatR ((Instr.mapUpdate T vm vk vx).run S.P w) fun _ w'=>K undef w'
 | .insert T m k x=>qh E m fun vm=>qh E k fun vk=>qh E x fun vx=>SatR ((Instr.mapUpdate T vm vk vx).run S.P w) fun _ w'=>K undef w'
 | .mapEntry T m k=>qh E m fun vm=>qh E k fun vk=>SatR ((Instr.mapEntry T vm vk).run S.P w) K
 | .entryStore T m s x=>qh E m fun vm=>qh E s fun vs=>qh E x fun vx=>SatR ((Instr.entryStore T vm vs vx).run S.P w) fun _ w'=>K undef w'
 | .range T x=>qh E x fun v=>SatR ((Instr.range T v).run S.P w) K
 | .next it s=>qh E it fun v=>SatR ((Instr.next v s o.type).run S.P w) K
 | .entry it=>qh E it fun v=>SatR ((Instr.entry v).run S.P w) K
 | .typeAssert x T a ok=>qh E x fun v=>SatR ((Instr.typeAssert v T a ok).run S.P w) K
 | .nilCheck x=>qh E x fun v=>SatR ((execOp (fun _=>v) { o with op := .nilCheck (.tmp 0) }).run S.P w) fun nx w'=>(match nx with
  | .value u=>K u w'
  | _=>False)
 | .panic x=>qh E x fun v=>∃ u w',(Instr.panic v).run S.P w = .halt (.panic u) w'/\KP [{ v:=u,recovered:=false }] w'
 | .call c=>zgR E c.args.toList fun vs=>(match c.callee with
  | .value f=>qh E f fun vf=>znD S vf vs w K KP
  | .builtin b=>zlv S b c.argTypes o.type vs w K KP
  | .invoke r m=>qh E r fun vr=>∃ g args,(callMethod vr m vs.toArray).run S.P w = .ok (.enter g args) w/\CallR S.P g args w K KP)
 | _=>False
theorem zdb {P:Program} {r:Option Nat} {n g:Nat} {args:Array Value} {w:Wd} {R:Ending->Wd->Prop} (h:Calls P g args w R):CallsIn (FR r) n P g args w R:=by
 have h1:CallsIn Fence.wide n P g args w R:=callsIn_wide.2 h;exact⟨trivial,fun cs _=>h1.2 cs (room_wide _)⟩
theorem SatR.elim {α:Type} {r:Result α} {K:α->Wd->Prop} (h:SatR r K):∃ v w',r = .ok v w'/\K v w':=h
section
variable {S:Sig} {E:Env} {o:Oper} {w:Wd} {K:Value->Wd->Prop} {KP:List PanicEntry->Wd->Prop} {a:Act} {n:Nat}
 {next:Act->Wd->Prop} {Q:Exit->Act->Wd->Prop}
def UponE (S:Sig) (n:Nat) (o:Oper) (a:Act) (w:Wd) (next:Act->Wd->Prop) (Q:Exit->Act->Wd->Prop):Prop :=
 match (execOp a.eval o).run S.P w with
 | .ok (.value v) w'=>next (a.put o.dst v) w'
 | .ok .skip w'=>next (a.put o.dst undef) w'
 | .ok (.enter f args) w'=>CallsIn (FR S.r) (n-1) S.P f args w' fun
   | .returned v,w''=>next (a.put o.dst v) w''
   | .panicked chain,w''=>Q (.panic chain) a w''
   | .outgrown,_=>False
 | .ok (.round l f tmps assign body) w'=>RoundIn (FR S.r) (n-1) S.P l f tmps assign body w' fun
   | .returned v,w''=>next (a.put o.dst v) w''
   | .panicked chain,w''=>Q (.panic chain) a w''
   | .outgrown,_=>False
 | .halt (.panic v) w'=>Q (.panic [{ v,recovered:=false }]) a w'
 | _=>False
theorem UponE.wpIn (hd:∀ c,o.op ≠ .defer c) (h:UponE S n o a w next Q):o.wpIn (FR S.r) n S.P a w next Q:=by
 refine⟨fun _ _=>trivial,?_⟩;rw [Oper.semAt_eq _ _ _ hd];unfold UponE at h
 split at h
 case h_1 hr=>rw [hr];exact h
 case h_2 hr=>rw [hr];exact h
 case h_3 hr =>
  rw [hr,Oper.uponIn_enter];exact⟨fun h=>by simp [FR] at h,h.mono fun e w'' he=>by cases e <;> first | exact he | exact he.elim⟩
 case h_4 hr =>
  rw [hr,Oper.uponIn_round];exact⟨fun h=>by simp [FR] at h,h.mono fun e w'' he=>by cases e <;> first | exact he | exact he.elim⟩
 case h_5 hr=>rw [hr];exact h
 case h_6=>exact h.elim
theorem qB {v:Value} {w':Wd} (_hd:∀ c,o.op ≠ .defer c) (hr:(execOp a.eval o).run S.P w = .ok (.value v) w') (hk:next (a.put o.dst v) w') :
  UponE S n o a w next Q:=by unfold UponE;rw [hr];exact hk
theorem zcR {w':Wd} (_hd:∀ c,o.op ≠ .defer c) (hr:(execOp a.eval o).run S.P w = .ok .skip w') (hk:next (a.put o.dst undef) w') :
  UponE S n o a w next Q:=by unfold UponE;rw [hr];exact hk
theorem zgQ {v:Value} {w':Wd} (_hd:∀ c,o.op ≠ .defer c) (hr:(execOp a.eval o).run S.P w = .halt (.panic v) w') (hk:Q (.panic [{ v,recovered:=false }]) a w') :
  UponE S n o a w next Q:=by unfold UponE;rw [hr];exact hk
theorem zek {g:Nat} {args:Array Value} {w':Wd} (_hd:∀ c,o.op ≠ .defer c) (hr:(execOp a.eval o).run S.P w = .ok (.enter g args) w') (hc:CallR S.P g args w' K KP)
  (hn:∀ v w',K v w'->next (a.put o.dst v) w') (hp:∀ ch w',KP ch w'->Q (.panic ch) a w') :
  UponE S n o a w next Q:=by
 unfold UponE;rw [hr];refine zdb (hc.mono fun e w'' he=>?_)
 cases e with
 | returned v=>exact hn _ _ he
 | panicked ch=>exact hp _ _ he
 | outgrown=>exact he.elim
theorem zb5 {P:Program} {r r':Option Nat} {n n' l g:Nat} {tmps:Array Value} {assign body:Code} {w:Wd} {R:Ending->Wd->Prop} (h:RoundIn (FR r) n P l g tmps assign body w R) :
  RoundIn (FR r') n' P l g tmps assign body w R :=
 ⟨trivial,fun c cs _=>h.2 c cs (fun d hd=>by simp [FR] at hd)⟩
theorem zeF (hS:SigOk S) (h:zr8 S E o w K KP) (ha:Agrees S a E)
  (hn:∀ v w',K v w'->next (a.put o.dst v) w') (hp:∀ ch w',KP ch w'->Q (.panic ch) a w'):UponE S n o a w next Q:=by
 obtain⟨dst,op,type,pos,after,guard⟩:=o;have oe:∀ {o:Option Operand} {f:Option Value->Prop},zka E o f->∃ ov,f ov/\o.map a.eval=ov:=by
  intro o f h
  cases o with
  | none=>exact⟨none,h,rfl⟩
  | some x=>obtain⟨v,hv,hf⟩:=zo h;exact⟨some v,hf,by simp [ha.eval hv]⟩
 cases op <;> simp only [zr8] at h
 case alloc T =>
  split at h
  ·rename_i z ht;obtain⟨⟨inf,hi,_,_,hzz⟩,_⟩:=hS.ty _ _ ht;obtain⟨v,hz,hc⟩:=hzz z rfl;refine qB (fun c=>by simp) ?_ (hn _ _ h);have hzv:(zeroValue T).run S.P w = .ok v w:=by simp [zeroValue,typeInfo,hi,hz]
   have e:v.cells=z.toArray:=by rw [<- hc]
   simp [execOp,Instr.alloc,hzv,newVar,newRow,newObj,Sem.run,e]
  ·exact h.elim
 case box T x =>
  obtain⟨v,hv,h'⟩:=zo h;refine qB (fun c=>by simp) ?_ (hn _ _ h');simp [execOp,Instr.box,ha.eval hv,newVar,newRow,newObj,Sem.run]
 case buildSlice T k ps =>
  obtain⟨vs,h',hvs⟩:=za9 (S:=S) h;have e:(ps.map fun (i,x)=>(i,a.eval x)).toList=zia ps.toList vs:=by
   rw [<- hvs a ha];simp only [Qe,UG];generalize ps.toList=l
   induction l with
   | nil=>rfl
   | cons p r ih=>obtain⟨i,x⟩:=p;simp only [UA,Function.comp_apply,zia,ih]
  split at h'
  ·rename_i e1 esz _ _ _ _ ht
   split at h'
   ·rename_i z hte;obtain⟨_,d,hd,_,hk⟩:=hS.ty _ _ ht;obtain⟨rfl,he,hkn⟩:=hk;obtain⟨⟨inf,hi,_,_,hzz⟩,_⟩:=hS.ty _ _ hte;obtain⟨v,hz,hc⟩:=hzz z rfl;obtain⟨⟨hle,hpos,hlen⟩,cells,hf,hk⟩:=h';have hf:=zfg _ _ _ hf;subst hlen;rw [<- zmC z hpos k] at hf;refine qB (fun c=>by simp) ?_ (hn _ _ hk);have hzv:∀ w,(zeroValue e1).run S.P w = .ok v w:=(by intro w;simp [zeroValue,typeInfo,hi,hz]);have ec:v.cells=z.toArray:=(by rw [<- hc]);have hle':¬ (k*z.length > 2^24):=(by omega);simp only [execOp,Instr.buildSlice,US,Ur hd,KZ,zaY hkn he w,hle',Gj];by_cases h0:k*z.length=0
    ·rw [e];simp only [h0,Gl,US,UT,KZ];rw [h0] at hf;have e0:(Array.map (fun x=>(#[]:Array Value)[x%(#[]:Array Value).size]!) (Array.range 0))=(Array.map (fun x=>z.toArray[x%z.toArray.size]!) (Array.range 0)):=(by simp);rw [e0,hf];simp [newRow,newObj,Sem.run]
    ·rw [e];simp only [h0,Gj,US,hzv,KZ,UT,ec,hf];simp [newRow,newObj,Sem.run]
   ·exact h'.elim
  ·exact h'.elim
 case store T x y =>
  obtain⟨va,hva,h'⟩:=zo h;obtain⟨vx,hvx,h'⟩:=zo h'
  split at h'
  ·obtain⟨_,w',hr,hk⟩:=SatR.elim h';refine zcR (fun c=>by simp) ?_ (hn _ _ hk);simp only [execOp,ha.eval hva,ha.eval hvx,Instr.storeAt,Instr.sureAddr,US,UT,KZ,hr]
  ·exact h'.elim
 case makeSlice T l c =>
  obtain⟨vl,hl,h'⟩:=zo h;obtain⟨vc,hc,h'⟩:=zo h';obtain⟨v,w',hr,hk⟩:=SatR.elim h';refine qB (fun c=>by simp) ?_ (hn _ _ hk);simp only [execOp,ha.eval hl,ha.eval hc];rw [US,hr];rfl
 case makeMap T r =>
  obtain⟨vr,h',hvr⟩:=oe h;obtain⟨v,w',hr,hk⟩:=SatR.elim h';refine qB (fun c=>by simp) ?_ (hn _ _ hk);simp only [execOp,hvr];rw [US,hr];rfl
 case makeInterface T x =>
  obtain⟨vx,hx,h'⟩:=zo h;obtain⟨v,w',hr,hk⟩:=SatR.elim h';refine qB (fun c=>by simp) ?_ (hn _ _ hk);simp only [execOp,ha.eval hx];rw [US,hr];rfl
 case mapUpdate T m k x =>
  obtain⟨vm,hm,h'⟩:=zo h;obtain⟨vk,hk,h'⟩:=zo h';obtain⟨vx,hx,h'⟩:=zo h';obtain⟨v,w',hr,hkk⟩:=SatR.elim h';refine zcR (fun c=>by simp) ?_ (hn _ _ hkk);simp only [execOp,ha.eval hm,ha.eval hk,ha.eval hx];rw [US,hr];rfl
 case insert T m k x =>
  obtain⟨vm,hm,h'⟩:=zo h;obtain⟨vk,hk,h'⟩:=zo h';obtain⟨vx,hx,h'⟩:=zo h';obtain⟨v,w',hr,hkk⟩:=SatR.elim h';refine zcR (fun c=>by simp) ?_ (hn _ _ hkk);simp only [execOp,ha.eval hm,ha.eval hk,ha.eval hx];rw [US,hr];rfl
 case mapEntry T m k =>
  obtain⟨vm,hm,h'⟩:=zo h;obtain⟨vk,hk,h'⟩:=zo h';obtain⟨v,w',hr,hkk⟩:=SatR.elim h';refine qB (fun c=>by simp) ?_ (hn _ _ hkk);simp only [execOp,ha.eval hm,ha.eval hk];rw [US,hr];rfl
 case entryStore T m k x =>
  obtain⟨vm,hm,h'⟩:=zo h;obtain⟨vk,hk,h'⟩:=zo h';obtain⟨vx,hx,h'⟩:=zo h';obtain⟨v,w',hr,hkk⟩:=SatR.elim h';refine zcR (fun c=>by simp) ?_ (hn _ _ hkk);simp only [execOp,ha.eval hm,ha.eval hk,ha.eval hx];rw [US,hr];rfl
 case range T x =>
  obtain⟨vx,hx,h'⟩:=zo h;obtain⟨v,w',hr,hk⟩:=SatR.elim h';refine qB (fun c=>by simp) ?_ (hn _ _ hk);simp only [execOp,ha.eval hx];rw [US,hr];rfl
 case next it s =>
  obtain⟨vx,hx,h'⟩:=zo h;obtain⟨v,w',hr,hk⟩:=SatR.elim h';refine qB (fun c=>by simp) ?_ (hn _ _ hk);simp only [execOp,ha.eval hx];rw [US,hr];rfl
 case entry it =>
  obtain⟨vx,hx,h'⟩:=zo h;obtain⟨v,w',hr,hk⟩:=SatR.elim h';refine qB (fun c=>by simp) ?_ (hn _ _ hk);simp only [execOp,ha.eval hx];rw [US,hr];rfl
 case typeAssert x T y ok =>
  obtain⟨vx,hx,h'⟩:=zo h;obtain⟨v,w',hr,hk⟩:=SatR.elim h';refine qB (fun c=>by simp) ?_ (hn _ _ hk);simp only [execOp,ha.eval hx];rw [US,hr];rfl
 case nilCheck x =>
  obtain⟨vx,hx,h'⟩:=zo h;obtain⟨nx,w',hr,hk⟩:=SatR.elim h'
  split at hk
  ·refine qB (fun c=>by simp) ?_ (hn _ _ hk);simp only [execOp,ha.eval hx];simpa only [execOp] using hr
  ·exact hk.elim
 case panic x =>
  obtain⟨vx,hx,u,w',hr,hk⟩:=zo h;refine zgQ (fun c=>by simp) ?_ (hp _ _ hk);simp only [execOp,ha.eval hx];rw [US,hr];rfl
 case call c =>
  obtain⟨callee,args,argTypes⟩:=c;obtain⟨vs,h',hvs⟩:=za9 (S:=S) h;have ev:args.map a.eval=vs.toArray:=by rw [<- hvs a ha,<- Qe]
  dsimp only at h'
  split at h'
  ·rename_i f;obtain⟨vf,hf,h'⟩:=zo h';unfold znD at h'
   split at h'
   ·rename_i g first captured
    split at h'
    ·rename_i hok;simp only [jY,bAT,Gc,Gd] at hok;refine zek (fun c=>by simp) ?_ h' hn hp;have e2:first++vs.toArray++captured=(first.toList++vs++captured.toList).toArray:=by
      rw [<- Qd];simp
     simp only [execOp,resolve,ev,ha.eval hf,Deferred.ofValue,US,UT,KZ,invoke,e2];exact hS.call g hok.1.1 hok.1.2 hok.2 _ _
    ·exact h'.elim
   ·rename_i l first captured
    obtain⟨fn,tmps,assign,body,hy,hR⟩:=h';have e2:first++vs.toArray=(first.toList++vs).toArray:=by
     rw [<- Qd];simp
    have hr:(execOp a.eval ⟨dst,.call ⟨.value f,args,argTypes⟩,type,pos,after,guard⟩).run S.P w = .ok (.round l fn tmps assign body) w:=by
     simp only [execOp,resolve,ev,ha.eval hf,Deferred.ofValue,US,UT,KZ,invoke,e2];exact hy
    unfold UponE;rw [hr];refine zb5 (hR.mono fun e w'' he=>?_)
    cases e with
    | returned v=>exact hn _ _ he
    | panicked ch=>exact he.elim
    | outgrown=>exact he.elim
   ·rename_i fn first captured _ _
    obtain⟨g,args',hi,hc⟩:=h';refine zek (fun c=>by simp) ?_ hc hn hp;have e2:first++vs.toArray=(first.toList++vs).toArray:=by
     rw [<- Qd];simp
    simp only [execOp,resolve,ev,ha.eval hf,Deferred.ofValue,US,UT,KZ,e2];exact hi
   ·exact h'.elim
  ·rename_i b;unfold zlv at h'
   split at h'
   case h_9 =>
    obtain⟨u,w',hr,hk⟩:=h';refine zgQ (fun c=>by simp) ?_ (hp _ _ hk);simp only [execOp,resolve,ev,invoke,builtin,US,UT,KZ,hr,Result.andThen_halt]
   case h_10=>exact h'.elim
   all_goals
    obtain⟨v,w',hr,hk⟩:=SatR.elim h';refine qB (fun c=>by simp) ?_ (hn _ _ hk);simp only [execOp,resolve,ev,invoke,builtin,US,UT,KZ,hr]
  ·rename_i r m;obtain⟨vr,hvr,g,args',hi,hc⟩:=zo h';refine zek (fun c=>by simp) ?_ hc hn hp;have hx:(#[vr]++vs.toArray).extract 1 (#[vr]++vs.toArray).size=vs.toArray:=by
    rw [<- Qd];simp
   have h0:(#[vr]++vs.toArray)[0]?=some vr:=by simp
   simp only [execOp,resolve,ev,ha.eval hvr,US,UT,KZ,invoke,h0,hx];exact hi
end
def zey (τ : TT) (op : Op) : Bool :=
  match op with
  | .move _ | .assign _ | .pick .. | .binOp .. | .unOp .. | .convert .. | .field .. | .index .. | .fieldAddr .. | .indexAddr .. | .slice .. | .extract .. | .makeFunc .. | .nilCheck _ | .load .. | .lookup .. | .build .. => true
  | .call c => (match c.callee with
    | .builtin .len => (match c.argTypes.toList with
      | [T] => (match TT.get τ T with
        | some { kind := .map _ _, .. } => false
        | _ => true)
      | _ => true)
    | _ => false)
  | _ => false
def zig (i : Nat) : List Nat → Bool
  | [] => false
  | k :: r => match Nat.beq k i with
    | true => true
    | false => zig i r
def jU (op : Op) : Bool := match op with | .select .. | .defer .. | .go .. => false | _ => true
def PV (P : Program) (o : Oper) (a : Act) (w : Wd) (v : Value) : Prop := ∀ w2, (isN o.op = true ∨ Below w.heap.size w w2) → (execOp a.eval o).run P w2 = .ok (.value v) w2
def PQ (QP : List PanicEntry → Wd → Prop) : Exit → Act → Wd → Prop := fun ex _ w => match ex with
  | .panic ch => QP ch w
  | _ => False
def jF (S : Sig) (X : List Nat) (n : Nat) (QP : List PanicEntry → Wd → Prop) (ops : Array Oper) (i : Nat) (K : Act → Wd → Prop) (a : Act) (w : Wd) : Prop :=
  match ops[i]? with
  | none => K a w
  | some o => if Region.wanted o (yielded ops a.tmps) then
      (if zey S.τ o.op then ∃ v, PV S.P o a w v ∧ K (a.put o.dst v) w
       else UponE S n o a w (fun a' w' => (zig i X = false → Below w.heap.size w w') ∧ K a' w') (PQ QP))
    else K (a.put o.dst undef) w
def zhA (S : Sig) (X : List Nat) (n : Nat) (QP : List PanicEntry → Wd → Prop) (ops : Array Oper) (K : Act → Wd → Prop) : List Nat → Act → Wd → Prop
  | [], a, w => K a w
  | i :: r, a, w => jF S X n QP ops i (zhA S X n QP ops K r) a w
section
variable {S : Sig} {X : List Nat} {n : Nat} {QP : List PanicEntry → Wd → Prop} {ops : Array Oper}
theorem zel {o : Oper} {a a' : Act} {w : Wd} {next next' : Act → Wd → Prop} (he : execOp a'.eval o = execOp a.eval o)
    (hn : ∀ u w', next (a'.put o.dst u) w' → next' (a.put o.dst u) w') (h : UponE S n o a' w next (PQ QP)) : UponE S n o a w next' (PQ QP) := by
  unfold UponE at *
  rw [he] at h
  split at h
  · exact hn _ _ h
  · exact hn _ _ h
  · exact CallsIn.mono h fun e w'' he => by cases e <;> first | exact hn _ _ he | exact he
  · exact RoundIn.mono h fun e w'' he => by cases e <;> first | exact hn _ _ he | exact he
  · exact h
  · exact h
theorem zen {i : Nat} {K K' : Act → Wd → Prop} {a : Act} {w : Wd} (h : ∀ a w, K a w → K' a w) (hh : jF S X n QP ops i K a w) : jF S X n QP ops i K' a w := by
  unfold jF at *
  split
  · rename_i ho; simp only [ho] at hh; exact h _ _ hh
  · rename_i o ho
    simp only [ho] at hh
    split
    · rename_i hw
      simp only [hw, Gl] at hh
      split
      · rename_i hp; simp only [hp, Gl] at hh; obtain ⟨v, h1, h2⟩ := hh; exact ⟨v, h1, h _ _ h2⟩
      · rename_i hp; simp only [hp, Kt, Gj] at hh; exact zel rfl (fun u w' hk => ⟨hk.1, h _ _ hk.2⟩) hh
    · rename_i hw; simp only [hw] at hh; exact h _ _ hh
structure Indep (S : Sig) (X : List Nat) (ops : Array Oper) (k i : Nat) : Prop where
  h : ∀ ok oi, ops[k]? = some ok → ops[i]? = some oi → ok.apart ops oi = true ∧ zey S.τ ok.op = true ∧ jU ok.op = true ∧ jU oi.op = true ∧ (zey S.τ oi.op = true ∨ zig i X = false ∨ isN ok.op = true)
theorem zfL {op : Op} (h : jU op = true) : ∀ cs b, op ≠ .select cs b := fun cs b e => by subst e; simp [jU] at h
theorem zaR {op : Op} (h : jU op = true) : ∀ c, op ≠ .defer c := fun c e => by subst e; simp [jU] at h
theorem PV.below {P : Program} {o : Oper} {a : Act} {w w' : Wd} {v : Value} (h : PV P o a w v) (hb : isN o.op = true ∨ Below w.heap.size w w') : PV P o a w' v :=
  fun w2 h2 => h w2 (by rcases hb with hb | hb
                        · exact .inl hb
                        · exact h2.imp id (fun h2 => hb.trans (h2.mono hb.size)))
theorem zem {k i : Nat} (hk : Indep S X ops k i) {K : Act → Wd → Prop} {a : Act} {w : Wd} (h : jF S X n QP ops k (jF S X n QP ops i K) a w) : jF S X n QP ops i (jF S X n QP ops k K) a w := by
  cases hok : ops[k]? with
  | none =>
    have e : ∀ K', jF S X n QP ops k K' = K' := fun K' => by funext a w; simp [jF, hok]
    rw [e] at h ⊢; exact h
  | some ok =>
    cases hoi : ops[i]? with
    | none =>
      have e : ∀ K', jF S X n QP ops i K' = K' := fun K' => by funext a w; simp [jF, hoi]
      rw [e] at h; rw [e]; exact h
    | some oi =>
      obtain ⟨hap, hp, hsk, hsi, hx⟩ := hk.h ok oi hok hoi
      obtain ⟨h1, h2, h3⟩ := Oper.apart_spec hap
      have core : ∀ v, ((Region.wanted ok (yielded ops a.tmps) = true ∧ PV S.P ok a w v) ∨ (Region.wanted ok (yielded ops a.tmps) = false ∧ v = undef)) →
          jF S X n QP ops i K (a.put ok.dst v) w → jF S X n QP ops i (jF S X n QP ops k K) a w := by
        intro v hv h
        have after : ∀ u w', (isN ok.op = true ∨ Below w.heap.size w w') → K ((a.put ok.dst v).put oi.dst u) w' → jF S X n QP ops k K (a.put oi.dst u) w' := by
          intro u w' hb hK
          unfold jF
          simp only [hok, hp, Gl]
          rw [wanted_put ok a oi.dst u h3]
          rw [Act.put_comm a v u h2] at hK
          rcases hv with ⟨hw, hpv⟩ | ⟨hw, rfl⟩
          · simp only [hw, Gl]
            refine ⟨v, fun w2 h2 => ?_, hK⟩
            rw [execOp_put ok (zfL hsk) a oi.dst u h3]
            exact (hpv.below hb) w2 h2
          · simp only [hw]; exact hK
        unfold jF at h ⊢
        simp only [hoi] at h ⊢
        rw [wanted_put oi a ok.dst v h1] at h
        split
        · rename_i hwi
          simp only [hwi, Gl] at h
          split
          · rename_i hpi
            simp only [hpi, Gl] at h
            obtain ⟨u, hu, hK⟩ := h
            refine ⟨u, fun w2 hb => ?_, after u w (.inr (Ga _ _)) hK⟩
            have := hu w2 hb
            rwa [execOp_put oi (zfL hsi) a ok.dst v h1] at this
          · rename_i hpi
            simp only [hpi, Kt, Gj] at h
            exact zel (execOp_put oi (zfL hsi) a ok.dst v h1) (fun u w' hh => ⟨hh.1, after u w' ((hx.resolve_left hpi).elim (fun hm => .inr (hh.1 hm)) .inl) hh.2⟩) h
        · rename_i hwi
          simp only [hwi] at h
          exact after undef w (.inr (Ga _ _)) h
      have h' := h
      unfold jF at h
      simp only [hok, hp, Gl] at h
      cases hw : Region.wanted ok (yielded ops a.tmps) with
      | true =>
        simp only [hw, Gl] at h
        obtain ⟨v, hv, hK⟩ := h
        exact core v (.inl ⟨hw, hv⟩) hK
      | false =>
        simp only [hw] at h
        exact core undef (.inr ⟨hw, rfl⟩) h
theorem zga {K : Act → Wd → Prop} {i : Nat} : ∀ (L : List Nat), L.Nodup → i ∈ L → (∀ k, [k, i].Sublist L → Indep S X ops k i) → ∀ (a : Act) (w : Wd), zhA S X n QP ops K L a w →
    jF S X n QP ops i (zhA S X n QP ops K (L.filter (· ≠ i))) a w
  | [], _, hi, _, _, _, _ => by simp at hi
  | k :: r, hn, hi, hind, a, w, h => by
    obtain ⟨hkr, hr⟩ := QT.1 hn
    by_cases hki : k = i
    · subst hki
      have e : (k :: r).filter (· ≠ k) = r := by
        rw [Qm]
        simp only [ne_eq, Qa, decide_false, Kt, Gj]
        exact List.filter_eq_self.2 fun x hx => by simp; rintro rfl; exact hkr hx
      rw [e]
      exact h
    · have hir : i ∈ r := by
        cases hi with
        | head => exact Gp rfl hki
        | tail _ h => exact h
      have e : (k :: r).filter (· ≠ i) = k :: r.filter (· ≠ i) := by
        rw [Qm]; simp [hki]
      rw [e]
      have hik : Indep S X ops k i := hind k (List.Sublist.cons_cons k (List.singleton_sublist.2 hir))
      have h2 : jF S X n QP ops k (jF S X n QP ops i (zhA S X n QP ops K (r.filter (· ≠ i)))) a w :=
        zen (fun a w hh => zga r hr hir (fun k' hs => hind k' (hs.cons k)) a w hh) h
      exact zem hik h2
def zeL (ops : Array Oper) : Nat → Nat → Nat → Bool
  | 0, _, _ => false
  | f + 1, k, i => match ops[i]? with
    | some o => o.after.toList.any fun e => Region.binds .any e && (Nat.beq e.on k || (Nat.blt k e.on && zeL ops f k e.on))
    | none => false
theorem zcT {L : Array Bool} (hc : ∀ j o, L.getD j false = true → ops[j]? = some o → ∀ e ∈ o.after, Region.binds .any e = true → L.getD e.on false = true) :
    ∀ (f k i : Nat) (o : Oper), ops[i]? = some o → (∀ e ∈ o.after, Region.binds .any e = true → L.getD e.on false = true) → zeL ops f k i = true → L.getD k false = true
  | 0, _, _, _, _, _, h => by simp [zeL] at h
  | f + 1, k, i, o, ho, hl, h => by
    simp only [zeL, ho, Qj, Qg, QF, Array.mem_toList_iff] at h
    obtain ⟨e, he, hb, h⟩ := h
    rcases h with h | ⟨_, h⟩
    · have := JQ h
      subst this
      exact hl e he hb
    · cases hj : ops[e.on]? with
      | none => cases f <;> simp [zeL, hj] at h
      | some oj => exact zcT hc f k e.on oj hj (fun e' he' hb' => hc e.on oj (hl e he hb) hj e' he' hb') h
structure OrdOk (S : Sig) (X : List Nat) (ops : Array Oper) (L : List Nat) : Prop where
  nodup : L.Nodup
  mem : ∀ i, i ∈ L ↔ i < ops.size
  pair : ∀ k i, [k, i].Sublist L → (∃ f, zeL ops f k i = true) ∨ Indep S X ops k i
  topo : ∀ i o e, ops[i]? = some o → e ∈ o.after → Region.binds .any e = true → [e.on, i].Sublist L
theorem zkS {x y : Nat} (hne : x ≠ y) : ∀ {L : List Nat}, L.Nodup → [x, y].Sublist L → [y, x].Sublist L → False
  | [], _, h, _ => by cases h
  | z :: r, hn, h, h' => by
    obtain ⟨hz, hr⟩ := QT.1 hn
    cases h with
    | cons _ h =>
      cases h' with
      | cons _ h' => exact zkS hne hr h h'
      | cons_cons _ h' => exact hz (h.subset (by simp))
    | cons_cons _ h =>
      cases h' with
      | cons _ h' => exact hz (h'.subset (by simp))
      | cons_cons _ h' => exact hne rfl
theorem zq9 {o : Oper} {a : Act} {w : Wd} {next : Act → Wd → Prop} {Q : Exit → Act → Wd → Prop} (hQ : ∀ ch w, QP ch w → Q (.panic ch) a w) (h : UponE S n o a w next (PQ QP)) : UponE S n o a w next Q := by
  unfold UponE at *
  split at h
  · exact h
  · exact h
  · exact CallsIn.mono h fun e w'' he => by cases e <;> first | exact hQ _ _ he | exact he
  · exact RoundIn.mono h fun e w'' he => by cases e <;> first | exact hQ _ _ he | exact he
  · exact hQ _ _ h
  · exact h
theorem zch {Q : Exit → Act → Wd → Prop} {i : Nat} {o : Oper} {K K' : Act → Wd → Prop} {a : Act} {w : Wd} (hsel : jU o.op = true) (ho : ops[i]? = some o)
    (hQ : ∀ ch w, QP ch w → Q (.panic ch) a w) (hnext : ∀ u w, K (a.put o.dst u) w → K' (a.put o.dst u) w) (h2 : jF S X n QP ops i K a w) : wpOpIn (FR S.r) n S.P ops Q i K' a w := by
  unfold wpOpIn
  unfold jF at h2
  simp only [ho] at h2 ⊢
  split
  · rename_i hw
    simp only [hw, Gl] at h2
    split at h2
    · obtain ⟨v, hv, hK⟩ := h2
      exact (qB (S := S) (Q := Q) (zaR hsel) (hv w (.inr (Ga _ _))) (hnext _ _ hK)).wpIn (zaR hsel)
    · have h3 : UponE S n o a w K' (PQ QP) := zel rfl (fun u w' hh => hnext _ _ hh.2) h2
      exact (zq9 hQ h3).wpIn (zaR hsel)
  · rename_i hw
    simp only [hw] at h2
    exact ⟨fun _ _ => trivial, hnext _ _ h2⟩
theorem zgl {Q : Exit → Act → Wd → Prop} {I : Act → Prop} (hI : ∀ a dst v, I a → I (a.put dst v)) (hQ : ∀ ch a w, I a → QP ch w → Q (.panic ch) a w) (hS : ∀ o, o ∈ ops → jU o.op = true) {L0 : List Nat} (hO : OrdOk S X ops L0) :
    ∀ (m : Nat) (L : List Nat) (listed : Array Bool) (a : Act) (w : Wd), L.length = m → L.Sublist L0 → listed.size = ops.size → (∀ i, i ∈ L ↔ (i < ops.size ∧ listed.getD i false = false)) →
      (∀ j o, listed.getD j false = true → ops[j]? = some o → ∀ e ∈ o.after, Region.binds .any e = true → listed.getD e.on false = true) →
      I a → zhA S X n QP ops (fun a w => Q .normal a w) L a w → wpAnyIn (FR S.r) n S.P .any ops Q m listed a w
  | 0, L, listed, a, w, hm, _, hsz, hmem, _, _, h => by
    have hL : L = [] := Jf hm
    subst hL
    refine ⟨?_, h⟩
    rw [Je]
    intro i hi
    obtain ⟨hl, o, ho, _⟩ := mem_ready.1 hi
    have hlt : i < ops.size := (Jk.1 ho).1
    have : i ∈ ([] : List Nat) := (hmem i).2 ⟨hlt, by
      have hls : i < listed.size := by omega
      simp [hls] at hl ⊢; exact hl⟩
    simp at this
  | m + 1, L, listed, a, w, hm, hsub, hsz, hmem, hcl, hia, h => by
    have hnd : L.Nodup := hO.nodup.sublist hsub
    have hget : ∀ i, i < ops.size → (listed.getD i true = false ↔ listed.getD i false = false) := fun i hi => by
      have hls : i < listed.size := by omega
      simp [hls]
    have hready : ∀ i, i ∈ Region.ready .any ops listed → i ∈ L := fun i hi => by
      obtain ⟨hl, o, ho, _⟩ := mem_ready.1 hi
      have hlt : i < ops.size := (Jk.1 ho).1
      exact (hmem i).2 ⟨hlt, (hget i hlt).1 hl⟩
    refine ⟨fun h0 => ?_, fun i hi => ?_⟩
    ·
      exfalso
      cases L with
      | nil => simp at hm
      | cons i r =>
        have hil := (hmem i).1 Kz
        have : i ∈ Region.ready .any ops listed := by
          refine mem_ready.2 ⟨(hget i hil.1).2 hil.2, ops[i], Jo hil.1, fun e he hb => ?_⟩
          have ht := hO.topo i _ e (Jo hil.1) he hb
          cases hle : listed.getD e.on false with
          | true => rfl
          | false =>
            exfalso
            have heo : e.on < ops.size := (hO.mem e.on).1 (ht.subset (by simp))
            have hel : e.on ∈ i :: r := (hmem e.on).2 ⟨heo, hle⟩
            have hne : e.on ≠ i := fun he => by
              have := hO.nodup.sublist ht
              simp [he] at this
            have hir : e.on ∈ r := by
              cases hel with
              | head => exact Gp rfl hne
              | tail _ h => exact h
            have h1 : [i, e.on].Sublist L0 := (List.Sublist.cons_cons i (List.singleton_sublist.2 hir)).trans hsub
            exact (zkS hne hO.nodup ht h1).elim
        rw [h0] at this
        simp at this
    · have hiL := hready i hi
      obtain ⟨hl, o, ho, hall⟩ := mem_ready.1 hi
      have hlt : i < ops.size := (Jk.1 ho).1
      have hind : ∀ k, [k, i].Sublist L → Indep S X ops k i := fun k hs => by
        rcases hO.pair k i (hs.trans hsub) with ⟨f, hf⟩ | hind
        · exfalso
          have hk : k ∈ L := hs.subset (by simp)
          have h1 := ((hmem k).1 hk).2
          have h2 := zcT hcl f k i o ho hall hf
          rw [h1] at h2; simp at h2
        · exact hind
      have h2 := zga L hnd hiL hind a w h
      have hnext : ∀ a w, I a → zhA S X n QP ops (fun a w => Q .normal a w) (L.filter (· ≠ i)) a w → wpAnyIn (FR S.r) n S.P .any ops Q m (listed.setIfInBounds i true) a w := fun a w hia hh => by
        refine zgl hI hQ hS hO m _ _ a w ?_ (List.filter_sublist.trans hsub) (by simpa using hsz) ?_ ?_ hia hh
        · have : (L.filter (· ≠ i)) = L.erase i := by rw [hnd.erase_eq_filter]; exact KQ fun x _ => by by_cases h : x = i <;> simp [h]
          rw [this, List.length_erase_of_mem hiL]; omega
        · intro j
          rw [QR, hmem j]
          by_cases hji : j = i
          · subst hji
            simp [hsz, hlt]
          · have hij : ¬ i = j := fun e => hji e.symm
            simp [hji, hij]
        · intro j oj hj hoj e he hb
          by_cases hji : j = i
          · subst hji
            rw [ho] at hoj; cases hoj
            have := hall e he hb
            by_cases hei : e.on = j
            · simp [hei, hsz, hlt]
            · have hei' : ¬ j = e.on := fun e => hei e.symm
              simpa [Jh, hei'] using this
          · have hij : ¬ i = j := fun e => hji e.symm
            have hj' : listed.getD j false = true := by simpa [Jh, hij] using hj
            have := hcl j oj hj' hoj e he hb
            by_cases hei : e.on = i
            · simp [hei, hsz, hlt]
            · have hei' : ¬ i = e.on := fun e => hei e.symm
              simpa [Jh, hei'] using this
      exact zch (hS o (JI ho)) ho (fun ch w => hQ ch a w hia) (fun u w => hnext _ w (hI _ _ _ hia)) h2
inductive OT where
  | nil
  | op (i : Nat) (t : OT)
  | alt (a b : OT)
def zdf (S : Sig) (X : List Nat) (n : Nat) (QP : List PanicEntry → Wd → Prop) (ops : Array Oper) (K : Act → Wd → Prop) : OT → Act → Wd → Prop
  | .nil, a, w => K a w
  | .op i t, a, w => jF S X n QP ops i (zdf S X n QP ops K t) a w
  | .alt x y, a, w => zdf S X n QP ops K x a w ∧ zdf S X n QP ops K y a w
def OT.first (ind : Nat → Nat → Bool) (i : Nat) : OT → Option OT
  | .nil => none
  | .op k t => if k = i then some t else if ind k i = true then (OT.first ind i t).map (.op k) else none
  | .alt x y => match OT.first ind i x with
    | some x' => some x'
    | none => OT.first ind i y
theorem zb3 {K : Act → Wd → Prop} {i : Nat} {ind : Nat → Nat → Bool} (hind : ∀ k, ind k i = true → Indep S X ops k i) : ∀ (T T' : OT), OT.first ind i T = some T' → ∀ (a : Act) (w : Wd), zdf S X n QP ops K T a w →
    jF S X n QP ops i (zdf S X n QP ops K T') a w
  | .nil, _, h, _, _, _ => by simp [OT.first] at h
  | .op k t, T', h, a, w, hh => by
    simp only [OT.first] at h
    split at h
    · rename_i e
      subst e
      cases h
      exact hh
    · split at h
      · rename_i hk
        obtain ⟨t', ht', rfl⟩ := Option.map_eq_some_iff.1 h
        exact zem (hind k hk) (zen (fun a w hh => zb3 hind t t' ht' a w hh) hh)
      · cases h
  | .alt x y, T', h, a, w, hh => by
    simp only [OT.first] at h
    split at h
    · rename_i u hx
      simp only [KY] at h
      subst h
      exact zb3 hind x u hx a w hh.1
    · exact zb3 hind y T' h a w hh.2
def zmm (ind : Nat → Nat → Bool) (ops : Array Oper) : Nat → Array Bool → OT → Bool
  | 0, listed, T => (Region.ready .any ops listed).isEmpty && (match T with | .nil => true | _ => false)
  | m + 1, listed, T => !(Region.ready .any ops listed).isEmpty && (Region.ready .any ops listed).all fun i =>
      match OT.first ind i T with
      | some T' => zmm ind ops m (listed.setIfInBounds i true) T'
      | none => false
theorem zgk {Q : Exit → Act → Wd → Prop} {I : Act → Prop} (hI : ∀ a dst v, I a → I (a.put dst v)) (hQ : ∀ ch a w, I a → QP ch w → Q (.panic ch) a w) (hS : ∀ o, o ∈ ops → jU o.op = true) {ind : Nat → Nat → Bool} (hind : ∀ k i, ind k i = true → Indep S X ops k i) :
    ∀ (m : Nat) (listed : Array Bool) (T : OT) (a : Act) (w : Wd), zmm ind ops m listed T = true →
      I a → zdf S X n QP ops (fun a w => Q .normal a w) T a w → wpAnyIn (FR S.r) n S.P .any ops Q m listed a w
  | 0, listed, T, a, w, hc, _, h => by
    simp only [zmm, Qg, Qq] at hc
    obtain ⟨h1, h2⟩ := hc
    split at h2
    · exact ⟨h1, h⟩
    · cases h2
  | m + 1, listed, T, a, w, hc, hia, h => by
    simp only [zmm, Qg, KJ, Jt, Qi] at hc
    refine ⟨fun h0 => Gp h0 hc.1, fun i hi => ?_⟩
    obtain ⟨_, o, ho, _⟩ := mem_ready.1 hi
    have hc' := hc.2 i hi
    split at hc'
    · rename_i T' hT'
      have h2 := zb3 (fun k hk => hind k i hk) T T' hT' a w h
      have hnext : ∀ a w, I a → zdf S X n QP ops (fun a w => Q .normal a w) T' a w → wpAnyIn (FR S.r) n S.P .any ops Q m (listed.setIfInBounds i true) a w := fun a w hia hh =>
        zgk hI hQ hS hind m _ T' a w hc' hia hh
      exact zch (hS o (JI ho)) ho (fun ch w => hQ ch a w hia) (fun u w => hnext _ w (hI _ _ _ hia)) h2
    · cases hc'
end
def OT.firsts (ind : Nat → Nat → Bool) (i : Nat) : OT → List OT
  | .nil => []
  | .op k t => if k = i then [t] else if ind k i = true then (OT.firsts ind i t).map (.op k) else []
  | .alt x y => OT.firsts ind i x ++ OT.firsts ind i y
def zll (ind : Nat → Nat → Bool) (ops : Array Oper) : Nat → Array Bool → OT → Bool
  | 0, listed, T => (Region.ready .any ops listed).isEmpty && (match T with | .nil => true | _ => false)
  | m + 1, listed, T => !(Region.ready .any ops listed).isEmpty && (Region.ready .any ops listed).all fun i =>
      (OT.firsts ind i T).any fun T' => zll ind ops m (listed.setIfInBounds i true) T'
section
variable {S : Sig} {X : List Nat} {n : Nat} {QP : List PanicEntry → Wd → Prop} {ops : Array Oper}
theorem zbB {K : Act → Wd → Prop} {i : Nat} {ind : Nat → Nat → Bool} (hind : ∀ k, ind k i = true → Indep S X ops k i) : ∀ (T T' : OT), T' ∈ OT.firsts ind i T → ∀ (a : Act) (w : Wd), zdf S X n QP ops K T a w →
    jF S X n QP ops i (zdf S X n QP ops K T') a w
  | .nil, _, h, _, _, _ => by simp [OT.firsts] at h
  | .op k t, T', h, a, w, hh => by
    simp only [OT.firsts] at h
    split at h
    · rename_i e
      subst e
      rw [KA] at h
      subst h
      exact hh
    · split at h
      · rename_i hk
        obtain ⟨t', ht', rfl⟩ := UI.1 h
        exact zem (hind k hk) (zen (fun a w hh => zbB hind t t' ht' a w hh) hh)
      · cases h
  | .alt x y, T', h, a, w, hh => by
    simp only [OT.firsts, QQ] at h
    rcases h with h | h
    · exact zbB hind x T' h a w hh.1
    · exact zbB hind y T' h a w hh.2
theorem zfr {Q : Exit → Act → Wd → Prop} {I : Act → Prop} (hI : ∀ a dst v, I a → I (a.put dst v)) (hQ : ∀ ch a w, I a → QP ch w → Q (.panic ch) a w) (hS : ∀ o, o ∈ ops → jU o.op = true) {ind : Nat → Nat → Bool} (hind : ∀ k i, ind k i = true → Indep S X ops k i) :
    ∀ (m : Nat) (listed : Array Bool) (T : OT) (a : Act) (w : Wd), zll ind ops m listed T = true →
      I a → zdf S X n QP ops (fun a w => Q .normal a w) T a w → wpAnyIn (FR S.r) n S.P .any ops Q m listed a w
  | 0, listed, T, a, w, hc, _, h => by
    simp only [zll, Qg, Qq] at hc
    obtain ⟨h1, h2⟩ := hc
    split at h2
    · exact ⟨h1, h⟩
    · cases h2
  | m + 1, listed, T, a, w, hc, hia, h => by
    simp only [zll, Qg, KJ, Jt, Qi] at hc
    refine ⟨fun h0 => Gp h0 hc.1, fun i hi => ?_⟩
    obtain ⟨_, o, ho, _⟩ := mem_ready.1 hi
    have hc' := hc.2 i hi
    rw [Qj] at hc'
    obtain ⟨T', hT', hc'⟩ := hc'
    have h2 := zbB (fun k hk => hind k i hk) T T' hT' a w h
    have hnext : ∀ a w, I a → zdf S X n QP ops (fun a w => Q .normal a w) T' a w → wpAnyIn (FR S.r) n S.P .any ops Q m (listed.setIfInBounds i true) a w := fun a w hia hh =>
      zfr hI hQ hS hind m _ T' a w hc' hia hh
    exact zch (hS o (JI ho)) ho (fun ch w => hQ ch a w hia) (fun u w => hnext _ w (hI _ _ _ hia)) h2
end
def zrF (all : List Oper) (i : Nat) : Bool := all.any fun o => match o.guard with | some (j, _) => Nat.beq j i | none => false
def zs5 (g : Bool) (v : Value) (K : Value → Prop) : Prop :=
  match g with
  | true => (match v with
    | .bool b => Br b (K (.bool true)) (K (.bool false))
    | v => K v)
  | false => K v
def zhp : List Oper → Nat → Option Oper
  | [], _ => none
  | o :: _, 0 => some o
  | _ :: r, i + 1 => zhp r i
def ztz (all : List Oper) (E : Env) (j : Nat) : Option (Option Bool) :=
  match zhp all j with
  | some o => (match o.dst with
    | some d => (match Env.find E d with
      | some (.bool b) => some (some b)
      | some (.tuple _) => some none
      | _ => none)
    | none => none)
  | none => none
def zrL (all : List Oper) (i : Nat) (op : Op) : Bool := match op with | .move _ => zrF all i | _ => false
def zhR (S : Sig) (all : List Oper) (dr : Bool) (i : Nat) (o : Oper) (E : Env) (w : Wd) (K : Env → Wd → Prop) (KP : Env → List PanicEntry → Wd → Prop) : Prop :=
  match zey S.τ o.op with
  | true => zpw S E o.op w fun v => zs5 (zrL all i o.op) v fun v => K (zgn o.dst v E) w
  | false => (match dr with
    | false => zr8 S E o w (fun v w' => K (zgn o.dst v E) w') (KP E)
    | true => zr8 S E o w (fun v w' => Below w.heap.size w w' ∧ K (zgn o.dst v E) w') (KP E))
def zaB (S : Sig) (all : List Oper) (dr : Bool) (i : Nat) (o : Oper) (E : Env) (w : Wd) (K : Env → Wd → Prop) (KP : Env → List PanicEntry → Wd → Prop) : Prop :=
  match znd S.n o.dst with
  | false => False
  | true => (match o.guard with
    | none => zhR S all dr i o E w K KP
    | some (j, want) => (match ztz all E j with
      | some (some b) => (match b, want with
        | true, true => zhR S all dr i o E w K KP
        | false, false => zhR S all dr i o E w K KP
        | true, false => K (zgn o.dst undef E) w
        | false, true => K (zgn o.dst undef E) w)
      | some none => K (zgn o.dst undef E) w
      | none => False))
def zed (S : Sig) (all : List Oper) : Nat → List Oper → Env → Wd → (Env → Wd → Prop) → (Env → List PanicEntry → Wd → Prop) → Prop
  | _, [], E, w, K, _ => K E w
  | i, o :: r, E, w, K, KP => zaB S all false i o E w (fun E' w' => zed S all (i + 1) r E' w' K KP) KP
def zok (S : Sig) (all : List Oper) (X : List Nat) (QP : List PanicEntry → Wd → Prop) : List Nat → Env → Wd → (Env → Wd → Prop) → Prop
  | [], E, w, K => K E w
  | i :: r, E, w, K => (match zhp all i with
    | some o => zaB S all (!zig i X) i o E w (fun E' w' => zok S all X QP r E' w' K) (fun _ ch w => QP ch w)
    | none => False)
def zhk (S : Sig) (all : List Oper) (X : List Nat) (QP : List PanicEntry → Wd → Prop) : OT → Env → Wd → (Env → Wd → Prop) → Prop
  | .nil, E, w, K => K E w
  | .op i t, E, w, K => (match zhp all i with
    | some o => zaB S all (!zig i X) i o E w (fun E' w' => zhk S all X QP t E' w' K) (fun _ ch w => QP ch w)
    | none => False)
  | .alt x y, E, w, K => zhk S all X QP x E w K ∧ zhk S all X QP y E w K
def zc5 (τ : TT) (X : List Nat) (ops : Array Oper) (k i : Nat) : Bool :=
  match ops[k]?, ops[i]? with
  | some ok, some oi => ok.apart ops oi && zey τ ok.op && jU ok.op && jU oi.op && (zey τ oi.op || !zig i X || isN ok.op)
  | _, _ => false
def zjA (τ : TT) (X : List Nat) (ops : Array Oper) : List Nat → Bool
  | [] => true
  | k :: r => r.all (fun i => zeL ops ops.size k i || zc5 τ X ops k i) && !r.contains k && zjA τ X ops r
def zru (τ : TT) (X : List Nat) (ops : Array Oper) (L : List Nat) : Bool :=
  Nat.beq L.length ops.size && zjA τ X ops L && L.all (fun i => Nat.blt i ops.size) && (List.range ops.size).all (fun i => L.contains i) &&
  (List.range ops.size).all (fun i => match ops[i]? with
    | some o => o.after.all fun e => !Region.binds .any e || [e.on, i].isSublist L
    | none => true) && ops.all (fun o => jU o.op)
theorem zdz {S : Sig} {X : List Nat} {ops : Array Oper} {k i : Nat} (hd : zc5 S.τ X ops k i = true) : Indep S X ops k i := by
  refine ⟨fun ok oi hk ho => ?_⟩
  simp only [zc5, hk, ho, Qg, QF, KJ] at hd
  exact ⟨hd.1.1.1.1, hd.1.1.1.2, hd.1.1.2, hd.1.2, by rcases hd.2 with (h | h) | h; exact .inl h; exact .inr (.inl h); exact .inr (.inr h)⟩
theorem zf6 {S : Sig} {X : List Nat} {ops : Array Oper} : ∀ {L : List Nat}, zjA S.τ X ops L = true → L.Nodup ∧ ∀ k i, [k, i].Sublist L → (∃ f, zeL ops f k i = true) ∨ Indep S X ops k i
  | [], _ => ⟨List.nodup_nil, fun _ _ h => by cases h⟩
  | x :: r, h => by
    simp only [zjA, Qg, Qi, QF, KJ, JT, decide_eq_false_iff_not] at h
    obtain ⟨⟨h1, h2⟩, h3⟩ := h
    obtain ⟨hn, hp⟩ := zf6 h3
    refine ⟨QT.2 ⟨h2, hn⟩, fun k i hs => ?_⟩
    cases hs with
    | cons _ hs => exact hp k i hs
    | cons_cons _ hs =>
      have hi : i ∈ r := List.singleton_sublist.1 hs
      rcases h1 i hi with hw | hd
      · exact .inl ⟨_, hw⟩
      · exact .inr (zdz hd)
theorem zoj {S : Sig} {X : List Nat} {ops : Array Oper} {L : List Nat} (h : zru S.τ X ops L = true) : L.length = ops.size ∧ OrdOk S X ops L ∧ ∀ o, o ∈ ops → jU o.op = true := by
  simp only [zru, Qg, Qi, Gd, Um, JT, decide_eq_true_eq] at h
  obtain ⟨⟨⟨⟨⟨h0, h1⟩, h2⟩, h3⟩, h4⟩, h5⟩ := h
  obtain ⟨hn, hp⟩ := zf6 h1
  refine ⟨JQ h0, ⟨hn, fun i => ⟨h2 i, h3 i⟩, hp, fun i o e ho he hb => ?_⟩, fun o ho => ?_⟩
  · have hi : i < ops.size := (Jk.1 ho).1
    have := h4 i hi
    simp only [ho, Jc] at this
    have := this e he
    simp only [hb, Uu, Ut] at this
    exact List.isSublist_iff_sublist.1 this
  · simp only [Jc] at h5
    exact h5 o ho
theorem ze2 : ∀ (l : List Oper) (i : Nat), zhp l i = l[i]?
  | [], i => by simp [zhp]
  | _ :: _, 0 => rfl
  | _ :: r, i + 1 => by simp only [zhp, Jw]; exact ze2 r i
section
variable {S : Sig} {n : Nat} {ops : Array Oper} {E : Env} {a : Act} {w : Wd}
theorem zdZ (ha : Agrees S a E) {j : Nat} {r : Option Bool} (h : ztz ops.toList E j = some r) : yielded ops a.tmps j = r := by
  unfold ztz at h
  rw [ze2] at h
  split at h
  · rename_i o ho
    split at h
    · rename_i d hd
      have ho' : ops[j]? = some o := by simpa using ho
      split at h
      · rename_i b hf
        cases h
        have := ha.val d _ hf
        simp [yielded, ho', hd, this]
      · rename_i t hf
        cases h
        have := ha.val d _ hf
        simp [yielded, ho', hd, this]
      · cases h
    · cases h
  · cases h
theorem zix {g : Bool} {v : Value} {K : Value → Prop} (h : zs5 g v K) : K v := by
  unfold zs5 at h
  split at h
  · split at h
    · rename_i b
      cases b
      · exact h.2 rfl
      · exact h.1 rfl
    · exact h
  · exact h
theorem znX (hS : SigOk S) {i : Nat} {o : Oper} (ho : ops[i]? = some o) (hs : jU o.op = true) {K : Env → Wd → Prop} {KP : Env → List PanicEntry → Wd → Prop}
    {next : Act → Wd → Prop} {Q : Exit → Act → Wd → Prop} (h : zaB S ops.toList false i o E w K KP) (ha : Agrees S a E)
    (hn : ∀ E' a' w', Agrees S a' E' → K E' w' → next a' w') (hp : ∀ ch w', KP E ch w' → Q (.panic ch) a w') :
    wpOpIn (FR S.r) n S.P ops Q i next a w := by
  unfold zaB at h
  split at h
  · exact h.elim
  · rename_i hd
    have ex : zhR S ops.toList false i o E w K KP → o.wpIn (FR S.r) n S.P a w next Q := fun h => by
      unfold zhR at h
      split at h
      · obtain ⟨v, hk, hr⟩ := zf4 hS h
        exact (qB (S := S) (n := n) (zaR hs) (hr a ha w (.inr (Ga _ _))) (hn _ _ _ (ha.put hd v) (zix hk))).wpIn (zaR hs)
      · exact (zeF hS h ha (fun v w' hk => hn _ _ _ (ha.put hd v) hk) hp).wpIn (zaR hs)
    have sk : K (zgn o.dst undef E) w → (∀ f, o.about S.P w a.eval = some f → (FR S.r).fn f) ∧ next (a.put o.dst undef) w := fun h => ⟨fun _ _ => trivial, hn _ _ _ (ha.put hd undef) h⟩
    unfold wpOpIn
    simp only [ho]
    split at h
    · rename_i hg
      have : Region.wanted o (yielded ops a.tmps) = true := by simp [Region.wanted, hg]
      rw [Gn this]; exact ex h
    · rename_i j want hg
      split at h
      · rename_i b hgv
        have hy := zdZ ha hgv
        have hw : Region.wanted o (yielded ops a.tmps) = (b == want) := by simp [Region.wanted, hg, hy]
        rw [hw]
        cases b <;> cases want <;> simp only [] at h <;> first | exact ex h | exact sk h
      · rename_i hgv
        have hy := zdZ ha hgv
        have hw : Region.wanted o (yielded ops a.tmps) = false := by simp [Region.wanted, hg, hy]
        rw [hw]
        exact sk h
      · exact h.elim
theorem zf3 (hS : SigOk S) {X : List Nat} {i : Nat} {o : Oper} (ho : ops[i]? = some o) (_hs : jU o.op = true) {K : Env → Wd → Prop}
    {next : Act → Wd → Prop} {QP : List PanicEntry → Wd → Prop} (h : zaB S ops.toList (!zig i X) i o E w K (fun _ ch w => QP ch w)) (ha : Agrees S a E)
    (hn : ∀ E' a' w', Agrees S a' E' → K E' w' → next a' w') :
    jF S X n QP ops i next a w := by
  unfold zaB at h
  split at h
  · exact h.elim
  · rename_i hd
    have ex : zhR S ops.toList (!zig i X) i o E w K (fun _ ch w => QP ch w) → (if zey S.τ o.op = true then ∃ v, PV S.P o a w v ∧ next (a.put o.dst v) w
       else UponE S n o a w (fun a' w' => (zig i X = false → Below w.heap.size w w') ∧ next a' w') (PQ QP)) := fun h => by
      unfold zhR at h
      split at h
      · rename_i hp
        rw [Gn hp]
        obtain ⟨v, hk, hr⟩ := zf4 hS h
        exact ⟨v, fun w2 hb => hr a ha w2 hb, hn _ _ _ (ha.put hd v) (zix hk)⟩
      · rename_i hp
        rw [Gm (by simp [hp])]
        split at h
        · rename_i hm
          have hm' : zig i X = true := by simpa using hm
          exact zeF hS h ha (fun v w' hk => ⟨fun hf => (by rw [hm'] at hf; cases hf), hn _ _ _ (ha.put hd v) hk⟩) (fun _ _ h => h)
        · exact zeF hS h ha (fun v w' hk => ⟨fun _ => hk.1, hn _ _ _ (ha.put hd v) hk.2⟩) (fun _ _ h => h)
    have sk : K (zgn o.dst undef E) w → next (a.put o.dst undef) w := fun h => hn _ _ _ (ha.put hd undef) h
    unfold jF
    simp only [ho]
    split at h
    · rename_i hg
      have : Region.wanted o (yielded ops a.tmps) = true := by simp [Region.wanted, hg]
      rw [Gn this]; exact ex h
    · rename_i j want hg
      split at h
      · rename_i b hgv
        have hy := zdZ ha hgv
        have hw : Region.wanted o (yielded ops a.tmps) = (b == want) := by simp [Region.wanted, hg, hy]
        rw [hw]
        cases b <;> cases want <;> simp only [] at h <;> first | exact ex h | exact sk h
      · rename_i hgv
        have hy := zdZ ha hgv
        have hw : Region.wanted o (yielded ops a.tmps) = false := by simp [Region.wanted, hg, hy]
        rw [hw]
        exact sk h
      · exact h.elim
end
section
variable {S : Sig} {n : Nat}
def zih (S : Sig) (Q : Exit → Env → Wd → Prop) : Exit → Act → Wd → Prop := fun ex a w => ∃ E, Agrees S a E ∧ Q ex E w
theorem zhm (hS : SigOk S) {ops : Array Oper} (hsel : ∀ o ∈ ops, jU o.op = true) {Q : Exit → Env → Wd → Prop} :
    ∀ (r : List Oper) (i : Nat) (E : Env) (a : Act) (w : Wd), (∀ k o, r[k]? = some o → ops[i + k]? = some o) → Agrees S a E →
      zed S ops.toList i r E w (fun E w => Q .normal E w) (fun E ch w => Q (.panic ch) E w) →
      wpOpsIn (FR S.r) n S.P ops (zih S Q) (List.range' i r.length) a w
  | [], i, E, a, w, _, ha, h => by simp only [QM, List.range'_zero, wpOpsIn]; exact ⟨E, ha, h⟩
  | o :: r, i, E, a, w, hr, ha, h => by
    rw [Qr, List.range'_succ, wpOpsIn_cons]
    have ho : ops[i]? = some o := by simpa using hr 0 o rfl
    refine znX hS ho (hsel o (JI ho)) h ha (fun E' a' w' ha' hk => ?_) (fun ch w' hk => ⟨E, ha, hk⟩)
    exact zhm hS hsel r (i + 1) E' a' w' (fun k o' hk => by have := hr (k + 1) o' (by simpa using hk); rwa [UC, UJ 1 k]) ha' hk
theorem zhl (hS : SigOk S) {X : List Nat} {QP : List PanicEntry → Wd → Prop} {ops : Array Oper} (hsel : ∀ o ∈ ops, jU o.op = true) {K : Env → Wd → Prop} :
    ∀ (L : List Nat) (E : Env) (a : Act) (w : Wd), Agrees S a E → zok S ops.toList X QP L E w K →
      zhA S X n QP ops (fun a w => ∃ E, Agrees S a E ∧ K E w) L a w
  | [], E, _, _, ha, h => ⟨E, ha, h⟩
  | i :: r, E, a, w, ha, h => by
    simp only [zok, ze2] at h
    split at h
    · rename_i o ho
      have ho' : ops[i]? = some o := by simpa using ho
      exact zf3 hS ho' (hsel o (JI ho')) h ha (fun E' a' w' ha' hk => zhl hS hsel r E' a' w' ha' hk)
    · exact h.elim
theorem zbS (hS : SigOk S) {X : List Nat} {QP : List PanicEntry → Wd → Prop} {ops : Array Oper} (hsel : ∀ o ∈ ops, jU o.op = true) {K : Env → Wd → Prop} :
    ∀ (T : OT) (E : Env) (a : Act) (w : Wd), Agrees S a E → zhk S ops.toList X QP T E w K →
      zdf S X n QP ops (fun a w => ∃ E, Agrees S a E ∧ K E w) T a w
  | .nil, E, _, _, ha, h => ⟨E, ha, h⟩
  | .op i t, E, a, w, ha, h => by
    simp only [zhk, ze2] at h
    split at h
    · rename_i o ho
      have ho' : ops[i]? = some o := by simpa using ho
      exact zf3 hS ho' (hsel o (JI ho')) h ha (fun E' a' w' ha' hk => zbS hS hsel t E' a' w' ha' hk)
    · exact h.elim
  | .alt x y, E, a, w, ha, h => ⟨zbS hS hsel x E a w ha h.1, zbS hS hsel y E a w ha h.2⟩
def DrawE (S : Sig) (ops : Array Oper) (E : Env) (w : Wd) (K : Env → Wd → Prop) (QP : List PanicEntry → Wd → Prop) : Prop :=
  (∃ X L : List Nat, zru S.τ X ops L = true ∧ zok S ops.toList X QP L E w.drew K) ∨
  (∃ (X : List Nat) (T : OT), (zmm (zc5 S.τ X ops) ops ops.size (Array.replicate ops.size false) T && ops.all (fun o => jU o.op)) = true ∧ zhk S ops.toList X QP T E w.drew K) ∨
  (∃ (X : List Nat) (T : OT), (zll (zc5 S.τ X ops) ops ops.size (Array.replicate ops.size false) T && ops.all (fun o => jU o.op)) = true ∧ zhk S ops.toList X QP T E w.drew K)
theorem DrawE.ord {S : Sig} {ops : Array Oper} {E : Env} {w : Wd} {K : Env → Wd → Prop} {QP : List PanicEntry → Wd → Prop} (X L : List Nat) (h : zru S.τ X ops L = true) (k : zok S ops.toList X QP L E w.drew K) : DrawE S ops E w K QP :=
  .inl ⟨X, L, h, k⟩
def zqQ (ops : List Oper) : Bool := ops.all fun o => jU o.op
def zqW (body : Env → Wd → (Exit → Env → Wd → Prop) → Prop) (E : Env) (w : Wd) (Q : Exit → Env → Wd → Prop) : Prop :=
  ∃ (σ : Type) (env : σ → Env) (inv : σ → Wd → Prop) (μ : σ → Nat) (s0 : σ), Cov E (env s0) ∧ inv s0 w ∧
    ∀ s w, inv s w → body (env s) w fun ex E' w' => match ex with
      | .normal => ∃ s', Cov E' (env s') ∧ inv s' w' ∧ μ s' < μ s
      | ex => Q ex E' w'
def zj3 (S : Sig) (f : Operand) (params : Array Tmp) (assign body : Code) (E : Env) (w : Wd) (Q : Exit → Env → Wd → Prop) : Prop :=
  ∀ a, Agrees S a E → (Code.rangeFunc f params assign body).wpIn (FR S.r) NN S.P (zih S Q) a w
def wpE (S : Sig) : Code → Env → Wd → (Exit → Env → Wd → Prop) → Prop
  | .skip, E, w, Q => Q .normal E w
  | .region _ ops draw, E, w, Q => (match draw with
    | false => (match zqQ ops.toList with
      | true => zed S ops.toList 0 ops.toList E w (fun E w => Q .normal E w) (fun E ch w => Q (.panic ch) E w)
      | false => False)
    | true => DrawE S ops E w (fun E w => Q .normal E w) (fun ch w => Q (.panic ch) ⟨[], E.ds⟩ w))
  | .seq x y, E, w, Q => wpE S x E w fun ex E' w' => match ex with
    | .normal => wpE S y E' w' Q
    | ex => Q ex E' w'
  | .cond c x y, E, w, Q => (match opd E c with
    | some (.bool b) => Br b (wpE S x E w Q) (wpE S y E w Q)
    | _ => False)
  | .block id x, E, w, Q => wpE S x E w fun ex E' w' => match ex with
    | .exit id' => (match Nat.beq id' id with
      | true => Q .normal E' w'
      | false => Q (.exit id') E' w')
    | ex => Q ex E' w'
  | .loop x, E, w, Q => zqW (fun E w Q => wpE S x E w Q) E w Q
  | .rangeFunc f ps ags x, E, w, Q => zj3 S f ps ags x E w Q
  | .exit id, E, w, Q => Q (.exit id) E w
  | .scope _, _, _, _ => False
  | .label _, E, w, Q => Q .normal E w
  | .goto l, E, w, Q => Q (.goto l) E w
  | .ret, E, w, Q => Q .ret E w
  | .refuse _, _, _, _ => False
theorem q9 (hS : SigOk S) : ∀ (c : Code) (E : Env) (a : Act) (w : Wd) (Q : Exit → Env → Wd → Prop), Agrees S a E → wpE S c E w Q → c.wpIn (FR S.r) NN S.P (zih S Q) a w
  | .skip, E, a, w, Q, ha, h => wpIn_skip ⟨E, ha, h⟩
  | .region id ops draw, E, a, w, Q, ha, h => by
    cases draw with
    | false =>
      simp only [wpE] at h
      split at h
      · rename_i hs
        refine wpIn_region ?_
        rw [List.range_eq_range']
        have hs' : ∀ o ∈ ops, jU o.op = true := fun o ho => by
          simp only [zqQ, Qi] at hs
          exact hs o (Array.mem_toList_iff.2 ho)
        have := zhm (n := NN) hS hs' ops.toList 0 E a w (fun k o hk => by simpa using hk) ha h
        simpa using this
      · exact h.elim
    | true =>
      simp only [wpE] at h
      refine wpIn_region_any hS.mixed ?_
      have hI : ∀ (b : Act) (dst : Option Tmp) (v : Value), (b.tmps.size = S.n ∧ b.defers = E.ds) → ((b.put dst v).tmps.size = S.n ∧ (b.put dst v).defers = E.ds) := fun b dst v hb => by
        cases dst with
        | none => exact hb
        | some d => exact ⟨by simp [Act.put, hb.1], hb.2⟩
      have hQ : ∀ ch (b : Act) w, (b.tmps.size = S.n ∧ b.defers = E.ds) → Q (.panic ch) ⟨[], E.ds⟩ w → zih S Q (.panic ch) b w := fun ch b w hb hq => ⟨⟨[], E.ds⟩, ⟨hb.1, hb.2, fun t v hv => by simp [Env.find, VEnv.find] at hv⟩, hq⟩
      have hia : a.tmps.size = S.n ∧ a.defers = E.ds := ⟨ha.size, ha.defers⟩
      rcases h with ⟨X, L, hL, h⟩ | ⟨X, T, hT, h⟩ | ⟨X, T, hT, h⟩
      · obtain ⟨hlen, hO, hs⟩ := zoj hL
        have h1 := zhl (n := NN) hS hs L E a w.drew ha h
        refine zgl (Q := zih S Q) hI hQ hs hO ops.size L (Array.replicate ops.size false) a w.drew hlen (List.Sublist.refl _) (by simp) (fun i => ?_) (fun j o hj => ?_) hia h1
        · rw [hO.mem i]
          refine ⟨fun hi => ⟨hi, by simp [hi]⟩, fun hi => hi.1⟩
        · exfalso
          by_cases hjs : j < ops.size <;> simp [hjs] at hj
      · simp only [Qg, Jc] at hT
        exact zgk (Q := zih S Q) hI hQ hT.2 (fun k i h => zdz h) ops.size _ T a w.drew hT.1 hia (zbS (n := NN) hS hT.2 T E a w.drew ha h)
      · simp only [Qg, Jc] at hT
        exact zfr (Q := zih S Q) hI hQ hT.2 (fun k i h => zdz h) ops.size _ T a w.drew hT.1 hia (zbS (n := NN) hS hT.2 T E a w.drew ha h)
  | .seq x y, E, a, w, Q, ha, h => by
    refine wpIn_seq ?_
    refine Gg (q9 hS x E a w _ ha h) ?_
    rintro ex a' w' ⟨E', ha', hq⟩
    cases ex with
    | normal => exact q9 hS y E' a' w' Q ha' hq
    | _ => exact ⟨E', ha', hq⟩
  | .cond c x y, E, a, w, Q, ha, h => by
    simp only [wpE] at h
    split at h
    · rename_i b hb
      refine wpIn_cond_split (ha.eval hb) (fun e => q9 hS x E a w Q ha (h.1 e)) (fun e => q9 hS y E a w Q ha (h.2 e))
    · exact h.elim
  | .block id x, E, a, w, Q, ha, h => by
    refine wpIn_block ?_
    refine Gg (q9 hS x E a w _ ha h) ?_
    rintro ex a' w' ⟨E', ha', hq⟩
    cases ex with
    | exit id' =>
      simp only [Exit.inBlock]
      dsimp only at hq
      split at hq
      · rename_i hb; rw [Gn (JQ hb)]; exact ⟨E', ha', hq⟩
      · rename_i hb; rw [Gm (Nat.ne_of_beq_eq_false hb)]; exact ⟨E', ha', hq⟩
    | _ => exact ⟨E', ha', hq⟩
  | .loop x, E, a, w, Q, ha, h => by
    obtain ⟨σ, env, inv, μ, s0, hc, hi, hb⟩ := h
    have key : ∀ m s a w, μ s = m → Agrees S a (env s) → inv s w → (Code.loop x).wpIn (FR S.r) NN S.P (zih S Q) a w := by
      intro m s a w hm ha hi
      refine wpIn_loop (fun a w => ∃ s, Agrees S a (env s) ∧ inv s w) (fun a w => leastOf (fun k => ∃ s, Agrees S a (env s) ∧ inv s w ∧ μ s = k)) ⟨s, ha, hi⟩ ?_
      intro a w ⟨s1, ha1, hi1⟩
      obtain ⟨⟨s2, ha2, hi2, hm2⟩, _⟩ := leastOf_spec (p := fun k => ∃ s, Agrees S a (env s) ∧ inv s w ∧ μ s = k) ⟨_, s1, ha1, hi1, rfl⟩
      refine Gg (q9 hS x (env s2) a w _ ha2 (hb s2 w hi2)) ?_
      rintro ex a' w' ⟨E', ha', hq⟩
      cases ex with
      | normal =>
        obtain ⟨s', hc', hi', hlt⟩ := hq
        refine ⟨⟨s', ha'.cov hc', hi'⟩, ?_⟩
        have := (leastOf_spec (p := fun k => ∃ s, Agrees S a' (env s) ∧ inv s w' ∧ μ s = k) ⟨_, s', ha'.cov hc', hi', rfl⟩).2
        rw [← hm2]
        exact KE (this _ ⟨s', ha'.cov hc', hi', rfl⟩) hlt
      | _ => exact ⟨E', ha', hq⟩
    exact key _ s0 a w rfl (ha.cov hc) hi
  | .rangeFunc f ps ags x, E, a, w, Q, ha, h => h a ha
  | .exit id, E, a, w, Q, ha, h => wpIn_exit ⟨E, ha, h⟩
  | .scope _, _, _, _, _, _, h => h.elim
  | .label _, E, a, w, Q, ha, h => wpIn_label ⟨E, ha, h⟩
  | .goto l, E, a, w, Q, ha, h => wpIn_goto ⟨E, ha, h⟩
  | .ret, E, a, w, Q, ha, h => wpIn_ret ⟨E, ha, h⟩
  | .refuse _, _, _, _, _, _, h => h.elim
def zjv (E : Env) (w : Wd) : (τ : TT) → List ResultVar → (List Value → Prop) → Prop
  | _, [], K => K []
  | τ, .tmp t :: r, K => qh E (.tmp t) fun v => zjv E w τ r fun vs => K (v :: vs)
  | τ, .cell t T :: r, K => qh E (.tmp t) fun va => (match va with
    | .pointer (some p) => (match TT.get τ T with
      | some { agg := true, size := sz, .. } => ∃ us : List Value, us.length = sz ∧ zK w p us ∧ zjv E w τ r fun vs => K (.agg us.toArray :: vs)
      | some { agg := false, .. } => ∃ u, w.cell? p = some u ∧ zjv E w τ r fun vs => K (u :: vs)
      | none => False)
    | _ => False)
def zho : List Value → Value
  | [v] => v
  | l => .tuple l.toArray
theorem zeV {S : Sig} (hS : SigOk S) {E : Env} {a : Act} {w : Wd} (ha : Agrees S a E) : ∀ (l : List ResultVar) (K : List Value → Prop), zjv E w S.τ l K →
    ∃ vs, K vs ∧ (l.mapM fun | .tmp t => pure (a.tmps.getD t undef) | .cell q t => do loadVar t (← asAddr (a.tmps.getD q undef)) : Sem (List Value)).run S.P w = .ok vs w
  | [], K, h => ⟨[], h, rfl⟩
  | .tmp t :: r, K, h => by
    obtain ⟨v, hv, h⟩ := zo h
    obtain ⟨vs, hk, hr⟩ := zeV hS ha r _ h
    have : a.tmps.getD t undef = v := ha.eval hv
    refine ⟨_, hk, ?_⟩
    simp only [Ul, US, UT, KZ, this]
    rw [hr]
    rfl
  | .cell q T :: r, K, h => by
    simp only [zjv] at h
    replace h := zo h
    obtain ⟨va, hv, h⟩ := h
    have e0 : a.tmps.getD q undef = va := ha.eval hv
    split at h
    · rename_i p
      split at h
      · rename_i sz _ _ ht
        obtain ⟨us, hl, hc, h⟩ := h
        obtain ⟨vs, hk, hr⟩ := zeV hS ha r _ h
        refine ⟨_, hk, ?_⟩
        have e : asAddr (a.tmps.getD q undef) = pure p := by rw [e0]; rfl
        simp only [Ul, US, UT, KZ, e, zf9 (hS.ty _ _ ht) rfl hl hc]
        rw [hr]
        rfl
      · rename_i _ _ _ _ ht
        obtain ⟨u, hc, h⟩ := h
        obtain ⟨vs, hk, hr⟩ := zeV hS ha r _ h
        refine ⟨_, hk, ?_⟩
        have e : asAddr (a.tmps.getD q undef) = pure p := by rw [e0]; rfl
        simp only [Ul, US, UT, KZ, e, zf8 (hS.ty _ _ ht) rfl hc]
        rw [hr]
        rfl
      · exact h.elim
    · exact h.elim
theorem zkv {S : Sig} (hS : SigOk S) {E : Env} {a : Act} {w : Wd} (ha : Agrees S a E) {fn : Func} {K : Value → Prop} (h : zjv E w S.τ fn.results.toList fun vs => K (zho vs)) :
    ∃ v, K v ∧ (results fn a.tmps).run S.P w = .ok v w := by
  obtain ⟨vs, hk, hr⟩ := zeV hS ha _ _ h
  refine ⟨_, hk, ?_⟩
  unfold results
  rw [US, Array.mapM_eq_mapM_toList, Sem.run_map]
  refine Eq.trans (Gi (fun x => Result.andThen (Result.andThen x _) _) hr) ?_
  simp only [KZ, UT]
  congr 1
  match vs with
  | [] => simp [zho]
  | [v] => simp [zho]
  | v :: u :: r => simp [zho]
def zjJ : List Deferred → Wd → (Wd → Prop) → Prop
  | [], w, K => K w
  | d :: r, w, K => ∃ b, d.target = .collected b ∧ w.heap[b]? = some (.deferred (some [])) ∧ zjJ r (w.putObj b (.deferred none)) K
def zm1 (S : Sig) (fn : Func) (R : Ending → Wd → Prop) : Exit → Env → Wd → Prop
  | .normal, E, w => zjJ E.ds w fun w' => zjv E w' S.τ fn.results.toList fun vs => R (.returned (zho vs)) w'
  | .ret, E, w => zjJ E.ds w fun w' => zjv E w' S.τ fn.results.toList fun vs => R (.returned (zho vs)) w'
  | .panic ch, E, w => E.ds = [] ∧ R (.panicked ch) w
  | _, _, _ => False
theorem za1 {S : Sig} (hS : SigOk S) {fn : Func} {R : Ending → Wd → Prop} {a : Act} {E : Env} (ha : Agrees S a E) : ∀ (ds : List Deferred) (w : Wd),
    (zjJ ds w fun w' => zjv E w' S.τ fn.results.toList fun vs => R (.returned (zho vs)) w') → LeavesInM (FR none) NN S.P fn a.tmps R ds .returning w
  | [], w, h => by
    obtain ⟨v, hk, hr⟩ := zkv hS ha (K := fun v => R (.returned v) w) h
    exact ⟨v, hr, hk⟩
  | d :: r, w, ⟨b, hd, hb, h⟩ => ⟨by simp, .inl ⟨b, _, hd, run_takeDeferred hb, za1 hS ha r _ h⟩⟩
def zej : Nat → List Value → VEnv
  | _, [] => []
  | i, v :: r => (i, v) :: zej (i + 1) r
theorem zeI : ∀ (l : List Value) (i t : Nat) (v : Value), VEnv.find (zej i l) t = some v → i ≤ t ∧ l[t - i]? = some v
  | [], _, _, _, h => by simp [zej, VEnv.find] at h
  | u :: r, i, t, v, h => by
    simp only [zej, VEnv.find] at h
    cases hb : Nat.beq i t with
    | true =>
      rw [hb] at h
      have e : i = t := JQ hb
      subst e
      simp only [KY] at h
      subst h
      simp
    | false =>
      rw [hb] at h
      obtain ⟨h1, h2⟩ := zeI r (i + 1) t v h
      refine ⟨by omega, ?_⟩
      have : t - i = (t - (i + 1)) + 1 := by omega
      rw [this]
      simpa using h2
theorem jz {S : Sig} (hS : SigOk S) {f : FuncId} {fn : Func} {c : Code} {args : List Value} {w : Wd} {R : Ending → Wd → Prop}
    (hf : S.P.funcs[f]? = some fn) (hb : fn.body = some c) (hn : fn.ntmps = S.n) (hle : args.length ≤ S.n) (hr : S.r = none)
    (h : wpE S c ⟨zej 0 args, []⟩ w (zm1 S fn R)) : Calls S.P f args.toArray w R := by
  rw [← callsIn_wide (n := NN)]
  have hF : FR none = Fence.wide := rfl
  rw [← hF]
  refine callsIn_of_wp_marks hf hb trivial ?_
  have ha : Agrees S { tmps := args.toArray ++ Array.replicate (fn.ntmps - args.toArray.size) undef, defers := [] } ⟨zej 0 args, []⟩ := by
    refine ⟨?_, rfl, fun t v hv => ?_⟩
    · simp [hn]; omega
    · obtain ⟨_, h2⟩ := zeI _ _ _ _ hv
      simp only [UO] at h2
      have hlt : t < args.length := (Js.1 h2).1
      simp only [Array.getElem?_append, KW, hlt, Gl]
      simpa using h2
  have h1 := q9 hS c _ _ w _ ha h
  rw [hr] at h1
  refine Gg h1 ?_
  rintro ex a' w' ⟨E', ha', hq⟩
  cases ex with
  | normal => have := za1 hS ha' _ _ hq; rw [← ha'.defers] at this; exact this
  | ret => have := za1 hS ha' _ _ hq; rw [← ha'.defers] at this; exact this
  | panic ch =>
    obtain ⟨hd, hR⟩ := hq
    show LeavesInM _ _ _ _ _ _ a'.defers _ _
    rw [ha'.defers, hd]
    exact hR
  | exit _ => exact hq.elim
  | goto _ => exact hq.elim
  | outgrown => exact hq.elim
end
theorem rb {a b:Bool} (h:a=b):Ending.returned (.bool a)=Ending.returned (.bool b):=by rw [h]
theorem ri {k:IntKind} {a b:Int} (h:a=b):Ending.returned (.int k a)=Ending.returned (.int k b):=by rw [h]
theorem ze {a:Int} (h : -9223372036854775808<=a/\a<=9223372036854775807):IntKind.i64.wrap a=a:=by
 unfold IntKind.wrap;simp only [IntKind.bits,IntKind.signed,Uw,show ((2:Int)^64)=18446744073709551616 from rfl,show ((2:Int)^(64-1))=9223372036854775808 from rfl]
 split
 ·rename_i h2;have:=dT h2;omega
 ·rename_i h2;have h3:a%18446744073709551616<9223372036854775808:=by simpa using h2
  omega
theorem nxI {k:Nat} {K:Int->Prop} (h:(k:Int)+1<=9223372036854775807) (x:K ((k+1:Nat):Int)):∃ m,IntKind.i64.wrap ((k:Int)+1)=m/\K m:=⟨_,(ze (by omega)).trans (by omega),x⟩
theorem zeK {a:Int} (h:0<=a/\a<=255):IntKind.u8.wrap a=a:=by
 unfold IntKind.wrap;simp only [IntKind.bits,IntKind.signed,Uh,Kt,Gj];omega
theorem zum (x:UInt8):(x.toNat:Int)<=255:=by have:=x.toNat_lt;omega
theorem q8 (x:UInt8):IntKind.i64.wrap (x.toNat:Int)=(x.toNat:Int):=ze (by have:=zum x;omega)
theorem qu {x y:UInt8}:((x.toNat:Int)=(y.toNat:Int))↔x=y :=
 ⟨fun h=>Ue.1 (by omega),fun h=>by rw [h]⟩
def u8 (x:UInt8):Value := .int .u8 x.toNat
theorem zmo {w:Wd} {b o:Nat} {v:Value} {vs:List Value} (h:zK w ⟨b,o,none⟩ (v::vs)):w.cell? ⟨b,o,none⟩=some v:=by
 have:=h 0 v rfl
 rwa [zbp] at this
theorem zc {w:Wd} {b o:Nat} {vs:List Value} (h:zK w ⟨b,o,none⟩ vs) {i:Nat} {v:Value} (hv:vs[i]?=some v):w.cell? ⟨b,o+i,none⟩=some v:=by
 have:=h i v hv
 rwa [zbp] at this
theorem za4 {w:Wd} {b o:Nat} {vs:List Value} (h:∀ i v,vs[i]?=some v->w.cell? ⟨b,o+i,none⟩=some v):zK w ⟨b,o,none⟩ vs :=
 fun i v hv=>by rw [zbp];exact h i v hv
theorem zR {w:Wd} {b o n m:Nat} {vs:List Value} (h:zK w ⟨b,o,none⟩ vs):zK w ⟨b,o+n,none⟩ ((vs.drop n).take m):=by
 refine za4 fun i v hv=>?_;rw [Kx] at hv
 split at hv
 ·rw [Kw] at hv;have:=zc h hv
  rwa [<- UC] at this
 ·cases hv
theorem za {w:Wd} {g:Nat} {cs:Array Value} {t:TypeId} {fr:Nat×Nat} (h:w.heap[g]?=some (.cells cs t fr)):zK w ⟨g,0,none⟩ cs.toList:=by
 refine za4 fun i v hv=>?_;rw [cell_of_row w g (0+i) cs t fr h,UQ];simpa using hv
theorem qK {w:Wd} {g o n:Nat} {cs:Array Value} {t:TypeId} {fr:Nat×Nat} (h:w.heap[g]?=some (.cells cs t fr)):zK w ⟨g,o,none⟩ ((cs.toList.drop o).take n):=by
 have:=zR (n:=o) (m:=n) (za h)
 rwa [UQ] at this
theorem zi6 {w:Wd} {cs:Array Value} {t:TypeId}:zK (w.alloc (.cells cs t)) ⟨w.heap.size,0,none⟩ cs.toList :=
 za (heap_alloc_new w _)
theorem zb {w w2:Wd} (hb:Bw w w2) {g:Nat} {o:Obj} (h:w.heap[g]?=some o):w2.heap[g]?=some o :=
 (hb.block g (Jk.1 h).1).trans h
structure Enc (α:Type) where
 enc:α->List Value
 sz:Nat
 len:∀ a,(enc a).length=sz
 pos:0<sz
 one:∀ a,∀ u∈enc a,u.oneCell'=true
def SlR {α:Type} (E:Enc α) (w:Wd) (p:OA) (l:List α):Prop :=
 l=[]\/∃ b o,p=some ⟨b,o,none⟩/\b<w.heap.size/\∀ i (h:i<l.length),zK w ⟨b,o+i*E.sz,none⟩ (E.enc l[i])
section
variable {α:Type} {E:Enc α} {w w2:Wd} {p:OA} {l:List α}
theorem SlR.nil {E:Enc α} {w:Wd} {p:OA}:SlR E w p [] := .inl rfl
theorem SlR.at (h:SlR E w p l) {i:Nat} (hi:i<l.length):∃ b o,p=some ⟨b,o,none⟩/\b<w.heap.size/\∀ i (h:i<l.length),zK w ⟨b,o+i*E.sz,none⟩ (E.enc l[i]):=by
 rcases h with rfl | h
 ·simp at hi
 ·exact h
theorem SlR.below (h:SlR E w p l) (hb:Bw w w2):SlR E w2 p l:=by
 rcases h with rfl | ⟨b,o,hp,hlt,hc⟩
 ·exact .inl rfl
 ·exact .inr ⟨b,o,hp,nL hlt hb.size,fun i hi=>zr hb (hc i hi)⟩
theorem zff (l:List α) (i:Nat) (hi:i<l.length):(((l.flatMap E.enc).drop (i*E.sz)).take E.sz)=E.enc l[i]:=by
 induction l generalizing i with
 | nil=>simp at hi
 | cons a r ih =>
  rw [KR]
  cases i with
  | zero=>simp [<- E.len a]
  | succ i =>
   have e:(i+1)*E.sz=(E.enc a).length+i*E.sz:=by rw [E.len,UU];omega
   rw [e,<- Ui,Uj];simpa using ih i (by simpa using hi)
theorem qE (l:List α):(l.flatMap E.enc).length=l.length*E.sz:=by
 induction l with
 | nil=>simp
 | cons a r ih=>rw [KR,lap,ih,E.len,Qr,UU];omega
theorem zcE (l:List α):∀ u∈l.flatMap E.enc,u.oneCell'=true:=fun u hu=>by
 obtain⟨a,_,h⟩:=List.mem_flatMap.1 hu;exact E.one a u h
theorem SlR.of_cells {b o:Nat} (hb:b<w.heap.size) (h:zK w ⟨b,o,none⟩ (l.flatMap E.enc)):SlR E w (some ⟨b,o,none⟩) l :=
 .inr ⟨b,o,rfl,hb,fun i hi=>by rw [<- zff l i hi];exact zR h⟩
theorem SlR.cells {b o:Nat} (h:SlR E w (some ⟨b,o,none⟩) l):zK w ⟨b,o,none⟩ (l.flatMap E.enc):=by
 rcases h with rfl | ⟨b',o',hp,hlt,hc⟩
 ·intro i v hv;simp at hv
 ·cases hp
  refine za4 fun j v hv=>?_;have hj:j<l.length*E.sz:=by rw [<- qE (E:=E) l];exact (Js.1 hv).1
  have hs:=E.pos;have hd:j/E.sz<l.length:=Kc (by rw [UM];exact hj);have h2:(E.enc l[j/E.sz])[j%E.sz]?=some v:=by
   rw [<- zff l _ hd,Kx,Gn (Ge _ hs),Kw,UM,QX];exact hv
  have h3:=zc (hc _ hd) h2
  rwa [UC,UM,QX] at h3
def OwnS (E:Enc α) (T:TypeId) (B:Nat) (w:Wd) (p:OA) (cap:Nat) (l:List α):Prop :=
 w.ownsRow B T E.sz (.slice p l.length cap) l.length (l.flatMap E.enc)
theorem OwnS.nil {E:Enc α} {T B:Nat} {w:Wd}:OwnS E T B w none 0 []:=by
 unfold OwnS;exact World.ownsRow_nil _ _ _ _
theorem OwnS.inv {T B cap:Nat} (h:OwnS E T B w p cap l):(p=none/\cap=0/\l=[]) \/
  ∃ g cur,p=some ⟨g,0,none⟩/\B<=g/\w.heap[g]?=some (.cells cur T (0,0))/\l.length<=cap/\cap<=maxLen/\cur.size=cap*E.sz/\cur.toList.take (l.length*E.sz)=l.flatMap E.enc:=by
 obtain⟨h1,h2⟩:=h;rcases h2 with ⟨h2,h3⟩ | ⟨g,cap',cur,h2,hb,hg,hn,hm,hs,ht⟩
 ·simp only [Value.slice.injEq] at h2;exact .inl ⟨h2.1,h2.2.2,Jf h3⟩
 ·simp only [Value.slice.injEq,true_and] at h2;obtain⟨rfl,rfl⟩:=h2;exact .inr ⟨g,cur,rfl,hb,hg,hn,hm,hs,ht⟩
theorem OwnS.row {T B cap:Nat} (h:OwnS E T B w p cap l):SlR E w p l:=by
 rcases h.inv with ⟨_,_,rfl⟩ | ⟨g,cur,rfl,_,hg,_,_,_,ht⟩
 ·exact .inl rfl
 ·refine SlR.of_cells (Jk.1 hg).1 ?_;rw [<- ht];exact qK (o:=0) hg
theorem OwnS.kept {T B cap:Nat} (h:OwnS E T B w p cap l) {w':Wd} {row:Option Nat} (hg:w.grownBy w' row) (hne:∀ g,p=some ⟨g,0,none⟩->row≠some g):OwnS E T B w' p cap l:=by
 refine World.ownsRow.kept h hg ?_;rcases h.inv with ⟨rfl,_⟩ | ⟨g,_,rfl,_⟩
 ·exact .inl rfl
 ·exact .inr (fun e=>hne g rfl e.symm)
theorem OwnS.below {T B cap:Nat} (h:OwnS E T B w p cap l) (hb:Bw w w2):OwnS E T B w2 p cap l :=
 h.kept (row:=none) ⟨hb.os,hb.tape,hb.output,hb.size,fun k hk _=>hb.block k hk⟩ (fun _ _ h=>by cases h)
theorem OwnS.alloc {T B cap:Nat} (h:OwnS E T B w p cap l) (o:Obj):OwnS E T B (w.alloc o) p cap l :=
 h.below ((Ga _ w).alloc (UV _) o)
theorem OwnS.drew {T B cap:Nat} (h:OwnS E T B w p cap l):OwnS E T B w.drew p cap l:=h.below (Ga _ w).drew
theorem jJ {P:Program} {t T ty B cap m c:Nat} {a:Addr} {news:List α} {iT:TI} {z:List Value} (hu:P.underlying t=some (.slice T)) (hT:TIok P T iT) (hz:iT.zero=some z)
  (hs:iT.size=E.sz) (hzl:z.length=E.sz) (ho:OwnS E T B w p cap l) (hm:news.length=m) (hn:zK w a (news.flatMap E.enc)) (hB:B<=w.heap.size)
  (h1:l.length+m<=9223372036854775807) (h2:(l.length+m)*iT.bytes<=140737488355328) {K:Value->Wd->Prop}
  (k:∀ p' cap' w',OwnS E T B w' p' cap' (l++news)->w.grownBy w' (Value.slice p l.length cap).ownBlock->Below B w w' ->
   (∀ a,p'=some a->p=some a\/a.block=w.heap.size)->K (.slice p' (l++news).length cap') w') :
  SatR ((Builtin.append_ #[t,t] ty #[.slice p l.length cap,.slice (some a) m c]).run P w) K:=by
 obtain⟨⟨inf,hi,hsz,hby,hzz⟩,_⟩:=hT;obtain⟨zv,hzv,hzc⟩:=hzz z hz;have hown:=run_append_own_at (P:=P) w B t ty T inf zv E.sz iT.bytes hu hi hzv (hsz.trans hs) hby (by rw [<- hzl,<- hzc];simp) E.pos (.slice p l.length cap) l.length (l.flatMap E.enc) ho a m c (news.flatMap E.enc)
  (by rw [qE,hm]) hn (zcE news) (by unfold maxLen;omega) h2 hB
 obtain⟨v',w',hr,ho',hg,_,hat⟩:=hown;refine SatR.mk hr ?_;have hl:l.length+m=(l++news).length:=by simp [hm]
 have hf:l.flatMap E.enc++news.flatMap E.enc=(l++news).flatMap E.enc:=by rw [Kg]
 rw [hl,hf] at ho';have hb:Below B w w':=(Ga B w).grown hg hB (fun k e=>(World.ownsRow.lt ho k e).1);rcases ho'.2 with ⟨rfl,h0⟩ | ⟨g,cap',cur,rfl,qI⟩
 ·have:K (.slice none (l++news).length 0) w':=k none 0 w' (by unfold OwnS;rw [h0] at ho' ⊢;exact ho') hg hb (fun _ h=>by cases h);rw [h0] at this;exact this
 ·refine k _ _ w' ho' hg hb fun a ha=>?_
  cases ha
  rcases hat with h1 | h1
  ·rcases ho.inv with ⟨rfl,_⟩ | ⟨g',_,rfl,_⟩
   ·simp [Value.ownBlock] at h1
   ·simp [Value.ownBlock] at h1;exact .inl (by rw [h1])
  ·simp [Value.ownBlock] at h1;exact .inr h1
theorem OwnS.same {T B cap:Nat} (h:OwnS E T B w p cap l) {w':Wd} (hs:∀ a,p=some a->w'.heap[a.block]?=w.heap[a.block]?):OwnS E T B w' p cap l:=by
 obtain⟨h1,h2⟩:=h;refine⟨h1,?_⟩;rcases h2 with h2 | ⟨g,cap',cur,h2,hb,hg,qI⟩
 ·exact .inl h2
 ·refine .inr ⟨g,cap',cur,h2,hb,?_,qI⟩;simp only [Value.slice.injEq] at h2;rw [<- hg];exact hs _ h2.1
end
theorem zw (w:Wd) (o:Obj):(w.alloc o).heap[w.heap.size]?=some o:=by
 show (w.heap.push o)[w.heap.size]?=some o;simp
theorem qM {w:Wd} {i:Nat} {x:Obj} (o:Obj) (h:w.heap[i]?=some x):(w.alloc o).heap[i]?=some x:=by
 have hi:i<w.heap.size:=(Jk.1 h).1;show (w.heap.push o)[i]?=some x;rw [Array.getElem?_push,Gm (Nat.ne_of_lt hi)];exact h
theorem zfb {w:Wd} {i g:Nat} {x:Obj} (cs:Array Value) (hne:i≠g) (h:w.heap[i]?=some x):(w.setRow g cs).heap[i]?=some x:=by
 rw [setRow_other w g i cs hne];exact h
theorem hdr {w:Wd} {i:Nat} {x:Obj} (h:w.heap[i]?=some x):w.drew.heap[i]?=some x:=h
theorem hlt {w:Wd} {i:Nat} {x:Obj} (h:w.heap[i]?=some x):i<w.heap.size:=(Jk.1 h).1
theorem zt {P:Program} {w:Wd} {T g:Nat} {iT:TI} (hT:TIok P T iT) {cs:Array Value} {t:TypeId} (hg:w.heap[g]?=some (.cells cs t (0,0))) {v:Value} (hv:v.cells.size=iT.size)
  (hc:cs.size=iT.size) (h0:v.cells.toList.all Value.oneCell'=true) {K:Wd->Prop} (k:K (w.setRow g v.cells)):SatR ((storeVar T ⟨g,0,none⟩ v).run P w) fun _ w'=>K w':=by
 obtain⟨⟨inf,hi,hs,_,_⟩,_⟩:=hT;have h1:∀ u∈v.cells.toList,u.oneCell'=true:=Qi.1 h0;have hst:=Qc P g 0 t v.cells.toList 0 cs w hg (by simp;omega) h1;refine SatR.mk (v:=()) (w':=w.setRow g v.cells) ?_ k;have hsz:(sizeOf T).run P w = .ok iT.size w:=by simp [sizeOf,typeInfo,hi,hs]
 simp only [storeVar,US,hsz,KZ,hv,ne_eq,Qa,Gj];rw [hst];congr 2;apply Qd.1;simp [hc,hv]
theorem zn {w:Wd} {g:Nat} {cs cs':Array Value} {t:TypeId} {fr:Nat×Nat} (hg:w.heap[g]?=some (.cells cs t fr)):(w.setRow g cs').heap[g]?=some (.cells cs' t fr):=setRow_heap w g cs cs' t fr hg
theorem zp {w:Wd} {g k:Nat} {cs:Array Value} (h:k≠g):(w.setRow g cs).heap[k]?=w.heap[k]?:=setRow_other w g k cs h
theorem zl {B:Nat} {a w:Wd} (h:Below B a w) {g:Nat} (hg:B<=g) (cs:Array Value):Below B a (w.setRow g cs) :=
 h.trans ⟨rfl,rfl,rfl,by simp,fun k hk=>zp (by omega)⟩
theorem jI (w:Wd) (g:Nat) (cs:Array Value):w.grownBy (w.setRow g cs) (some g) :=
 ⟨rfl,rfl,rfl,by simp,fun k _ hne=>zp (fun e=>hne (by rw [e]))⟩
end Go.Vc
namespace Go.Sei
def zgc (c:UInt8):Bool:=(decide ((97:Int)<=c.toNat)&&decide ((c.toNat:Int)<=122))||(decide ((65:Int)<=c.toNat)&&decide ((c.toNat:Int)<=90))
def zhE (c:UInt8):Bool:=decide ((48:Int)<=c.toNat)&&decide ((c.toNat:Int)<=57)
def eqB (c:UInt8) (k:Int):Bool:=decide ((c.toNat:Int)=k)
def zng (c:UInt8):Bool:=eqB c 61||(eqB c 43||(eqB c 45||(eqB c 94||(eqB c 38||(eqB c 124||(eqB c 33||(eqB c 40||(eqB c 41||(eqB c 58||eqB c 60)))))))))
def ql (c:UInt8):Nat :=
 bif zgc c then 3 else bif zhE c then 4 else bif eqB c 32||eqB c 9 then 1 else bif eqB c 10 then 2 else bif eqB c 95 then 5 else bif eqB c 35 then 7 else bif zng c then 6 else 0
def qJ (c:UInt8):Bool:=decide (ql c=3)||(decide (ql c=4)||decide (ql c=5))
def j3 (p:UInt8->Bool):List UInt8->Nat
 | []=>0
 | c::r=>if p c then j3 p r+1 else 0
theorem zks (p:UInt8->Bool):∀ l,j3 p l<=l.length
 | []=>UV _
 | c::r=>by
  unfold j3
  split
  ·exact Nat.succ_le_succ (zks p r)
  ·exact UY _
def zjV (c:UInt8):Bool:=decide (ql c=1)
def zeg (c:UInt8):Bool := !decide (ql c=2)
def zbu (c:UInt8):Bool:=decide (ql c=4)
def zcf (s:List UInt8) (a:Nat):Nat:=a+j3 zjV (s.drop a)
def zL (s:List UInt8) (a:Nat):Nat :=
 match s[zcf s a]? with
 | some c=>if ql c=7 then zcf s a+j3 zeg (s.drop (zcf s a)) else zcf s a
 | none=>zcf s a
structure Tok where
 kind:UInt8
 text:List UInt8
 pos:Nat
 deriving DecidableEq
def za7 (s:List UInt8) (a:Nat) (c:UInt8):Nat :=
 if ql c=3 then a+1+j3 qJ (s.drop (a+1)) else if ql c=4 then a+1+j3 zbu (s.drop (a+1)) else
  if (eqB c 61||eqB c 33)&&decide (s[a+1]?=some 61) then a+2 else a+1
def zgb (c:UInt8):UInt8:=if ql c=3 then 1 else if ql c=4 then 2 else 3
def zkf (s:List UInt8) (a:Nat) (c:UInt8):Tok:=⟨zgb c,(s.drop a).take (za7 s a c-a),a⟩
def zag (s:List UInt8) (a:Nat):Bool:=match s[a]? with
 | some c=>decide (ql c=2)
 | none=>true
def zax (s:List UInt8):Nat->Nat->Bool->Option (Tok×Nat×Bool)
 | 0,_,_=>none
 | f+1,a,op=>match s[zL s a]? with
  | some c=>if ql c=2 then (if op then some (⟨4,[],zL s a⟩,min (zL s a+1) s.length,false) else zax s f (min (zL s a+1) s.length) false)
   else some (zkf s (zL s a) c,za7 s (zL s a) c,true)
  | none=>if op then some (⟨4,[],zL s a⟩,min (zL s a+1) s.length,false) else none
def zcu (s:List UInt8):Nat->Nat->Bool->List Tok
 | 0,_,_=>[]
 | f+1,a,op=>match zax s (s.length+2) a op with
  | some (t,a',op')=>t::zcu s f a' op'
  | none=>[]
def zjF (s:List UInt8):Bool:=decide (1<=s.length)&&(decide (s.length<=3)&&(!(decide (s.head?=some 48)&&decide (1<s.length))&&(s.all zbu&&decide (s.foldl (fun v c=>10*v+(c.toNat-48)) 0<=255))))
def jA (t:Tok):Int :=
 if t.kind=1 then (if 16<t.text.length then 42 else 0) else if t.kind=2 then (if zjF t.text then 0 else 41) else
 if t.kind=3 then (match t.text with | c::_=>if ql c=6 then 0 else 40 | []=>0) else 0
def jf (s:List UInt8):List Tok:=zcu s (2*s.length+3) 0 false
def zo4 (l:List Tok) (s:List UInt8):Bool:=match l with
 | [t,_]=>decide (t.kind=1)&&decide (t.text=s)
 | _=>false
def zc4 (s:List UInt8):Bool:=decide (s.length<=16384)&&((jf s).all (fun t=>decide (jA t=0))&&zo4 (jf s) s)
structure InsD where
 op:UInt8
 dst:UInt8
 loc:UInt8
 ar:Bool
 an:UInt8
 br:Bool
 bn:UInt8
 fn:UInt8
 mode:UInt8
 skip:UInt8
 deriving DecidableEq
inductive Cnd where
 | mk (kind thread n val:UInt8) (kids:List Cnd)
def Cnd.kind:Cnd->UInt8 | .mk k _ _ _ _=>k
def Cnd.thread:Cnd->UInt8 | .mk _ t _ _ _=>t
def Cnd.n:Cnd->UInt8 | .mk _ _ n _ _=>n
def Cnd.val:Cnd->UInt8 | .mk _ _ _ v _=>v
def Cnd.kids:Cnd->List Cnd | .mk _ _ _ _ l=>l
structure Prg where
 name:List UInt8
 locs:List (List UInt8)
 init:List UInt8
 threads:List (List InsD)
 ask:UInt8
 cond:Cnd
def zsO:List (List UInt8):=[[116,101,115,116],[105,110,105,116],[116,104,114,101,97,100],[115,111,109,101],[110,111,110,101],[97,108,108],[97,99,113],[114,101,108],[115,119,97,112],[102,101,116,99,104],[99,97,115],
 [102,101,110,99,101],[108,111,97,100,115],[115,116,111,114,101,115],[115,107,105,112],[105,102],[116,114,117,101]]
def zhD (s:List UInt8):Bool:=zsO.any fun k=>decide (s=k)
def jd (s:List UInt8):Nat:=(s.filter zbu).length
def ze6 (s:List UInt8):Bool:=match s with
 | []=>false
 | c::r=>decide (r.length+1<=16)&&(decide (ql c=3)&&(!zhD (c::r)&&(r.all qJ&&(!decide (c=114)||(decide (jd r=0)||decide (jd r<r.length))))))
def zet:List (List UInt8)->List (List UInt8)->Bool
 | _,[]=>true
 | pre,s::r=>ze6 s&&(!(pre.any fun q=>decide (q=s))&&zet (pre++[s]) r)
def zdx (p:Prg):Bool:=decide (1<=p.locs.length)&&(decide (p.locs.length<=6)&&(decide (p.init.length=p.locs.length)&&zet [] p.locs))
def ze4:List UInt8:=[0,35,38,29,7,7,15,32,92]
def jN (op bit:UInt8):Bool := !decide (ze4.getD op.toNat 0&&&bit=0)
def ze3 (x:InsD):InsD where
 op:=x.op
 dst:=if jN x.op 1 then x.dst else 0
 loc:=if jN x.op 2 then x.loc else 0
 ar:=jN x.op 4&&x.ar
 an:=if jN x.op 4 then x.an else 0
 br:=jN x.op 8&&x.br
 bn:=if jN x.op 8 then x.bn else 0
 fn:=if jN x.op 16 then x.fn else 0
 mode:=if jN x.op 32 then x.mode else 0
 skip:=if jN x.op 64 then x.skip else 0
def ze7 (x:InsD):Bool:=if x.op=1 then decide (x.mode=0)||decide (x.mode=1) else if x.op=2 then decide (x.mode=0)||decide (x.mode=2) else
 if x.op=7 then decide (x.mode=3)||(decide (x.mode=4)||decide (x.mode=5)) else true
def fnL (x:InsD):Bool:=if x.op=3 then decide (x.fn=1)||(decide (x.fn=2)||decide (x.fn=3)) else if x.op=8 then decide (x.fn=4)||(decide (x.fn=5)||decide (x.fn=6)) else true
def zj0 (r:Bool) (n:UInt8):Bool := !r||decide (n.toNat<8)
def qX (x:InsD) (locs after:Nat):List Bool:=[
 decide (1<=x.op.toNat)&&decide (x.op.toNat<=8),
 decide (x=ze3 x),
 decide (x.dst.toNat<8),
 !jN x.op 2||decide (x.loc.toNat<locs),
 zj0 x.ar x.an&&zj0 x.br x.bn,
 ze7 x,
 fnL x,
 !jN x.op 64||(decide (1<=x.skip.toNat)&&decide (x.skip.toNat<=after))]
def zgq (x:InsD) (locs after:Nat):Bool:=(qX x locs after).all id
def qs (l:List InsD) (locs:Nat):Bool:=decide (l.length<=12)&&(List.range l.length).all fun i=>match l[i]? with
 | some x=>zgq x locs (l.length-1-i)
 | none=>true
def zay (threads locs:Nat):Nat->Cnd->Bool
 | 0,_=>false
 | d+1,.mk k t n v kids =>
  let bare:=decide (t=0)&&(decide (n=0)&&decide (v=0))
  if k=0 then bare&&decide (kids.length=0) else
  if k=1 then decide (t.toNat<threads)&&(decide (n.toNat<8)&&decide (kids.length=0)) else
  if k=2 then decide (n.toNat<locs)&&(decide (t=0)&&decide (kids.length=0)) else
  if k=3\/k=4 then bare&&(decide (2<=kids.length)&&kids.all (zay threads locs d)) else
  if k=5 then bare&&(decide (kids.length=1)&&kids.all (zay threads locs d)) else false
def zdu (p:Prg):Bool:=zc4 p.name&&(zdx p&&((decide (1<=p.threads.length)&&(decide (p.threads.length<=4)&&p.threads.all fun l=>decide (l.length<=12))) &&
 (p.threads.all (fun l=>qs l p.locs.length)&&((decide (p.ask=1)||(decide (p.ask=2)||decide (p.ask=3)))&&zay p.threads.length p.locs.length 20 p.cond))))
structure Ev where
 th:Int
 k:UInt8
 l:UInt8
 v:UInt8
 m:UInt8
 i:UInt8
 p:UInt8
 deriving DecidableEq
def upd {α:Type} (f:Nat->α) (i:Nat) (v:α):Nat->α:=fun j=>if j=i then v else f j
theorem zP {α:Type} (f:Nat->α) (i:Nat) (v:α):upd f i v i=v:=by unfold upd;rw [Gn rfl]
theorem qr {α:Type} (f:Nat->α) {i j:Nat} (v:α) (h:j≠i):upd f i v j=f j:=by unfold upd;rw [Gm h]
structure RunD where
 pc:Nat
 regs:Nat->UInt8
 deps:Nat->Nat
 ctl:Nat
 many:Nat
 ev:Nat->Ev
 data:Nat->Nat
 ctrl:Nat->Nat
 att:Nat->Nat
def ev0:Ev:=⟨0,0,0,0,0,0,0⟩
def zbs:RunD:=⟨0,fun _=>0,fun _=>0,0,0,fun _=>ev0,fun _=>0,fun _=>0,fun _=>0⟩
def qC (r:Bool) (n:UInt8) (R:RunD):UInt8×Nat:=if r then (R.regs n.toNat,R.deps n.toNat) else (n,0)
def zjm (R:RunD) (d v:UInt8) (s:Nat):RunD:={ R with regs:=upd R.regs d.toNat v,deps:=upd R.deps d.toNat s }
def j4 (R:RunD) (k l v m:UInt8) (d:Nat):RunD :=
 { R with ev:=upd R.ev R.many ⟨0,k,l,v,m,UInt8.ofNat R.pc,UInt8.ofNat R.many⟩,data:=upd R.data R.many d,ctrl:=upd R.ctrl R.many R.ctl,many:=R.many+1 }
def zpM (R:RunD) (x:InsD) (v:UInt8):RunD:=zjm (j4 R 1 x.loc v x.mode 0) x.dst v (2^R.many)
def zlL (R:RunD) (x:InsD):RunD:=j4 R 2 x.loc (qC x.ar x.an R).1 x.mode (qC x.ar x.an R).2
def zi7 (fn a b:UInt8):UInt8:=if fn=1 then a+b else if fn=2 then a-b else a ^^^ b
def zpH (R:RunD) (x:InsD):RunD:=zjm R x.dst (zi7 x.fn (qC x.ar x.an R).1 (qC x.br x.bn R).1) ((qC x.ar x.an R).2|||(qC x.br x.bn R).2)
def zbX (R:RunD) (x:InsD) (old v:UInt8) (d:Nat):RunD :=
 let S:=j4 (j4 R 1 x.loc old 3 0) 2 x.loc v 3 d
 zjm { S with att:=upd S.att (R.many+1) (2^R.many) } x.dst old (2^R.many)
def zpb (R:RunD) (x:InsD) (v:UInt8):RunD:=zbX R x v (qC x.ar x.an R).1 (qC x.ar x.an R).2
def zfS (R:RunD) (x:InsD) (v:UInt8):RunD :=
 let S:=zbX R x v (v+(qC x.ar x.an R).1) (qC x.ar x.an R).2
 { S with data:=upd S.data (R.many+1) (S.data (R.many+1)|||S.att (R.many+1)) }
def zdH (R:RunD) (x:InsD) (v:UInt8):RunD :=
 if v=(qC x.ar x.an R).1 then
  let S:=zbX R x v (qC x.br x.bn R).1 (qC x.br x.bn R).2
  { S with ctrl:=upd S.ctrl (R.many+1) (S.ctrl (R.many+1)|||(S.att (R.many+1)|||(qC x.ar x.an R).2)) }
 else zjm (j4 R 1 x.loc v 3 0) x.dst v (2^R.many)
def zmg (R:RunD) (x:InsD):RunD:=j4 R 3 0 0 x.mode 0
def zkg (fn a b:UInt8):Bool:=if fn=4 then decide (a=b) else if fn=5 then !decide (a=b) else decide (a.toNat<b.toNat)
def zbJ (R:RunD) (x:InsD):RunD :=
 let S:={ R with ctl:=R.ctl|||((qC x.ar x.an R).2|||(qC x.br x.bn R).2) }
 if zkg x.fn (qC x.ar x.an R).1 (qC x.br x.bn R).1 then { S with pc:=R.pc+x.skip.toNat } else S
def zeE (R:RunD) (x:InsD) (v:UInt8):RunD :=
 if x.op=1 then zpM R x v else if x.op=2 then zlL R x else if x.op=3 then zpH R x else if x.op=4 then zpb R x v else
 if x.op=5 then zfS R x v else if x.op=6 then zdH R x v else if x.op=7 then zmg R x else zbJ R x
def zQ (R:RunD) (x:InsD) (v:UInt8):RunD:=let S:=zeE R x v;{ S with pc:=S.pc+1 }
def jn (x:InsD):Bool:=decide (x.op=1)||(decide (x.op=4)||(decide (x.op=5)||decide (x.op=6)))
def goR (l:List InsD):Nat->RunD->RunD
 | 0,R=>R
 | n+1,R=>match l[R.pc]? with
  | none=>R
  | some x=>if jn x then R else goR l n (zQ R x 0)
def qa (l:List InsD) (dom:List UInt8):Nat->RunD->List RunD
 | 0,R=>[goR l l.length R]
 | n+1,R=>match l[(goR l l.length R).pc]? with
  | none=>[goR l l.length R]
  | some x=>dom.flatMap fun v=>qa l dom n (zQ (goR l l.length R) x v)
def qq (l:List InsD) (dom:List UInt8):List RunD:=qa l dom l.length zbs
def zc2 (f:Nat->Nat) (n:Nat):List (Nat×Nat):=(List.range n).flatMap fun i=>(els (f i)).map fun a=>(a,i)
structure PathD where
 ev:List Ev
 data:List (Nat×Nat)
 ctrl:List (Nat×Nat)
 rmw:List (Nat×Nat)
 regs:Nat->UInt8
def ja (R:RunD):PathD:=⟨(List.range R.many).map R.ev,zc2 R.data R.many,zc2 R.ctrl R.many,zc2 R.att R.many,R.regs⟩
def z9:List UInt8:=(List.range 256).map UInt8.ofNat
def jl (l:List UInt8):List UInt8:=z9.filter fun v=>l.any fun x=>decide (x=v)
def zap (rs:List RunD):List UInt8:=z9.filter fun v=>rs.any fun R=>(List.range R.many).any fun i=>decide ((R.ev i).k=2)&&decide ((R.ev i).v=v)
def zan (threads:List (List InsD)) (vals:List UInt8):List UInt8:=jl (vals++threads.flatMap fun l=>zap (qq l vals))
structure RelD where
 n:Int
 to:Nat->Nat
def zB:RelD:=⟨0,fun _=>0⟩
def zab (n:Int):Nat:=if n<1 then 0 else if 64<=n then 18446744073709551615 else 2^n.toNat-1
def jL (a b:Nat):Nat:=a&&&(18446744073709551615-b)
def zbO (r:RelD) (a:Nat):Bool:=decide (jL (r.to a) (zab r.n)=0)&&(decide ((a:Int)<r.n)||decide (r.to a=0))
def okR (r:RelD):Bool:=decide (0<=r.n)&&(decide (r.n<=48)&&(List.range 48).all (zbO r))
def jK (n:Nat) (f:Nat->Nat):RelD:=⟨n,fun i=>if i<n then f i else 0⟩
def zdA (to:Nat->Nat) (s:Nat):Nat:=(els s).foldl (fun t a=>t|||to a) 0
def zaG (to:Nat->Nat) (n:Nat):Nat->Nat:=(List.range n).foldl (fun f a=>(els (to a)).foldl (fun f b=>upd f b (f b|||2^a)) f) (fun _=>0)
def zX (r:RelD):RelD:=if okR r then ⟨r.n,zaG r.to r.n.toNat⟩ else zB
def ziX (r:RelD):Nat:=if okR r then (List.range r.n.toNat).foldl (fun s a=>if r.to a=0 then s else s|||2^a) 0 else 0
def zbf (r:RelD):Bool:=okR r&&decide (ziX r=0)
def comb (a b:RelD) (f:Nat->Nat):RelD×Int:=if a.n=b.n&&(okR a&&okR b) then (jK a.n.toNat f,0) else (zB,2)
def zal (a b:RelD):RelD×Int:=comb a b fun i=>a.to i|||b.to i
def zaF (a b:RelD):RelD×Int:=comb a b fun i=>a.to i&&&b.to i
def jh (a b:RelD):RelD×Int:=comb a b fun i=>zdA b.to (a.to i)
def zcc (before:Nat->Nat) (left:Nat):Option Nat:=(els left).find? fun a=>decide (before a&&&left=0)
def zjh (before:Nat->Nat):Nat->Nat->List Nat->Option (List Nat)
 | 0,left,l=>if left=0 then some l else none
 | n+1,left,l=>if left=0 then some l else match zcc before left with
  | none=>none
  | some a=>zjh before n (jL left (2^a)) (l++[a])
def zeN (r:RelD):Option (List Nat):=if okR r then zjh (zX r).to 64 (zab r.n) [] else none
def zaO (r:RelD):Bool:=(zeN r).isSome
def zhX (n:Nat) (a b:Nat):RelD:=jK n fun x=>if a.testBit x then b&&&zab n else 0
def idR (n:Nat) (s:Nat):RelD:=jK n fun a=>s&&&2^a
end Go.Sei
namespace Go.Vc
open Go.RowKit
inductive Mk where
 | p
 | s (a b:Mk)
 | c (a b:Mk)
 | d (a b:Mk)
 | b (a:Mk)
 | l (a:Mk)
def zuO (first:(Exit->Env->Wd->Prop)->Prop) (second:Env->Wd->(Exit->Env->Wd->Prop)->Prop) (Q:Exit->Env->Wd->Prop):Prop :=
 ∃ (σ:Type) (env:σ->Env) (inv:σ->Wd->Prop),(first fun ex E' w'=>match ex with
  | .normal=>∃ s,Cov E' (env s)/\inv s w'
  | ex=>Q ex E' w')/\∀ s w',inv s w'->second (env s) w' Q
noncomputable def wpM (S:Sig) (m:Mk):Code->Env->Wd->(Exit->Env->Wd->Prop)->Prop :=
 Mk.rec (motive:=fun _=>Code->Env->Wd->(Exit->Env->Wd->Prop)->Prop)
  (fun c E w Q=>wpE S c E w Q)
  (fun _ _ ia ib c E w Q=>match c with
   | .seq x y=>ia x E w fun ex E' w'=>match ex with
    | .normal=>ib y E' w' Q
    | ex=>Q ex E' w'
   | _=>False)
  (fun _ _ ia ib c E w Q=>match c with
   | .seq x y=>zuO (fun Q=>ia x E w Q) (fun E w Q=>ib y E w Q) Q
   | _=>False)
  (fun _ _ ia ib c E w Q=>match c with
   | .cond c x y=>(match opd E c with
    | some (.bool v)=>Br v (ia x E w Q) (ib y E w Q)
    | _=>False)
   | _=>False)
  (fun _ ia c E w Q=>match c with
   | .block id x=>ia x E w fun ex E' w'=>match ex with
    | .exit id'=>(match Nat.beq id' id with
     | true=>Q .normal E' w'
     | false=>Q (.exit id') E' w')
    | ex=>Q ex E' w'
   | _=>False)
  (fun _ ia c E w Q=>match c with
   | .loop x=>zqW (fun E w Q=>ia x E w Q) E w Q
   | _=>False)
  m
section
variable {S:Sig}
theorem zaq (hS:SigOk S):∀ (m:Mk) (c:Code) (E:Env) (a:Act) (w:Wd) (Q:Exit->Env->Wd->Prop),Agrees S a E->wpM S m c E w Q->c.wpIn (FR S.r) NN S.P (zih S Q) a w
 | .p,c,E,a,w,Q,ha,h=>q9 hS c E a w Q ha h
 | .s m k,.seq x y,E,a,w,Q,ha,h=>by
  replace h:(wpM S m x E w fun ex E' w'=>match ex with | .normal=>wpM S k y E' w' Q | ex=>Q ex E' w'):=h;refine wpIn_seq (Gg (zaq hS m x E a w _ ha h) ?_);rintro ex a' w' ⟨E',ha',hq⟩
  cases ex with
  | normal=>exact zaq hS k y E' a' w' Q ha' hq
  | _=>exact⟨E',ha',hq⟩
 | .c m k,.seq x y,E,a,w,Q,ha,h=>by
  replace h:zuO (fun Q=>wpM S m x E w Q) (fun E w Q=>wpM S k y E w Q) Q:=h;obtain⟨σ,env,inv,h1,h2⟩:=h;refine wpIn_seq (Gg (zaq hS m x E a w _ ha h1) ?_);rintro ex a' w' ⟨E',ha',hq⟩
  cases ex with
  | normal =>
   obtain⟨s,hc,hi⟩:=hq;exact zaq hS k y (env s) a' w' Q (ha'.cov hc) (h2 s w' hi)
  | _=>exact⟨E',ha',hq⟩
 | .d m k,.cond c x y,E,a,w,Q,ha,h=>by
  replace h:(match opd E c with | some (.bool v)=>Br v (wpM S m x E w Q) (wpM S k y E w Q) | _=>False):=h
  split at h
  ·rename_i b hb;refine wpIn_cond_split (ha.eval hb) (fun e=>zaq hS m x E a w Q ha (h.1 e)) (fun e=>zaq hS k y E a w Q ha (h.2 e))
  ·exact h.elim
 | .b m,.block id x,E,a,w,Q,ha,h=>by
  replace h:(wpM S m x E w fun ex E' w'=>match ex with | .exit id'=>(match Nat.beq id' id with | true=>Q .normal E' w' | false=>Q (.exit id') E' w') | ex=>Q ex E' w'):=h;refine wpIn_block (Gg (zaq hS m x E a w _ ha h) ?_);rintro ex a' w' ⟨E',ha',hq⟩
  cases ex with
  | exit id' =>
   simp only [Exit.inBlock];dsimp only at hq
   split at hq
   ·rename_i hb;rw [Gn (JQ hb)];exact⟨E',ha',hq⟩
   ·rename_i hb;rw [Gm (Nat.ne_of_beq_eq_false hb)];exact⟨E',ha',hq⟩
  | _=>exact⟨E',ha',hq⟩
 | .l m,.loop x,E,a,w,Q,ha,h=>by
  replace h:zqW (fun E w Q=>wpM S m x E w Q) E w Q:=h;obtain⟨σ,env,inv,μ,s0,hc,hi,hb⟩:=h;have key:∀ m s a w,μ s=m->Agrees S a (env s)->inv s w->(Code.loop x).wpIn (FR S.r) NN S.P (zih S Q) a w:=by
   intro m' s a w hm ha hi;refine wpIn_loop (fun a w=>∃ s,Agrees S a (env s)/\inv s w) (fun a w=>leastOf (fun k=>∃ s,Agrees S a (env s)/\inv s w/\μ s=k)) ⟨s,ha,hi⟩ ?_;intro a w ⟨s1,ha1,hi1⟩;obtain⟨⟨s2,ha2,hi2,hm2⟩,_⟩:=leastOf_spec (p:=fun k=>∃ s,Agrees S a (env s)/\inv s w/\μ s=k) ⟨_,s1,ha1,hi1,rfl⟩;refine Gg (zaq hS m x (env s2) a w _ ha2 (hb s2 w hi2)) ?_;rintro ex a' w' ⟨E',ha',hq⟩
   cases ex with
   | normal =>
    obtain⟨s',hc',hi',hlt⟩:=hq;refine⟨⟨s',ha'.cov hc',hi'⟩,?_⟩;have:=(leastOf_spec (p:=fun k=>∃ s,Agrees S a' (env s)/\inv s w'/\μ s=k) ⟨_,s',ha'.cov hc',hi',rfl⟩).2;rw [<- hm2];exact KE (this _ ⟨s',ha'.cov hc',hi',rfl⟩) hlt
   | _=>exact⟨E',ha',hq⟩
  exact key _ s0 a w rfl (ha.cov hc) hi
 | .s _ _,.skip,_,_,_,_,_,h=>h.elim
 | .s _ _,.region _ _ _,_,_,_,_,_,h=>h.elim
 | .s _ _,.cond _ _ _,_,_,_,_,_,h=>h.elim
 | .s _ _,.block _ _,_,_,_,_,_,h=>h.elim
 | .s _ _,.loop _,_,_,_,_,_,h=>h.elim
 | .s _ _,.rangeFunc _ _ _ _,_,_,_,_,_,h=>h.elim
 | .s _ _,.exit _,_,_,_,_,_,h=>h.elim
 | .s _ _,.scope _,_,_,_,_,_,h=>h.elim
 | .s _ _,.label _,_,_,_,_,_,h=>h.elim
 | .s _ _,.goto _,_,_,_,_,_,h=>h.elim
 | .s _ _,.ret,_,_,_,_,_,h=>h.elim
 | .s _ _,.refuse _,_,_,_,_,_,h=>h.elim
 | .c _ _,.skip,_,_,_,_,_,h=>h.elim
 | .c _ _,.region _ _ _,_,_,_,_,_,h=>h.elim
 | .c _ _,.cond _ _ _,_,_,_,_,_,h=>h.elim
 | .c _ _,.block _ _,_,_,_,_,_,h=>h.elim
 | .c _ _,.loop _,_,_,_,_,_,h=>h.elim
 | .c _ _,.rangeFunc _ _ _ _,_,_,_,_,_,h=>h.elim
 | .c _ _,.exit _,_,_,_,_,_,h=>h.elim
 | .c _ _,.scope _,_,_,_,_,_,h=>h.elim
 | .c _ _,.label _,_,_,_,_,_,h=>h.elim
 | .c _ _,.goto _,_,_,_,_,_,h=>h.elim
 | .c _ _,.ret,_,_,_,_,_,h=>h.elim
 | .c _ _,.refuse _,_,_,_,_,_,h=>h.elim
 | .d _ _,.skip,_,_,_,_,_,h=>h.elim
 | .d _ _,.region _ _ _,_,_,_,_,_,h=>h.elim
 | .d _ _,.seq _ _,_,_,_,_,_,h=>h.elim
 | .d _ _,.block _ _,_,_,_,_,_,h=>h.elim
 | .d _ _,.loop _,_,_,_,_,_,h=>h.elim
 | .d _ _,.rangeFunc _ _ _ _,_,_,_,_,_,h=>h.elim
 | .d _ _,.exit _,_,_,_,_,_,h=>h.elim
 | .d _ _,.scope _,_,_,_,_,_,h=>h.elim
 | .d _ _,.label _,_,_,_,_,_,h=>h.elim
 | .d _ _,.goto _,_,_,_,_,_,h=>h.elim
 | .d _ _,.ret,_,_,_,_,_,h=>h.elim
 | .d _ _,.refuse _,_,_,_,_,_,h=>h.elim
 | .b _,.skip,_,_,_,_,_,h=>h.elim
 | .b _,.region _ _ _,_,_,_,_,_,h=>h.elim
 | .b _,.seq _ _,_,_,_,_,_,h=>h.elim
 | .b _,.cond _ _ _,_,_,_,_,_,h=>h.elim
 | .b _,.loop _,_,_,_,_,_,h=>h.elim
 | .b _,.rangeFunc _ _ _ _,_,_,_,_,_,h=>h.elim
 | .b _,.exit _,_,_,_,_,_,h=>h.elim
 | .b _,.scope _,_,_,_,_,_,h=>h.elim
 | .b _,.label _,_,_,_,_,_,h=>h.elim
 | .b _,.goto _,_,_,_,_,_,h=>h.elim
 | .b _,.ret,_,_,_,_,_,h=>h.elim
 | .b _,.refuse _,_,_,_,_,_,h=>h.elim
 | .l _,.skip,_,_,_,_,_,h=>h.elim
 | .l _,.region _ _ _,_,_,_,_,_,h=>h.elim
 | .l _,.seq _ _,_,_,_,_,_,h=>h.elim
 | .l _,.cond _ _ _,_,_,_,_,_,h=>h.elim
 | .l _,.block _ _,_,_,_,_,_,h=>h.elim
 | .l _,.rangeFunc _ _ _ _,_,_,_,_,_,h=>h.elim
 | .l _,.exit _,_,_,_,_,_,h=>h.elim
 | .l _,.scope _,_,_,_,_,_,h=>h.elim
 | .l _,.label _,_,_,_,_,_,h=>h.elim
 | .l _,.goto _,_,_,_,_,_,h=>h.elim
 | .l _,.ret,_,_,_,_,_,h=>h.elim
 | .l _,.refuse _,_,_,_,_,_,h=>h.elim
theorem zeH (hS:SigOk S) {f:FuncId} {fn:Func} {c:Code} {args:List Value} {w:Wd} {R:Ending->Wd->Prop} (m:Mk)
  (hf:S.P.funcs[f]?=some fn) (hb:fn.body=some c) (hn:fn.ntmps=S.n) (hle:args.length<=S.n) (hr:S.r=none)
  (h:wpM S m c ⟨zej 0 args,[]⟩ w (zm1 S fn R)):Calls S.P f args.toArray w R:=by
 rw [<- callsIn_wide (n:=NN)];have hF:FR none=Fence.wide:=rfl;rw [<- hF];refine callsIn_of_wp_marks hf hb trivial ?_;have ha:Agrees S { tmps:=args.toArray++Array.replicate (fn.ntmps-args.toArray.size) undef,defers:=[] } ⟨zej 0 args,[]⟩:=by
  refine⟨?_,rfl,fun t v hv=>?_⟩
  ·simp [hn];omega
  ·obtain⟨_,h2⟩:=zeI _ _ _ _ hv;simp only [UO] at h2;have hlt:t<args.length:=(Js.1 h2).1;simp only [Array.getElem?_append,KW,hlt,Gl];simpa using h2
 have h1:=zaq hS m c _ _ w _ ha h;rw [hr] at h1;refine Gg h1 ?_;rintro ex a' w' ⟨E',ha',hq⟩
 cases ex with
 | normal=>have:=za1 hS ha' _ _ hq;rw [<- ha'.defers] at this;exact this
 | ret=>have:=za1 hS ha' _ _ hq;rw [<- ha'.defers] at this;exact this
 | panic ch =>
  obtain⟨hd,hR⟩:=hq;show LeavesInM _ _ _ _ _ _ a'.defers _ _;rw [ha'.defers,hd];exact hR
 | exit _=>exact hq.elim
 | goto _=>exact hq.elim
 | outgrown=>exact hq.elim
end
end Go.Vc
namespace Go.Proofs.YtkpaomeeknegpaaGreatDoor
open Go.Vc Go.RowKit
abbrev zU6:Value := .int .u64 0
abbrev zU8:Value := .int .u8 0
abbrev zU3:Value := .int .u32 0
abbrev zI6:Value := .int .i64 0
def zq5:List Value:=[zI6,zU6,zU6,zU6,zU6,zU6,zU6,zU6,zU6,zU6,zU6,zU6,zU6,zU6,zU6,zU6,zU6,zU6,zU6,zU6,zU6,zU6,zU6,zU6,zU6,zU6,zU6,zU6,zU6,zU6,zU6,zU6,zU6,zU6,zU6,zU6,zU6,zU6,zU6,zU6,zU6,zU6,zU6,zU6,zU6,zU6,zU6,zU6,zU6]
def zbq:List Value:=[.slice none 0 0,zI6,zU6,zU6,zU6,zU6,zU6,zU6,zU6,zU6,zU6,zU6,zU6,zU6,zU6,zU6,zU6,zU6,zU6,zU6,zU6,zU6,zU6,zU6,zU6,zU6,zU6,zU6,zU6,zU6,zU6,zU6,zU6,zU6,zU6,zU6,zU6,zU6,zU6,zU6,zU6,zU6,zU6,zU6,zU6,zU6,zU6,zU6,zU6,zU6,zI6,zU6,zU6,zU6,zU6,zU6,zU6,zU6,zU6,zU6,zU6,zU6,zU6,zU6,zU6,zU6,zU6,zU6,zU6,zU6,zU6,zU6,zU6,zU6,zU6,zU6,zU6,zU6,zU6,zU6,zU6,zU6,zU6,zU6,zU6,zU6,zU6,zU6,zU6,zU6,zU6,zU6,zU6,zU6,zU6,zU6,zU6,zU6,zU6,zI6,zU6,zU6,zU6,zU6,zU6,zU6,zU6,zU6,zU6,zU6,zU6,zU6,zU6,zU6,zU6,zU6,zU6,zU6,zU6,zU6,zU6,zU6,zU6,zU6,zU6,zU6,zU6,zU6,zU6,zU6,zU6,zU6,zU6,zU6,zU6,zU6,zU6,zU6,zU6,zU6,zU6,zU6,zU6,zU6,zU6,zU6,zU6,zU6,zI6,zU6,zU6,zU6,zU6,zU6,zU6,zU6,zU6,zU6,zU6,zU6,zU6,zU6,zU6,zU6,zU6,zU6,zU6,zU6,zU6,zU6,zU6,zU6,zU6,zU6,zU6,zU6,zU6,zU6,zU6,zU6,zU6,zU6,zU6,zU6,zU6,zU6,zU6,zU6,zU6,zU6,zU6,zU6,zU6,zU6,zU6,zU6,zU6,zI6,zU6,zU6,zU6,zU6,zU6,zU6,zU6,zU6,zU6,zU6,zU6,zU6,zU6,zU6,zU6,zU6,zU6,zU6,zU6,zU6,zU6,zU6,zU6,zU6,zU6,zU6,zU6,zU6,zU6,zU6,zU6,zU6,zU6,zU6,zU6,zU6,zU6,zU6,zU6,zU6,zU6,zU6,zU6,zU6,zU6,zU6,zU6,zU6,zI6,zU6,zU6,zU6,zU6,zU6,zU6,zU6,zU6,zU6,zU6,zU6,zU6,zU6,zU6,zU6,zU6,zU6,zU6,zU6,zU6,zU6,zU6,zU6,zU6,zU6,zU6,zU6,zU6,zU6,zU6,zU6,zU6,zU6,zU6,zU6,zU6,zU6,zU6,zU6,zU6,zU6,zU6,zU6,zU6,zU6,zU6,zU6,zU6,zU8,zU8,zU8,zU8,zU8,zU8,zU8,zU8,zU8,zU8,zU8,zU8,zU8,zU8,zU8,zU8,zU8,zU8,zU8,zU8,zU8,zU8,zU8,zU8,zU8,zU8,zU8,zU8,zU8,zU8,zU8,zU8,zU8,zU8,zU8,zU8,zU8,zU8]
def zdj:List Value:=[.slice none 0 0,zI6,zU6,zU6,zU6,zU6,zU6,zU6,zU6,zU6,zU6,zU6,zU6,zU6,zU6,zU6,zU6,zU6,zU6,zU6,zU6,zU6,zU6,zU6,zU6,zU6,zU6,zU6,zU6,zU6,zU6,zU6,zU6,zU6,zU6,zU6,zU6,zU6,zU6,zU6,zU6,zU6,zU6,zU6,zU6,zU6,zU6,zU6,zU6,zU6,zI6,zU6,zU6,zU6,zU6,zU6,zU6,zU6,zU6,zU6,zU6,zU6,zU6,zU6,zU6,zU6,zU6,zU6,zU6,zU6,zU6,zU6,zU6,zU6,zU6,zU6,zU6,zU6,zU6,zU6,zU6,zU6,zU6,zU6,zU6,zU6,zU6,zU6,zU6,zU6,zU6,zU6,zU6,zU6,zU6,zU6,zU6,zU6,zU6,zI6,zU6,zU6,zU6,zU6,zU6,zU6,zU6,zU6,zU6,zU6,zU6,zU6,zU6,zU6,zU6,zU6,zU6,zU6,zU6,zU6,zU6,zU6,zU6,zU6,zU6,zU6,zU6,zU6,zU6,zU6,zU6,zU6,zU6,zU6,zU6,zU6,zU6,zU6,zU6,zU6,zU6,zU6,zU6,zU6,zU6,zU6,zU6,zU6,zI6,zU6,zU6,zU6,zU6,zU6,zU6,zU6,zU6,zU6,zU6,zU6,zU6,zU6,zU6,zU6,zU6,zU6,zU6,zU6,zU6,zU6,zU6,zU6,zU6,zU6,zU6,zU6,zU6,zU6,zU6,zU6,zU6,zU6,zU6,zU6,zU6,zU6,zU6,zU6,zU6,zU6,zU6,zU6,zU6,zU6,zU6,zU6,zU6,zI6,zU6,zU6,zU6,zU6,zU6,zU6,zU6,zU6,zU6,zU6,zU6,zU6,zU6,zU6,zU6,zU6,zU6,zU6,zU6,zU6,zU6,zU6,zU6,zU6,zU6,zU6,zU6,zU6,zU6,zU6,zU6,zU6,zU6,zU6,zU6,zU6,zU6,zU6,zU6,zU6,zU6,zU6,zU6,zU6,zU6,zU6,zU6,zU6,zI6,zU6,zU6,zU6,zU6,zU6,zU6,zU6,zU6,zU6,zU6,zU6,zU6,zU6,zU6,zU6,zU6,zU6,zU6,zU6,zU6,zU6,zU6,zU6,zU6,zU6,zU6,zU6,zU6,zU6,zU6,zU6,zU6,zU6,zU6,zU6,zU6,zU6,zU6,zU6,zU6,zU6,zU6,zU6,zU6,zU6,zU6,zU6,zU6,zU8,zU8,zU8,zU8,zU8,zU8,zU8,zU8,zU8,zU8,zU8,zU8,zU8,zU8,zU8,zU8,zU8,zU8,zU8,zU8,zU8,zU8,zU8,zU8,zU8,zU8,zU8,zU8,zU8,zU8,zU8,zU8,zU8,zU8,zU8,zU8,zU8,zU8,.slice none 0 0,.slice none 0 0,.slice none 0 0]
def zuh:List Value:=[zI6,zU8,zU8,zU8,zU8,zU8,zU8,zI6,zU8,zU8,zU8,zU8,zU8,zU8,zI6,zU8,zU8,zU8,zU8,zU8,zU8,zI6,zU8,zU8,zU8,zU8,zU8,zU8,zI6,zU8,zU8,zU8,zU8,zU8,zU8,zI6,zU8,zU8,zU8,zU8,zU8,zU8,zI6,zU8,zU8,zU8,zU8,zU8,zU8,zI6,zU8,zU8,zU8,zU8,zU8,zU8,zI6,zU8,zU8,zU8,zU8,zU8,zU8,zI6,zU8,zU8,zU8,zU8,zU8,zU8,zI6,zU8,zU8,zU8,zU8,zU8,zU8,zI6,zU8,zU8,zU8,zU8,zU8,zU8,zI6,zU8,zU8,zU8,zU8,zU8,zU8,zI6,zU8,zU8,zU8,zU8,zU8,zU8,zI6,zU8,zU8,zU8,zU8,zU8,zU8,zI6,zU8,zU8,zU8,zU8,zU8,zU8,zI6,zU8,zU8,zU8,zU8,zU8,zU8,zI6,zU8,zU8,zU8,zU8,zU8,zU8,zI6,zU8,zU8,zU8,zU8,zU8,zU8,zI6,zU8,zU8,zU8,zU8,zU8,zU8,zI6,zU8,zU8,zU8,zU8,zU8,zU8,zI6,zU8,zU8,zU8,zU8,zU8,zU8,zI6,zU8,zU8,zU8,zU8,zU8,zU8,zI6,zU8,zU8,zU8,zU8,zU8,zU8]
def zmB:List Value:=[zI6,zU8,zU8,zU8,zU8,zU8,zU8,zU8,zU8,zU3,zU3,zU3,zU3,zU3,zU3,zU3,zU3,zU3,zI6,zI6,zU8,zU8,zU8,zU8,zU8,zU8,zI6,zU8,zU8,zU8,zU8,zU8,zU8,zI6,zU8,zU8,zU8,zU8,zU8,zU8,zI6,zU8,zU8,zU8,zU8,zU8,zU8,zI6,zU8,zU8,zU8,zU8,zU8,zU8,zI6,zU8,zU8,zU8,zU8,zU8,zU8,zI6,zU8,zU8,zU8,zU8,zU8,zU8,zI6,zU8,zU8,zU8,zU8,zU8,zU8,zI6,zU8,zU8,zU8,zU8,zU8,zU8,zI6,zU8,zU8,zU8,zU8,zU8,zU8,zI6,zU8,zU8,zU8,zU8,zU8,zU8,zI6,zU8,zU8,zU8,zU8,zU8,zU8,zI6,zU8,zU8,zU8,zU8,zU8,zU8,zI6,zU8,zU8,zU8,zU8,zU8,zU8,zI6,zU8,zU8,zU8,zU8,zU8,zU8,zI6,zU8,zU8,zU8,zU8,zU8,zU8,zI6,zU8,zU8,zU8,zU8,zU8,zU8,zI6,zU8,zU8,zU8,zU8,zU8,zU8,zI6,zU8,zU8,zU8,zU8,zU8,zU8,zI6,zU8,zU8,zU8,zU8,zU8,zU8,zI6,zU8,zU8,zU8,zU8,zU8,zU8,zI6,zU8,zU8,zU8,zU8,zU8,zU8,zI6,zU8,zU8,zU8,zU8,zU8,zU8,zI6,zU8,zU8,zU8,zU8,zU8,zU8,zU3,zU3,zU3,zU3,zU3,zU3,zU3,zU3,zU3,zU3,zU3,zU3,zU3,zU3,zU3,zU3,zU3,zU3,zU3,zU3,zU3,zU3,zU3,zU3,zU3,zU3,zU3,zU3,zU3,zU3,zU3,zU3,zU3,zU3,zU3,zU3,zU3,zU3,zU3,zU3,zU3,zU3,zU3,zU3,zU3,zU3,zU3,zU3,zU3,zU3,zU3,zU3,zU3,zU3,zU3,zU3,zU3,zU3,zU3,zU3,zU3,zU3,zU3,zU3,zU3,zU3,zU3,zU3,zU3,zU3,zU3,zU3]
def zui:List Value:=zbq++(zq5++(zq5++zq5))
def tt:TT:=[
 (0,⟨.other,1,false,0,none⟩),
 (3,⟨.int .i64,1,false,8,some [.int .i64 0]⟩),
 (4,⟨.bool,1,false,1,some [.bool false]⟩),
 (5,⟨.int .u8,1,false,1,some [.int .u8 0]⟩),
 (9,⟨.string,1,false,16,some [.string ByteArray.empty]⟩),
 (22,⟨.slice 9 1,1,false,24,some [.slice none 0 0]⟩),
 (23,⟨.slice 5 1,1,false,24,some [.slice none 0 0]⟩),
 (24,⟨.slice 51 1,1,false,24,some [.slice none 0 0]⟩),
 (25,⟨.slice 27 5,1,false,24,some [.slice none 0 0]⟩),
 (27,⟨.struct [(0,1,false),(1,1,false),(2,1,false),(3,1,false),(4,1,false)],5,true,32,some [.int .u8 0,.int .u8 0,.int .u8 0,.int .u8 0,.slice none 0 0]⟩),
 (29,⟨.struct [(0,1,false),(1,1,false),(2,1,false),(3,1,false),(4,1,false),(5,5,true)],10,true,128,some [.string ByteArray.empty,.slice none 0 0,.slice none 0 0,.slice none 0 0,.int .u8 0,.int .u8 0,.int .u8 0,.int .u8 0,.int .u8 0,.slice none 0 0]⟩),
 (30,⟨.slice 46 333,1,false,24,some [.slice none 0 0]⟩),
 (33,⟨.other,1,false,8,some [.nilFunc]⟩),
 (34,⟨.slice 49 7,1,false,24,some [.slice none 0 0]⟩),
 (35,⟨.int .u64,1,false,8,some [.int .u64 0]⟩),
 (36,⟨.int .u64,1,false,8,some [.int .u64 0]⟩),
 (37,⟨.array 48 36 1 false,48,true,384,some (List.replicate 48 (.int .u64 0))⟩),
 (39,⟨.struct [(0,1,false),(1,48,true)],49,true,392,some zq5⟩),
 (40,⟨.array 8 5 1 false,8,true,8,some (List.replicate 8 (.int .u8 0))⟩),
 (41,⟨.array 4 40 8 true,32,true,32,some (List.replicate 32 (.int .u8 0))⟩),
 (42,⟨.array 6 5 1 false,6,true,6,some (List.replicate 6 (.int .u8 0))⟩),
 (44,⟨.struct [(0,32,true),(32,6,true)],38,true,38,some (List.replicate 38 (.int .u8 0))⟩),
 (46,⟨.struct [(0,1,false),(1,49,true),(50,49,true),(99,49,true),(148,49,true),(197,49,true),(246,49,true),(295,38,true)],333,true,2416,some zbq⟩),
 (49,⟨.struct [(0,1,false),(1,1,false),(2,1,false),(3,1,false),(4,1,false),(5,1,false),(6,1,false)],7,true,16,some [.int .i64 0,.int .u8 0,.int .u8 0,.int .u8 0,.int .u8 0,.int .u8 0,.int .u8 0]⟩),
 (51,⟨.slice 55 10,1,false,24,some [.slice none 0 0]⟩),
 (53,⟨.struct [(0,1,false),(1,1,false)],2,true,2,some [.bool false,.int .u8 0]⟩),
 (55,⟨.struct [(0,1,false),(1,1,false),(2,1,false),(3,2,true),(5,2,true),(7,1,false),(8,1,false),(9,1,false)],10,true,10,some [.int .u8 0,.int .u8 0,.int .u8 0,.bool false,.int .u8 0,.bool false,.int .u8 0,.int .u8 0,.int .u8 0,.int .u8 0]⟩),
 (56,⟨.int .i64,1,false,8,some [.int .i64 0]⟩),
 (58,⟨.other,1,false,0,none⟩),
 (60,⟨.other,1,false,8,some [.nilFunc]⟩),
 (62,⟨.slice 3 1,1,false,24,some [.slice none 0 0]⟩),
 (66,⟨.other,1,false,0,none⟩),
 (69,⟨.other,1,false,0,none⟩),
 (72,⟨.other,1,false,0,none⟩),
 (79,⟨.other,1,false,8,some [.nilFunc]⟩),
 (81,⟨.ptr 46,1,false,8,some [.pointer none]⟩),
 (82,⟨.other,1,false,8,some [.nilFunc]⟩),
 (83,⟨.slice 87 2,1,false,24,some [.slice none 0 0]⟩),
 (85,⟨.ptr 29,1,false,8,some [.pointer none]⟩),
 (87,⟨.struct [(0,1,false),(1,1,false)],2,true,16,some [.int .i64 0,.nilFunc]⟩),
 (88,⟨.other,1,false,0,none⟩),
 (90,⟨.slice 95 336,1,false,24,some [.slice none 0 0]⟩),
 (91,⟨.other,1,false,0,none⟩),
 (93,⟨.slice 62 1,1,false,24,some [.slice none 0 0]⟩),
 (95,⟨.struct [(0,333,true),(333,1,false),(334,1,false),(335,1,false)],336,true,2488,some zdj⟩),
 (98,⟨.other,1,false,8,some [.nilFunc]⟩),
 (99,⟨.other,1,false,8,some [.nilFunc]⟩),
 (103,⟨.ptr 39,1,false,8,some [.pointer none]⟩),
 (104,⟨.other,1,false,8,some [.nilFunc]⟩),
 (110,⟨.slice 103 1,1,false,24,some [.slice none 0 0]⟩),
 (117,⟨.other,1,false,8,some [.nilFunc]⟩),
 (121,⟨.other,1,false,8,some [.nilFunc]⟩),
 (127,⟨.other,1,false,0,none⟩),
 (129,⟨.slice 130 1,1,false,24,some [.slice none 0 0]⟩),
 (130,⟨.slice 138 12,1,false,24,some [.slice none 0 0]⟩),
 (131,⟨.other,1,false,0,none⟩),
 (133,⟨.other,1,false,8,some [.nilFunc]⟩),
 (134,⟨.other,1,false,8,some [.nilFunc]⟩),
 (136,⟨.slice 231 2,1,false,24,some [.slice none 0 0]⟩),
 (138,⟨.struct [(0,1,false),(1,1,false),(2,1,false),(3,1,false),(4,8,true)],12,true,104,some [.slice none 0 0,.slice none 0 0,.slice none 0 0,.slice none 0 0,.int .u8 0,.int .u8 0,.int .u8 0,.int .u8 0,.int .u8 0,.int .u8 0,.int .u8 0,.int .u8 0]⟩),
 (139,⟨.other,1,false,0,none⟩),
 (141,⟨.ptr 95,1,false,8,some [.pointer none]⟩),
 (142,⟨.slice 93 1,1,false,24,some [.slice none 0 0]⟩),
 (149,⟨.other,1,false,8,some [.nilFunc]⟩),
 (152,⟨.slice 39 49,1,false,24,some [.slice none 0 0]⟩),
 (155,⟨.ptr 157,1,false,8,some [.pointer none]⟩),
 (157,⟨.struct [(0,333,true),(333,49,true),(382,49,true),(431,49,true)],480,true,3592,some zui⟩),
 (159,⟨.other,1,false,8,some [.nilFunc]⟩),
 (161,⟨.struct [(0,1,false)],1,true,8,some [.nilFunc]⟩),
 (162,⟨.array 7 161 1 true,7,true,56,some (List.replicate 7 (.nilFunc))⟩),
 (164,⟨.slice 169 3,1,false,24,some [.slice none 0 0]⟩),
 (165,⟨.other,1,false,0,none⟩),
 (167,⟨.int .u8,1,false,1,some [.int .u8 0]⟩),
 (169,⟨.struct [(0,1,false),(1,1,false),(2,1,false)],3,true,32,some [.int .u8 0,.string ByteArray.empty,.int .i64 0]⟩),
 (172,⟨.struct [(0,10,true),(10,1,false),(11,1,false)],12,true,32,some [.int .u8 0,.int .u8 0,.int .u8 0,.bool false,.int .u8 0,.bool false,.int .u8 0,.int .u8 0,.int .u8 0,.int .u8 0,.int .i64 0,.int .i64 0]⟩),
 (173,⟨.slice 33 1,1,false,24,some [.slice none 0 0]⟩),
 (176,⟨.ptr 27,1,false,8,some [.pointer none]⟩),
 (178,⟨.array 256 4 1 false,256,true,256,some (List.replicate 256 (.bool false))⟩),
 (179,⟨.other,1,false,8,some [.nilFunc]⟩),
 (180,⟨.other,1,false,8,some [.nilFunc]⟩),
 (182,⟨.ptr 189,1,false,8,some [.pointer none]⟩),
 (183,⟨.int .u32,1,false,4,some [.int .u32 0]⟩),
 (184,⟨.int .u32,1,false,4,some [.int .u32 0]⟩),
 (185,⟨.array 8 184 1 false,8,true,32,some (List.replicate 8 (.int .u32 0))⟩),
 (186,⟨.array 24 49 7 true,168,true,384,some zuh⟩),
 (187,⟨.array 24 184 1 false,24,true,96,some (List.replicate 24 (.int .u32 0))⟩),
 (189,⟨.struct [(0,1,false),(1,8,true),(9,8,true),(17,1,false),(18,1,false),(19,168,true),(187,24,true),(211,24,true),(235,24,true)],259,true,736,some zmB⟩),
 (191,⟨.other,1,false,8,some [.nilFunc]⟩),
 (196,⟨.other,1,false,0,none⟩),
 (199,⟨.other,1,false,8,some [.nilFunc]⟩),
 (200,⟨.other,1,false,8,some [.nilFunc]⟩),
 (202,⟨.other,1,false,8,some [.nilFunc]⟩),
 (203,⟨.other,1,false,8,some [.nilFunc]⟩),
 (206,⟨.other,1,false,8,some [.nilFunc]⟩),
 (207,⟨.other,1,false,0,none⟩),
 (212,⟨.struct [(0,1,false),(1,1,false)],2,true,24,some [.string ByteArray.empty,.int .i64 0]⟩),
 (214,⟨.struct [(0,2,true),(2,1,false)],3,true,32,some [.string ByteArray.empty,.int .i64 0,.bool false]⟩),
 (215,⟨.other,1,false,8,some [.nilFunc]⟩),
 (216,⟨.other,1,false,8,some [.nilFunc]⟩),
 (220,⟨.ptr 172,1,false,8,some [.pointer none]⟩),
 (225,⟨.int .u64,1,false,8,some [.int .u64 0]⟩),
 (226,⟨.other,1,false,8,some [.nilFunc]⟩),
 (229,⟨.slice 184 1,1,false,24,some [.slice none 0 0]⟩),
 (231,⟨.array 2 5 1 false,2,true,2,some [.int .u8 0,.int .u8 0]⟩),
 (238,⟨.ptr 214,1,false,8,some [.pointer none]⟩),
 (239,⟨.other,1,false,8,some [.nilFunc]⟩),
 (240,⟨.other,1,false,0,none⟩),
 (243,⟨.array 9 5 1 false,9,true,9,some (List.replicate 9 (.int .u8 0))⟩),
 (245,⟨.int .i64,1,false,8,some [.int .i64 0]⟩),
 (246,⟨.other,1,false,0,none⟩),
 (255,⟨.array 64 5 1 false,64,true,64,some (List.replicate 64 (.int .u8 0))⟩),
 (257,⟨.other,1,false,0,none⟩),
 (259,⟨.int .u64,1,false,8,some [.int .u64 0]⟩),
 (263,⟨.ptr 3,1,false,8,some [.pointer none]⟩),
 (265,⟨.other,1,false,8,some [.nilFunc]⟩),
 (266,⟨.array 9 265 1 false,9,true,72,some (List.replicate 9 (.nilFunc))⟩),
 (268,⟨.array 32 5 1 false,32,true,32,some (List.replicate 32 (.int .u8 0))⟩),
 (269,⟨.ptr 212,1,false,8,some [.pointer none]⟩),
 (270,⟨.other,1,false,8,some [.nilFunc]⟩),
 (272,⟨.ptr 259,1,false,8,some [.pointer none]⟩),
 (273,⟨.other,1,false,0,none⟩),
 (277,⟨.other,1,false,0,none⟩)]
theorem tk {P:Program} {t:Nat} {i:TI} (h1:(P.info? t).map (fun x=>(x.size,x.bytes))=some (i.size,i.bytes):=by kernel_rfl)
  (h2:∀ z,i.zero=some z->((P.info? t).bind (fun x=>x.zero)).map (fun v=>v.cells.toList)=some z:=by intro z h;cases h;first | done | kernel_rfl) (h3:zqk P t i=true:=by kernel_rfl):TIok P t i:=zuQ h1 h2 h3
theorem jZ:TTok PG tt :=
 .cons tk (
 .cons tk (
 .cons tk (
 .cons tk (
 .cons tk (
 .cons tk (
 .cons tk (
 .cons tk (
 .cons tk (
 .cons tk (
 .cons tk (
 .cons tk (
 .cons tk (
 .cons tk (
 .cons tk (
 .cons tk (
 .cons tk (
 .cons tk (
 .cons tk (
 .cons tk (
 .cons tk (
 .cons tk (
 .cons tk (
 .cons tk (
 .cons tk (
 .cons tk (
 .cons tk (
 .cons tk (
 .cons tk (
 .cons tk (
 .cons tk (
 .cons tk (
 .cons tk (
 .cons tk (
 .cons tk (
 .cons tk (
 .cons tk (
 .cons tk (
 .cons tk (
 .cons tk (
 .cons tk (
 .cons tk (
 .cons tk (
 .cons tk (
 .cons tk (
 .cons tk (
 .cons tk (
 .cons tk (
 .cons tk (
 .cons tk (
 .cons tk (
 .cons tk (
 .cons tk (
 .cons tk (
 .cons tk (
 .cons tk (
 .cons tk (
 .cons tk (
 .cons tk (
 .cons tk (
 .cons tk (
 .cons tk (
 .cons tk (
 .cons tk (
 .cons tk (
 .cons tk (
 .cons tk (
 .cons tk (
 .cons tk (
 .cons tk (
 .cons tk (
 .cons tk (
 .cons tk (
 .cons tk (
 .cons tk (
 .cons tk (
 .cons tk (
 .cons tk (
 .cons tk (
 .cons tk (
 .cons tk (
 .cons tk (
 .cons tk (
 .cons tk (
 .cons tk (
 .cons tk (
 .cons tk (
 .cons tk (
 .cons tk (
 .cons tk (
 .cons tk (
 .cons tk (
 .cons tk (
 .cons tk (
 .cons tk (
 .cons tk (
 .cons tk (
 .cons tk (
 .cons tk (
 .cons tk (
 .cons tk (
 .cons tk (
 .cons tk (
 .cons tk (
 .cons tk (
 .cons tk (
 .cons tk (
 .cons tk (
 .cons tk (
 .cons tk (
 .cons tk (
 .cons tk (
 .cons tk (
 .cons tk (
 .cons tk (
 .cons tk (
 .cons tk (
 .cons tk (
 .cons tk (
 .cons tk (
 .cons tk (
 .cons tk (
 .nil))))))))))))))))))))))))))))))))))))))))))))))))))))))))))))))))))))))))))))))))))))))))))))))))))))))))))))))))))))))))))
theorem zt2:zqA PG 3 233 [211,212,213,214,215,216,217,218,219,220,221,222,223,224,225,226,227,228,229,230,231]=true:=by kernel_rfl
theorem mixed:Tryz.prog.follows .mixedOrders=true:=by kernel_rfl
@[reducible] noncomputable def sg (n:Nat):Sig:=⟨PG,tt,n,3,233,none,[211,212,213,214,215,216,217,218,219,220,221,222,223,224,225,226,227,228,229,230,231]⟩
theorem zbC (n:Nat):SigOk (sg n):=⟨fun t i h=>jZ.get t i h,zt3 zt2,mixed⟩
abbrev k0:=jZ.get 0 _ rfl
abbrev k3:=jZ.get 3 _ rfl
abbrev k4:=jZ.get 4 _ rfl
abbrev k5:=jZ.get 5 _ rfl
abbrev k23:=jZ.get 23 _ rfl
abbrev k29:=jZ.get 29 _ rfl
abbrev k30:=jZ.get 30 _ rfl
abbrev k34:=jZ.get 34 _ rfl
abbrev k36:=jZ.get 36 _ rfl
abbrev k39:=jZ.get 39 _ rfl
abbrev k40:=jZ.get 40 _ rfl
abbrev k46:=jZ.get 46 _ rfl
abbrev k49:=jZ.get 49 _ rfl
abbrev k53:=jZ.get 53 _ rfl
abbrev k55:=jZ.get 55 _ rfl
abbrev k56:=jZ.get 56 _ rfl
abbrev k62:=jZ.get 62 _ rfl
abbrev k87:=jZ.get 87 _ rfl
abbrev k90:=jZ.get 90 _ rfl
abbrev k93:=jZ.get 93 _ rfl
abbrev k95:=jZ.get 95 _ rfl
abbrev zu8:=jZ.get 121 _ rfl
abbrev zu7:=jZ.get 129 _ rfl
abbrev zpT:=jZ.get 130 _ rfl
abbrev zor:=jZ.get 138 _ rfl
abbrev zu6:=jZ.get 142 _ rfl
abbrev zu5:=jZ.get 155 _ rfl
abbrev zuy:=jZ.get 162 _ rfl
abbrev zrE:=jZ.get 164 _ rfl
abbrev zk2:=jZ.get 169 _ rfl
abbrev zu4:=jZ.get 172 _ rfl
abbrev zma:=jZ.get 184 _ rfl
abbrev k189:=jZ.get 189 _ rfl
abbrev zu3:=jZ.get 214 _ rfl
abbrev zux:=jZ.get 231 _ rfl
abbrev zrD:=jZ.get 259 _ rfl
abbrev zu2:=jZ.get 266 _ rfl
abbrev CB (f:FuncId) (args:Array Value) (w:Wd) (v:Value):Prop:=Calls PG f args w fun e w'=>e = .returned v/\Below w.heap.size w w'
theorem qA (n:Nat) (args:List Value) (m:Mk) {f:FuncId} {fn:Func} {c:Code} {w:Wd} {R:Ending->Wd->Prop} (hf:Tryz.prog.funcs[f]?=some fn) (h:wpM (sg n) m c ⟨zej 0 args,[]⟩ w (zm1 (sg n) fn R)) (hb:fn.body=some c:=by rfl) (hn:fn.ntmps=n:=by rfl) (hle:args.length<=n:=by exact JR rfl):Calls PG f args.toArray w R:=zeH (S:=sg n) (zbC _) m hf hb hn hle rfl h
theorem zI (n:Nat) (args:List Value) {f:FuncId} {fn:Func} {c:Code} {w:Wd} {R:Ending->Wd->Prop} (hf:Tryz.prog.funcs[f]?=some fn) (h:wpE (sg n) c ⟨zej 0 args,[]⟩ w (zm1 (sg n) fn R)) (hb:fn.body=some c:=by rfl) (hn:fn.ntmps=n:=by rfl) (hle:args.length<=n:=by exact JR rfl):Calls PG f args.toArray w R:=jz (S:=sg n) (zbC _) hf hb hn hle rfl h
end Go.Proofs.YtkpaomeeknegpaaGreatDoor
namespace Go.Sei
open Go.Vc
structure Msg where
 kind:UInt8
 from_:UInt8
 to:UInt8
 line:UInt8
 asker:UInt8
 acks:UInt8
 alone:Bool
 d0:UInt8
 d1:UInt8
 d2:UInt8
 d3:UInt8
 deriving DecidableEq
def Msg.enc (m:Msg):List Value:=[u8 m.kind,u8 m.from_,u8 m.to,u8 m.line,u8 m.asker,u8 m.acks,.bool m.alone,u8 m.d0,u8 m.d1,u8 m.d2,u8 m.d3]
def Msg.val (m:Msg):Value := .agg m.enc.toArray
def zrG:Enc Int:=⟨fun n=>[.int .i64 n],1,fun _=>rfl,by decide,fun a u hu=>by
 simp only [UB,Qu,Gk] at hu;subst hu;rfl⟩
end Go.Sei
namespace Go.Proofs.YtkpaomeeknegpaaGreatDoor
open Go.Vc Go.RowKit Go.Sei
def i64 (n:Int):Value := .int .i64 n
theorem zaC {off sz:Nat} {cs:List Value} {v:Value} {K:Value->Prop} (h:cs[off]?=some v) (k:K v):ziI off sz false cs K:=by
 unfold ziI;rw [h];exact k
end Go.Proofs.YtkpaomeeknegpaaGreatDoor
namespace Go.Vc
open Go.RowKit
structure MapK (P:Program) (K:TypeId) {κ:Type} [DecidableEq κ] (key:κ->Value):Prop where
 check:∀ q e w,(Instr.checkKey e 10000 K (key q)).run P w = .ok () w
 eq:∀ q q' w,(Op.equal K (key q) (key q')).run P w = .ok (decide (q=q')) w
 same:∀ q,Instr.sameBits 10000 (key q) (key q)=true
 desc:∃ d,P.underlying K=some d/\∀ q q',Instr.sameNow d (key q) (key q')=none\/Instr.sameNow d (key q) (key q')=some (decide (q=q'))
section
variable {P:Program} {K:TypeId} {κ:Type} [DecidableEq κ] {key:κ->Value}
abbrev Ent (κ:Type):=κ×Value×Nat
def entry (key:κ->Value) (e:Ent κ):MapEntry:=⟨key e.1,e.2.1,e.2.2⟩
def zsP (q:κ):List (Ent κ)->Nat->Option (Nat×Value)
 | [],_=>none
 | e::r,i=>if q=e.1 then some (i,e.2.1) else zsP q r (i+1)
def asF (es:List (Ent κ)) (q:κ):Option Value:=(zsP q es 0).map (·.2)
def MapF (key:κ->Value) (w:Wd) (r:Nat) (f:κ->Option Value):Prop :=
 ∃ (es:List (Ent κ)) (clock:Nat),w.heap[r]?=some (.map (es.map (entry key)).toArray clock)/\(∀ q,asF es q=f q)/\(es.map (·.1)).Nodup/\(es.map (·.2.2)).Nodup/\(∀ e∈es,e.2.2<clock)
def MapS (key:κ->Value) (w:Wd) (r:Nat) (f:κ->Option Value) (q:κ) (born:Nat):Prop :=
 ∃ (es:List (Ent κ)) (clock:Nat),w.heap[r]?=some (.map (es.map (entry key)).toArray clock)/\(∀ q,asF es q=f q)/\(es.map (·.1)).Nodup/\(es.map (·.2.2)).Nodup/\(∀ e∈es,e.2.2<clock)/\∃ v,(q,v,born)∈es
theorem MapS.map {w:Wd} {r:Nat} {f:κ->Option Value} {q:κ} {born:Nat} (h:MapS key w r f q born):MapF key w r f:=by
 obtain⟨es,clock,h1,h2,h3,h4,h5,_⟩:=h;exact⟨es,clock,h1,h2,h3,h4,h5⟩
theorem MapF.below {w w2:Wd} {r:Nat} {f:κ->Option Value} (h:MapF key w r f) (hb:Bw w w2):MapF key w2 r f:=by
 obtain⟨es,clock,hh,qI⟩:=h;exact⟨es,clock,zb hb hh,qI⟩
theorem MapF.same {w w2:Wd} {r:Nat} {f:κ->Option Value} (h:MapF key w r f) (hb:w2.heap[r]?=w.heap[r]?):MapF key w2 r f:=by
 obtain⟨es,clock,hh,qI⟩:=h;exact⟨es,clock,hb.trans hh,qI⟩
theorem zcD {w:Wd} {r:Nat} {o o':Obj} (h:w.heap[r]?=some o):(w.putObj r o').heap[r]?=some o':=by
 have:r<w.heap.size:=hlt h;simp [World.putObj,this]
theorem zj {w:Wd} {r k:Nat} {o:Obj} (h:k≠r):(w.putObj r o).heap[k]?=w.heap[k]?:=by
 have:¬ r=k:=fun e=>h e.symm;simp [World.putObj,this]
theorem je {B:Nat} {a w:Wd} (h:Below B a w) {r:Nat} (hr:B<=r) (o:Obj):Below B a (w.putObj r o) :=
 h.trans ⟨rfl,rfl,rfl,by simp [World.putObj],fun k hk=>zj (by omega)⟩
end
structure Step (n0 : Nat) (Fp : Wd → Nat → Prop) (A B : Wd) : Prop where
  os : B.os = A.os
  tape : B.tape = A.tape
  output : B.output = A.output
  size : A.heap.size ≤ B.heap.size
  same : ∀ k, k < A.heap.size → (k < n0 ∨ Fp A k) → B.heap[k]? = A.heap[k]?
structure Keeps (Fp : Wd → Nat → Prop) (A B : Wd) : Prop where
  os : B.os = A.os
  tape : B.tape = A.tape
  output : B.output = A.output
  size : A.heap.size ≤ B.heap.size
  same : ∀ k, k < A.heap.size → ¬ Fp A k → B.heap[k]? = A.heap[k]?
  fp : ∀ k, Fp B k → Fp A k ∨ A.heap.size ≤ k
structure IterJ {σ : Type} (n0 : Nat) (Fp : Wd → Nat → Prop) (J : σ → Wd → Prop) : Prop where
  step : ∀ s A B, J s A → Step n0 Fp A B → J s B ∧ ∀ k, Fp B k → Fp A k
  lt : ∀ s A k, J s A → Fp A k → k < A.heap.size
theorem Step.mono {n0 n1 : Nat} {Fp : Wd → Nat → Prop} {A B : Wd} (h : Step n0 Fp A B) (hn : n1 ≤ n0) : Step n1 Fp A B :=
  ⟨h.os, h.tape, h.output, h.size, fun k hk hf => h.same k hk (hf.imp (fun h => KF h hn) id)⟩
theorem IterJ.mono {σ : Type} {n0 n1 : Nat} {Fp : Wd → Nat → Prop} {J : σ → Wd → Prop} (h : IterJ n0 Fp J) (hn : n0 ≤ n1) : IterJ n1 Fp J :=
  ⟨fun s A B hj hs => h.step s A B hj (hs.mono hn), h.lt⟩
theorem Step.of_below {n0 : Nat} {Fp : Wd → Nat → Prop} {A B : Wd} (h : Below A.heap.size A B) : Step n0 Fp A B :=
  ⟨h.os, h.tape, h.output, h.size, fun k hk _ => h.block k hk⟩
theorem Step.alloc {n0 : Nat} {Fp : Wd → Nat → Prop} (A : Wd) (o : Obj) : Step n0 Fp A (A.alloc o) := .of_below ((Ga _ A).alloc (UV _) o)
theorem Step.drew {n0 : Nat} {Fp : Wd → Nat → Prop} (A : Wd) : Step n0 Fp A A.drew := .of_below (Ga _ A).drew
theorem Step.put {n0 : Nat} {Fp : Wd → Nat → Prop} {A : Wd} {l : Nat} (h : n0 ≤ l) (hf : ¬ Fp A l) (o : Obj) : Step n0 Fp A (A.putObj l o) :=
  ⟨rfl, rfl, rfl, by simp [World.putObj], fun k _ hk => zj (fun e => by subst e; rcases hk with hk | hk; omega; exact hf hk)⟩
theorem Step.row {n0 : Nat} {Fp : Wd → Nat → Prop} {A : Wd} {l : Nat} (h : n0 ≤ l) (hf : ¬ Fp A l) (cs : Array Value) : Step n0 Fp A (A.setRow l cs) :=
  ⟨rfl, rfl, rfl, by simp, fun k _ hk => zp (fun e => by subst e; rcases hk with hk | hk; omega; exact hf hk)⟩
theorem YieldR.mono {P : Program} {l : Nat} {args : Array Value} {w : Wd} {K K' : Value → Wd → Prop} (h : YieldR P l args w K) (hk : ∀ v w, K v w → K' v w) : YieldR P l args w K' := by
  obtain ⟨fn, tmps, assign, body, hy, hR⟩ := h
  exact ⟨fn, tmps, assign, body, hy, hR.mono fun e w' he => by cases e <;> first | exact hk _ _ he | exact he⟩
def zgY : List Nat → List Value → VEnv → VEnv
  | p :: ps, v :: vs, E => zgY ps vs ((p, v) :: E)
  | _, _, E => E
theorem zb4 {S : Sig} : ∀ (ps : List Nat) (vs : List Value) (a : Act) (E : Env), Agrees S a E → (∀ p ∈ ps, p < S.n) →
    Agrees S { a with tmps := (ps.zip vs).foldl (fun t (p, v) => t.setIfInBounds p v) a.tmps } ⟨zgY ps vs E.vs, E.ds⟩
  | [], vs, a, E, h, _ => by simpa [zgY] using h
  | p :: ps, [], a, E, h, _ => by simpa [zgY] using h
  | p :: ps, v :: vs, a, E, h, hp => by
    have h1 := h.put (dst := some p) (by simpa [znd] using hp p Kz) v
    have h2 := zb4 ps vs (a.put (some p) v) (zgn (some p) v E) h1 (fun q hq => hp q (JW _ hq))
    simpa [zgY, zgn, Act.put] using h2
def sr (S : Sig) (l : Nat) : Sig := { S with r := some l }
theorem ziu {S : Sig} (h : SigOk S) (l : Nat) : SigOk (sr S l) := ⟨h.ty, h.call, h.mixed⟩
def zuB {α : Type} (Fp : Wd → Nat → Prop) (J : List α → Wd → Prop) (Jx : Exit → List α → Wd → Prop) (xs : List α) (A : Wd) : Exit → Env → Wd → Prop
  | .normal, _, B => J xs B ∧ Keeps Fp A B
  | .ret, _, B => Jx .ret xs B ∧ Keeps Fp A B
  | .exit id, _, B => Jx (.exit id) xs B ∧ Keeps Fp A B
  | _, _, _ => False
theorem Keeps.trans {Fp : Wd → Nat → Prop} {A B C : Wd} (h : Keeps Fp A B) (k : Keeps Fp B C) : Keeps Fp A C :=
  ⟨k.os.trans h.os, k.tape.trans h.tape, k.output.trans h.output, UL h.size k.size,
   fun i hi hf => (k.same i (KF hi h.size) (fun hb => by rcases h.fp i hb with h1 | h1; exact hf h1; omega)).trans (h.same i hi hf),
   fun i hi => by
     rcases k.fp i hi with h1 | h1
     · exact h.fp i h1
     · exact .inr (UL h.size h1)⟩
theorem Keeps.refl (Fp : Wd → Nat → Prop) (A : Wd) : Keeps Fp A A := ⟨rfl, rfl, rfl, UV _, fun _ _ _ => rfl, fun _ h => .inl h⟩
theorem Keeps.of_below {Fp : Wd → Nat → Prop} {A B : Wd} (h : Below A.heap.size A B) (hf : ∀ k, Fp B k → Fp A k ∨ A.heap.size ≤ k) : Keeps Fp A B :=
  ⟨h.os, h.tape, h.output, h.size, fun k hk _ => h.block k hk, hf⟩
theorem zq {P : Program} {X : Wd} {T : TypeId} {iT : TI} (hT : TIok P T iT) {cs : Array Value} {t : TypeId} {v : Value} (hv : v.cells.size = iT.size) (hc : cs.size = iT.size)
    (h0 : v.cells.toList.all Value.oneCell' = true) {K : Wd → Prop}
    (k : ∀ Y, Below X.heap.size X Y → Y.heap[X.heap.size]? = some (.cells v.cells t (0, 0)) → Y.heap.size = X.heap.size + 1 → K Y) :
    SatR ((storeVar T ⟨X.heap.size, 0, none⟩ v).run P (X.alloc (.cells cs t))) fun _ w' => K w' :=
  zt hT (zw X _) hv hc h0 (k _ (zl ((Ga _ X).alloc (UV _) _) (UV _) _) (zn (zw X _)) (by simp))
structure StepO (n0 : Nat) (Ow : Nat → Prop) (Fp : Wd → Nat → Prop) (A B : Wd) : Prop where
  os : B.os = A.os
  tape : B.tape = A.tape
  output : B.output = A.output
  size : A.heap.size ≤ B.heap.size
  same : ∀ k, k < A.heap.size → ((k < n0 ∧ ¬ Ow k) ∨ Fp A k) → B.heap[k]? = A.heap[k]?
theorem Step.o {n0 : Nat} {Ow : Nat → Prop} {Fp : Wd → Nat → Prop} {A B : Wd} (h : Step n0 Fp A B) : StepO n0 Ow Fp A B :=
  ⟨h.os, h.tape, h.output, h.size, fun k hk hf => h.same k hk (hf.imp (fun h => h.1) id)⟩
theorem StepO.mono {n0 n1 : Nat} {Ow : Nat → Prop} {Fp : Wd → Nat → Prop} {A B : Wd} (h : StepO n0 Ow Fp A B) (hn : n1 ≤ n0) : StepO n1 Ow Fp A B :=
  ⟨h.os, h.tape, h.output, h.size, fun k hk hf => h.same k hk (hf.imp (fun h => ⟨KF h.1 hn, h.2⟩) id)⟩
structure IterJO {σ : Type} (n0 : Nat) (Ow : Nat → Prop) (Fp : Wd → Nat → Prop) (J : σ → Wd → Prop) : Prop where
  step : ∀ s A B, J s A → StepO n0 Ow Fp A B → J s B ∧ ∀ k, Fp B k → Fp A k
  lt : ∀ s A k, J s A → Fp A k → k < A.heap.size ∧ ¬ Ow k
theorem IterJO.mono {σ : Type} {n0 n1 : Nat} {Ow : Nat → Prop} {Fp : Wd → Nat → Prop} {J : σ → Wd → Prop} (h : IterJO n0 Ow Fp J) (hn : n0 ≤ n1) : IterJO n1 Ow Fp J :=
  ⟨fun s A B hj hs => h.step s A B hj (hs.mono hn), h.lt⟩
def zsZ {α : Type} (P : Program) (g : Nat) (lb : List Value) (xs : List α) (W0 : Wd) (Rd Ow : Nat → Prop) (St : List α → List Value → Wd → Prop) : Prop :=
  ∀ (l : Nat) (Fp : Wd → Nat → Prop) (J Jx : List α → Wd → Prop) (W : Wd), W0.heap.size ≤ W.heap.size → (∀ k, Rd k ∨ Ow k → W.heap[k]? = W0.heap[k]?) → (∀ k, Rd k → ¬ Fp W k) →
    IterJO W.heap.size Ow Fp J → IterJO W.heap.size Ow Fp Jx →
    (∀ pre x vs W1, J pre W1 → St (pre ++ [x]) vs W1 → (pre ++ [x]) <+: xs → YieldR P l vs.toArray W1 fun v W2 =>
      (v = .bool true ∧ J (pre ++ [x]) W2 ∧ Keeps Fp W1 W2) ∨ (v = .bool false ∧ Jx (pre ++ [x]) W2)) →
    J [] W →
    Calls P g (.func (.yield l) #[] #[] :: lb).toArray W fun e W' => (∃ v, e = .returned v) ∧ (J xs W' ∨ ∃ pre, pre <+: xs ∧ Jx pre W')
theorem ztd {α : Type} {S : Sig} (hS : SigOk S) (hr : S.r = none) {f : Operand} {ps : Array Tmp} {assign body : Code} {E : Env} {w : Wd} {Q : Exit → Env → Wd → Prop}
    {gf : Nat} {lb : Array Value} (hg : opd E f = some (.func (.func gf) #[] lb)) (hok : jY S gf = true)
    {xs : List α} {W0 : Wd} {Rd Ow : Nat → Prop} {St : List α → List Value → Wd → Prop} (hI : zsZ S.P gf lb.toList xs W0 Rd Ow St) (hW0 : W0.heap.size ≤ w.heap.size) (hRd : ∀ k, Rd k ∨ Ow k → k < W0.heap.size ∧ w.heap[k]? = W0.heap[k]?)
    (hps : ∀ pre vs W, St pre vs W → vs.length = ps.size) (hpn : ∀ p ∈ ps.toList, p < S.n)
    (Fp : Wd → Nat → Prop) (J : List α → Wd → Prop) (Jx : Exit → List α → Wd → Prop) (hRF : ∀ k, Rd k → ¬ Fp w k)
    (hJ : IterJO w.heap.size Ow Fp J) (hJx : ∀ ex, IterJO w.heap.size Ow Fp (Jx ex)) (h0 : J [] w)
    (hround : ∀ (l : Nat) (pre : List α) (x : α) (vs : List Value) (W : Wd), w.heap.size ≤ l → (pre ++ [x]) <+: xs → J pre W → St (pre ++ [x]) vs W → ¬ Fp W l → l < W.heap.size →
      wpE (sr S l) assign ⟨zgY ps.toList vs E.vs, []⟩ W fun ex E1 W1 => ex = .normal ∧ Keeps Fp W W1 ∧ J pre W1 ∧
        ∀ o W2, W2 = W1.putObj l o → J pre W2 → (∀ k, Fp W2 k → Fp W1 k) → wpE (sr S l) body E1 W2 (zuB Fp J Jx (pre ++ [x]) W2))
    (hdone : ∀ D W, w.heap.size ≤ D → ¬ Fp W D → J xs W → W.heap[D]? = some (.deferred (some [])) → Q .normal ⟨E.vs, { target := .collected D, args := #[] } :: E.ds⟩ W)
    (hstop : ∀ D ex pre W, w.heap.size ≤ D → ¬ Fp W D → pre <+: xs → Jx ex pre W → W.heap[D]? = some (.deferred (some [])) → Q ex ⟨E.vs, { target := .collected D, args := #[] } :: E.ds⟩ W) :
    zj3 S f ps assign body E w Q := by
  intro a ha
  have hcall : ∀ args w, (callFunc gf args).run S.P w = .ok (.enter gf args) w := by
    simp only [jY, Qg, Gc, Gd] at hok
    exact fun args w => hS.call gf hok.1.1 hok.1.2 hok.2 args w
  refine wpIn_rangeFunc ?_
  intro fn hfn
  have hro : (FR S.r).round = none := hr
  rw [hro]
  obtain ⟨rec, hrec⟩ : ∃ rec : LoopState → Option Code → Loop, rec = fun st pe => { state := st, pending := pe, fn, tmps := a.tmps, params := ps, assign, body, defers := w.heap.size } := ⟨_, rfl⟩
  obtain ⟨W1, hW1⟩ : ∃ W1, (w.alloc (.deferred (some []))).alloc (.loop (rec .ready none)) = W1 := ⟨_, rfl⟩
  have hK0 := zw w (.deferred (some []))
  have hK1 : W1.heap[w.heap.size]? = some (.deferred (some [])) := by rw [← hW1]; exact qM _ hK0
  have hL1 : W1.heap[w.heap.size + 1]? = some (.loop (rec .ready none)) := by
    rw [← hW1]; have := zw (w.alloc (.deferred (some []))) (.loop (rec .ready none)); rwa [QD] at this
  have hs1 : W1.heap.size = w.heap.size + 2 := by rw [← hW1]; simp
  have hst1 : Step w.heap.size Fp w W1 := by
    rw [← hW1]; exact .of_below (((Ga _ w).alloc (UV _) _).alloc (by simp) _)
  obtain ⟨hJ1, hF1⟩ := hJ.step _ _ _ h0 hst1.o
  have hOl : ∀ k, w.heap.size ≤ k → ¬ Ow k := fun k hk ho => by have := (hRd k (.inr ho)).1; omega
  have hFl : ∀ k, Fp W1 k → k < w.heap.size := fun k hk => (hJ.lt _ _ k h0 (hF1 k hk)).1
  refine ⟨w.heap.size + 1, [{ target := .collected w.heap.size, args := #[] }], W1, { target := .fn (.func gf) lb, args := #[.func (.yield (w.heap.size + 1)) #[] #[]] }, W1, gf,
    #[.func (.yield (w.heap.size + 1)) #[] #[]] ++ lb, W1, ?_, ?_, fun _ _ => trivial, ?_, fun h => by simp [FR] at h, ?_⟩
  · rw [← hW1, hrec]; exact Kq _ _ _ _ _
  · have hg' := ha.eval hg
    simp only [resolve, hg']
    simp [go_sem]
  · simp [invoke, go_sem, hcall]
  · have hargs : #[Value.func (.yield (w.heap.size + 1)) #[] #[]] ++ lb = (Value.func (.yield (w.heap.size + 1)) #[] #[] :: lb.toList).toArray := by rw [← Qd]; simp
    rw [hargs]
    have book : ∀ {σ : Type} {K : σ → Wd → Prop} (lo : Loop), IterJO w.heap.size Ow Fp K → IterJO W1.heap.size Ow Fp (fun s W => K s W ∧ W.heap[w.heap.size + 1]? = some (.loop lo) ∧ W.heap[w.heap.size]? = some (.deferred (some [])) ∧ ¬ Fp W (w.heap.size + 1) ∧ ¬ Fp W w.heap.size) := by
      intro σ K lo hK
      refine ⟨fun s A B ⟨hk, hl, hd, hf1, hf2⟩ hs => ?_, fun s A k ⟨hk, _⟩ hf => hK.lt s A k hk hf⟩
      obtain ⟨h1, h2⟩ := hK.step s A B hk (hs.mono (by omega))
      exact ⟨⟨h1, (hs.same _ (hlt hl) (.inl ⟨by omega, hOl _ (by omega)⟩)).trans hl, (hs.same _ (hlt hd) (.inl ⟨by omega, hOl _ (by omega)⟩)).trans hd, fun h => hf1 (h2 _ h), fun h => hf2 (h2 _ h)⟩, h2⟩
    have hcalls := hI (w.heap.size + 1) Fp (fun pre W => J pre W ∧ W.heap[w.heap.size + 1]? = some (.loop (rec .ready none)) ∧ W.heap[w.heap.size]? = some (.deferred (some [])) ∧ ¬ Fp W (w.heap.size + 1) ∧ ¬ Fp W w.heap.size)
      (fun pre W => ∃ ex c, ((ex = .ret ∧ c = .ret) ∨ ∃ id, ex = .exit id ∧ c = .exit id) ∧ Jx ex pre W ∧ W.heap[w.heap.size + 1]? = some (.loop (rec .done (some c))) ∧ W.heap[w.heap.size]? = some (.deferred (some [])) ∧ ¬ Fp W (w.heap.size + 1) ∧ ¬ Fp W w.heap.size)
      W1 (by omega) (fun k hk => by
        obtain ⟨h1, h2⟩ := hRd k hk
        rw [← h2]
        exact hst1.same k (by omega) (.inl (by omega))) (fun k hk hf => hRF k hk (hF1 k hf)) (book _ hJ)
      ⟨fun s A B ⟨ex, c, hc, hrest⟩ hs => by
        have := (book (rec .done (some c)) (hJx ex)).step s A B hrest hs
        exact ⟨⟨ex, c, hc, this.1⟩, this.2⟩,
       fun s A k ⟨ex, c, hc, hrest⟩ hf => (hJx ex).lt s A k hrest.1 hf⟩ ?_ ⟨hJ1, hL1, hK1, fun h => by have := hFl _ h; omega, fun h => by have := hFl _ h; omega⟩
    · refine zdb (hcalls.mono ?_)
      rintro e W2 ⟨⟨v, rfl⟩, (⟨hj, hl, hk, hf1, hf2⟩ | ⟨pre, hpre, ex, c, hc, hj, hl, hk, hf1, hf2⟩)⟩
      · have hst : Step w.heap.size Fp W2 (W2.putObj (w.heap.size + 1) (.loop (rec .exhausted none))) := .put (by omega) hf1 _
        obtain ⟨hj2, hfp2⟩ := hJ.step _ _ _ hj hst.o
        refine ⟨none, _, by have := UZ (P := S.P) hl (by rw [hrec]; simp); rw [hrec] at this; exact this, ?_⟩
        rw [hrec] at hj2 hfp2
        exact ⟨⟨E.vs, { target := .collected w.heap.size, args := #[] } :: E.ds⟩, ⟨ha.size, by simp [ha.defers], ha.val⟩, hdone w.heap.size _ (UV _) (fun h => hf2 (hfp2 _ h)) hj2 ((zj (by omega)).trans hk)⟩
      · have hst : Step w.heap.size Fp W2 (W2.putObj (w.heap.size + 1) (.loop (rec .exhausted (some c)))) := .put (by omega) hf1 _
        obtain ⟨hj2, hfp2⟩ := (hJx ex).step _ _ _ hj hst.o
        refine ⟨some c, _, by have := UZ (P := S.P) hl (by rw [hrec]; simp); rw [hrec] at this; exact this, ?_⟩
        rw [hrec] at hj2 hfp2
        have hq := hstop w.heap.size ex pre _ (UV _) (fun h => hf2 (hfp2 _ h)) hpre hj2 ((zj (by omega)).trans hk)
        rcases hc with ⟨rfl, rfl⟩ | ⟨id, rfl, rfl⟩
        · exact wpIn_ret ⟨⟨E.vs, { target := .collected w.heap.size, args := #[] } :: E.ds⟩, ⟨ha.size, by simp [ha.defers], ha.val⟩, hq⟩
        · exact wpIn_exit ⟨⟨E.vs, { target := .collected w.heap.size, args := #[] } :: E.ds⟩, ⟨ha.size, by simp [ha.defers], ha.val⟩, hq⟩
    ·
      rintro pre x vs W ⟨hj, hl, hk, hf1, hf2⟩ hst0 hpre
      have hy := run_yield (P := S.P) (args := vs.toArray) hl (by rw [hrec]; simpa using hps _ _ _ hst0)
      rw [hrec] at hy
      refine ⟨fn, _, assign, body, hy, zb5 (r := none) (n := NN) (roundIn_of_wpIn (F := FR none) trivial ?_)⟩
      have hag : Agrees (sr S (w.heap.size + 1)) { tmps := (ps.zip vs.toArray).foldl (fun t (p, v) => t.setIfInBounds p v) a.tmps, defers := [] } ⟨zgY ps.toList vs E.vs, []⟩ := by
        have h1 : Agrees (sr S (w.heap.size + 1)) { a with defers := [] } ⟨E.vs, []⟩ := ⟨ha.size, rfl, ha.val⟩
        have h2 := zb4 ps.toList vs _ _ h1 hpn
        have e : (ps.zip vs.toArray).foldl (fun t (p, v) => t.setIfInBounds p v) a.tmps = (ps.toList.zip vs).foldl (fun t (p, v) => t.setIfInBounds p v) a.tmps := by
          rw [← Kr]; simp
        rw [e]; exact h2
      have hw := q9 (ziu hS _) assign _ _ W _ hag (hround (w.heap.size + 1) pre x vs W (by omega) hpre hj hst0 hf1 (hlt hl))
      refine Gg hw ?_
      rintro ex a1 Wa ⟨E1, hag1, rfl, hk1, hj1, hbody⟩
      have hla := (hk1.same _ (hlt hl) hf1).trans hl
      have hka := (hk1.same _ (hlt hk) hf2).trans hk
      have hfa1 : ¬ Fp Wa (w.heap.size + 1) := fun h => by rcases hk1.fp _ h with h | h; exact hf1 h; have := hlt hl; omega
      have hfa2 : ¬ Fp Wa w.heap.size := fun h => by rcases hk1.fp _ h with h | h; exact hf2 h; have := hlt hk; omega
      refine ⟨_, run_beginRound hla (by rw [hrec]), ?_⟩
      have hst : Step w.heap.size Fp Wa (Wa.putObj (w.heap.size + 1) (.loop { rec .ready none with state := .busy })) := .put (by omega) hfa1 _
      obtain ⟨hj2, hfp2⟩ := hJ.step _ _ _ hj1 hst.o
      have hw2 := q9 (ziu hS _) body _ _ _ _ hag1 (hbody _ _ rfl hj2 hfp2)
      refine Gg hw2 ?_
      have hl2 : (Wa.putObj (w.heap.size + 1) (.loop { rec .ready none with state := .busy })).heap[w.heap.size + 1]? = some (.loop { rec .ready none with state := .busy }) := zcD hla
      have hk2 : (Wa.putObj (w.heap.size + 1) (.loop { rec .ready none with state := .busy })).heap[w.heap.size]? = some (.deferred (some [])) := (zj (by omega)).trans hka
      have hfb1 : ¬ Fp (Wa.putObj (w.heap.size + 1) (.loop { rec .ready none with state := .busy })) (w.heap.size + 1) := fun h => hfa1 (hfp2 _ h)
      have hfb2 : ¬ Fp (Wa.putObj (w.heap.size + 1) (.loop { rec .ready none with state := .busy })) w.heap.size := fun h => hfa2 (hfp2 _ h)
      have fin : ∀ (jump : Option Code) (W3 : Wd), Keeps Fp (Wa.putObj (w.heap.size + 1) (.loop { rec .ready none with state := .busy })) W3 →
          (Instr.endRound (w.heap.size + 1) jump).run S.P W3 = .ok (.bool jump.isNone) (W3.putObj (w.heap.size + 1) (.loop (rec (if jump.isNone then .ready else .done) jump))) ∧
          (W3.putObj (w.heap.size + 1) (.loop (rec (if jump.isNone then .ready else .done) jump))).heap[w.heap.size + 1]? = some (.loop (rec (if jump.isNone then .ready else .done) jump)) ∧
          (W3.putObj (w.heap.size + 1) (.loop (rec (if jump.isNone then .ready else .done) jump))).heap[w.heap.size]? = some (.deferred (some [])) ∧
          Step w.heap.size Fp W3 (W3.putObj (w.heap.size + 1) (.loop (rec (if jump.isNone then .ready else .done) jump))) ∧ ¬ Fp W3 (w.heap.size + 1) ∧ ¬ Fp W3 w.heap.size := fun jump W3 hk3 => by
        have hl3 := (hk3.same _ (hlt hl2) hfb1).trans hl2
        have hd3 := (hk3.same _ (hlt hk2) hfb2).trans hk2
        have hf31 : ¬ Fp W3 (w.heap.size + 1) := fun h => by rcases hk3.fp _ h with h | h; exact hfb1 h; have := hlt hl2; omega
        have hf32 : ¬ Fp W3 w.heap.size := fun h => by rcases hk3.fp _ h with h | h; exact hfb2 h; have := hlt hk2; omega
        have := run_endRound (P := S.P) jump hl3
        rw [hrec] at this ⊢
        exact ⟨this, zcD hl3, (zj (by omega)).trans hd3, .put (by omega) hf31 _, hf31, hf32⟩
      rintro e a3 W3 ⟨E3, _, hq⟩
      cases e with
      | normal =>
        obtain ⟨hj3, hk3⟩ := hq
        obtain ⟨hr3, hl4, hk4, hs3, hf31, hf32⟩ := fin none W3 hk3
        obtain ⟨hj4, hfp4⟩ := hJ.step _ _ _ hj3 hs3.o
        refine ⟨_, _, hr3, .inl ⟨rfl, ⟨hj4, hl4, hk4, fun h => hf31 (hfp4 _ h), fun h => hf32 (hfp4 _ h)⟩, ?_⟩⟩
        refine ⟨hs3.os.trans (hk3.os.trans hk1.os), hs3.tape.trans (hk3.tape.trans hk1.tape), hs3.output.trans (hk3.output.trans hk1.output), ?_, fun k hk5 hf5 => ?_, fun k hk5 => ?_⟩
        · have h1 := hk1.size; have h2 := hst.size; have h3 := hk3.size; have h4 := hs3.size; omega
        · by_cases hkl : k = w.heap.size + 1
          · subst hkl; rw [hl4, hl]; rfl
          · have h1 : ¬ Fp Wa k := fun h => by rcases hk1.fp _ h with h | h; exact hf5 h; omega
            have h2 := hk1.size; have h3 := hst.size
            rw [zj hkl, hk3.same k (by omega) (fun h => h1 (hfp2 _ h)), zj hkl]
            exact hk1.same k hk5 hf5
        · have h1 := hfp4 _ hk5
          rcases hk3.fp _ h1 with h2 | h2
          · exact hk1.fp _ (hfp2 _ h2)
          · have h3 := hk1.size; have h4 := hst.size; exact .inr (by omega)
      | ret =>
        obtain ⟨hj3, hk3⟩ := hq
        obtain ⟨hr3, hl4, hk4, hs3, hf31, hf32⟩ := fin (some .ret) W3 hk3
        obtain ⟨hj4, hfp4⟩ := (hJx .ret).step _ _ _ hj3 hs3.o
        exact ⟨_, _, hr3, .inr ⟨rfl, .ret, .ret, .inl ⟨rfl, rfl⟩, hj4, hl4, hk4, fun h => hf31 (hfp4 _ h), fun h => hf32 (hfp4 _ h)⟩⟩
      | exit id =>
        obtain ⟨hj3, hk3⟩ := hq
        obtain ⟨hr3, hl4, hk4, hs3, hf31, hf32⟩ := fin (some (.exit id)) W3 hk3
        obtain ⟨hj4, hfp4⟩ := (hJx (.exit id)).step _ _ _ hj3 hs3.o
        exact ⟨_, _, hr3, .inr ⟨rfl, .exit id, .exit id, .inr ⟨id, rfl, rfl⟩, hj4, hl4, hk4, fun h => hf31 (hfp4 _ h), fun h => hf32 (hfp4 _ h)⟩⟩
      | goto t => exact hq.elim
      | panic ch => exact hq.elim
      | outgrown => exact hq.elim
end Go.Vc
namespace Go.Vc
open Go.RowKit Go.Lib
theorem zoO (b o i:Nat):(⟨b,o,none⟩:Addr).add i=⟨b,o+i,none⟩:=by
 unfold Addr.add;by_cases h:i=0
 ·simp [h]
 ·simp [h]
theorem zc9 (p:OA) (cap sz:Nat):jq p cap 0 sz=p:=by
 unfold jq
 split
 ·rfl
 ·cases p with
  | none=>rfl
  | some a=>simp [Addr.add]
section
variable {α:Type} {E:Enc α} {w:Wd} {p:OA} {l:List α}
theorem SlR.sub (h:SlR E w p l) {cap lo hi:Nat} (h1:lo<=hi) (h2:hi<=l.length) (h3:l.length<=cap):SlR E w (jq p cap lo E.sz) ((l.drop lo).take (hi-lo)):=by
 by_cases he:hi=lo
 ·left;subst he;simp
 ·rcases h with rfl | ⟨b,o,rfl,hb,hc⟩
  ·left;simp
  ·right;refine⟨b,o+lo*E.sz,?_,hb,fun i hi2=>?_⟩
   ·unfold jq;rw [Gm (by omega)];simp [zoO]
   ·simp only [Qt,Qs] at hi2;have:=hc (lo+i) (by omega);rw [List.getElem_take,List.getElem_drop];rw [UC,<- UU];exact this
theorem SlR.none (h:SlR E w none l):l=[]:=by
 rcases h with h | ⟨b,o,h,_⟩
 ·exact h
 ·cases h
theorem zgO {P:Program} {t T ty B cap m c:Nat} {a:OA} {news:List α} {iT:TI} {z:List Value} (hu:P.underlying t=some (.slice T)) (hT:TIok P T iT) (hz:iT.zero=some z)
  (hs:iT.size=E.sz) (hzl:z.length=E.sz) (ho:OwnS E T B w p cap l) (hm:news.length=m) (hn:SlR E w a news) (hc:a=none->c=0) (hB:B<=w.heap.size)
  (h1:l.length+m<=9223372036854775807) (h2:(l.length+m)*iT.bytes<=140737488355328) {K:Value->Wd->Prop}
  (k:∀ p' cap' w',OwnS E T B w' p' cap' (l++news)->w.grownBy w' (Value.slice p l.length cap).ownBlock->Below B w w'->K (.slice p' (l++news).length cap') w') :
  SatR ((Builtin.append_ #[t,t] ty #[.slice p l.length cap,.slice a m c]).run P w) K:=by
 cases a with
 | none =>
  have hn:=hn.none;have hc:=hc rfl;subst hn hc;simp at hm;subst hm;obtain⟨⟨inf,hi,hsz,hby,hzz⟩,_⟩:=hT;refine SatR.mk (run_append_owned_none (P:=P) (w:=w) B t ty T inf E.sz hu hi _ _ _ ho) ?_;have:=k p cap w (by rw [QI];exact ho) ⟨rfl,rfl,rfl,UV _,fun _ _ _=>rfl⟩ (Ga _ _)
  rwa [QI] at this
 | some a =>
  by_cases h0:news=[]
  ·subst h0;simp at hm;subst hm;exact jJ hu hT hz hs hzl ho (by simp) (fun i v hv=>by simp at hv) hB h1 h2 fun p' cap' w' h1 h2 h3 _=>k p' cap' w' h1 h2 h3
  ·have hn':zK w a (news.flatMap E.enc):=by
    rcases hn with h | ⟨b,o,h,hb,hcs⟩
    ·exact Gp h h0
    ·cases h
     exact SlR.cells (.inr ⟨b,o,rfl,hb,hcs⟩)
   exact jJ hu hT hz hs hzl ho hm hn' hB h1 h2 fun p' cap' w' h1 h2 h3 _=>k p' cap' w' h1 h2 h3
end
end Go.Vc
namespace Go.Vc
open Go.RowKit
theorem zaV {a:Int} (h:0<=a/\a<=18446744073709551615):IntKind.u64.wrap a=a:=by
 simp [IntKind.wrap,IntKind.signed,IntKind.bits] <;> omega
def RowS {α:Type} (E:Enc α) (T:TypeId) (w:Wd) (g:Nat) (sp:List Value) (l:List α):Prop :=
 w.heap[g]?=some (.cells (l.flatMap E.enc++sp).toArray T (0,0))
section
variable {α:Type} {E:Enc α} {T:TypeId} {w w2:Wd} {g:Nat} {sp:List Value} {l:List α}
theorem RowS.row (h:RowS E T w g sp l):SlR E w (some ⟨g,0,none⟩) l:=by
 refine SlR.of_cells (hlt h) (za4 fun i v hv=>zc (za h) ?_);rw [Jr (Js.1 hv).1];exact hv
theorem RowS.at (h:RowS E T w g sp l) {i:Nat} (hi:i<l.length):zK w ⟨g,0+i*E.sz,none⟩ (E.enc l[i]):=by
 rcases h.row with h0 | ⟨b,o,h1,_,hc⟩
 ·subst h0;simp at hi
 ·cases h1;exact hc i hi
theorem RowS.lt (h:RowS E T w g sp l):g<w.heap.size:=hlt h
theorem RowS.same (h:RowS E T w g sp l) (hs:w2.heap[g]?=w.heap[g]?):RowS E T w2 g sp l:=hs.trans h
theorem RowS.below (h:RowS E T w g sp l) (hb:Bw w w2):RowS E T w2 g sp l:=zb hb h
theorem zla (l:List α) {i:Nat} (hi:i<l.length) (x:α) (sp:List Value) :
  (l.flatMap E.enc++sp).take (i*E.sz)++E.enc x++(l.flatMap E.enc++sp).drop (i*E.sz+E.sz)=(l.set i x).flatMap E.enc++sp:=by
 have hl:l=l.take i++l[i]::l.drop (i+1):=by rw [JE,JP]
 have h1:((l.take i).flatMap E.enc).length=i*E.sz:=by rw [qE,Qt,QY (by omega)]
 have h2:(l.take i++l[i]::l.drop (i+1)).flatMap E.enc++sp=(l.take i).flatMap E.enc++(E.enc l[i]++((l.drop (i+1)).flatMap E.enc++sp)):=by
  rw [Kg,KR];simp only [KN]
 rw [<- hl] at h2;rw [Jb,Gn hi,h2];rw [Jg (by omega),JF (by omega),List.drop_append,JB (by omega),h1];have h3:i*E.sz+E.sz-i*E.sz=E.sz:=by omega
 rw [h3,QS,List.drop_append,JB (by rw [E.len];exact UV _),E.len,UN,Uk];simp [Kg]
theorem zit {P:Program} {Te:TypeId} {iT:TI} (hT:TIok P Te iT) (hs:iT.size=E.sz) (hr:RowS E T w g sp l) {i:Nat} (hi:i<l.length) (x:α) {K:Wd->Prop}
  (k:∀ w',RowS E T w' g sp (l.set i x)->w.grownBy w' (some g)->w'.heap.size=w.heap.size->K w') :
  SatR ((storeVar Te ⟨g,0+i*E.sz,none⟩ (.agg (E.enc x).toArray)).run P w) fun _ w'=>K w':=by
 obtain⟨⟨inf,hinf,hsz,_,_⟩,_⟩:=hT;have hfl:(l.flatMap E.enc).length=l.length*E.sz:=qE l;have hle:i*E.sz+E.sz<=l.length*E.sz:=by rw [<- UP];exact Nat.mul_le_mul_right _ hi
 have hst:=Qc P g (0+i*E.sz) T (E.enc x) 0 _ w hr (by rw [E.len];simp only [KW,lap,hfl];omega) (E.one x);have hrun:(sizeOf Te).run P w = .ok iT.size w:=by simp [sizeOf,typeInfo,hinf,hsz]
 refine SatR.mk (v:=()) (w':=w.setRow g ((l.set i x).flatMap E.enc++sp).toArray) ?_ (k _ (zn hr) (jI w g _) (by simp));simp only [storeVar,US,hrun,KZ];have hc:(Value.agg (E.enc x).toArray).cells=(E.enc x).toArray:=rfl;rw [hc];simp only [KW,E.len,hs,ne_eq,Qa,Gj];rw [hst,<- zla l hi x sp];simp only [E.len,UQ,UK]
theorem qo (w:Wd) (row:Option Nat):w.grownBy w row:=⟨rfl,rfl,rfl,UV _,fun _ _ _=>rfl⟩
theorem zd {a b c:Wd} {row:Option Nat} (h:a.grownBy b row) (k:b.grownBy c row):a.grownBy c row :=
 ⟨k.os.trans h.os,k.tape.trans h.tape,k.output.trans h.output,UL h.size k.size,fun i hi hn=>(k.block i (nL hi h.size) hn).trans (h.block i hi hn)⟩
theorem zi {a b:Wd} {row:Option Nat} (h:Bw a b):a.grownBy b row:=⟨h.os,h.tape,h.output,h.size,fun k hk _=>h.block k hk⟩
theorem jg {P:Program} {Te:TypeId} {iT:TI} (hT:TIok P Te iT) (hs:iT.size=1) {cs:Array Value} {t:TypeId} (hg:w.heap[g]?=some (.cells cs t (0,0))) {o:Nat} (ho:o<cs.size) {v:Value} (hv:v.cells = #[v]) (h1:v.oneCell'=true) {K:Wd->Prop}
  (k:∀ w',w'.heap[g]?=some (.cells (cs.toList.take o++[v]++cs.toList.drop (o+1)).toArray t (0,0))->w.grownBy w' (some g)->w'.heap.size=w.heap.size->K w') :
  SatR ((storeVar Te ⟨g,o,none⟩ v).run P w) fun _ w'=>K w':=by
 obtain⟨⟨inf,hinf,hsz,_,_⟩,_⟩:=hT;have hst:=Qc P g o t [v] 0 cs w hg (by simp;omega) (by simp [h1]);have hrun:(sizeOf Te).run P w = .ok iT.size w:=by simp [sizeOf,typeInfo,hinf,hsz]
 refine SatR.mk (v:=()) (w':=w.setRow g (cs.toList.take o++[v]++cs.toList.drop (o+1)).toArray) ?_ (k _ (zn hg) (jI w g _) (by simp));simp only [storeVar,US,hrun,KZ,hv,hs];simpa using hst
end
theorem brT {P Q:Prop} (h:P):(true=true->P)/\(true=false->Q):=⟨fun _=>h,fun h=>nomatch h⟩
theorem brF {P Q:Prop} (h:Q):(false=true->P)/\(false=false->Q):=⟨fun h=>(nomatch h),fun _=>h⟩
theorem brE {b:Bool} {P Q:Prop} (e:b=true) (h:P):(b=true->P)/\(b=false->Q):=⟨fun _=>h,fun h=>nomatch e.symm.trans h⟩
theorem brN {b:Bool} {P Q:Prop} (e:b=false) (h:Q):(b=true->P)/\(b=false->Q):=⟨fun h=>(nomatch e.symm.trans h),fun _=>h⟩
theorem jy {w w2:Wd} {b o:Nat} {vs:List Value} (hs:w2.heap[b]?=w.heap[b]?) (h:zK w ⟨b,o,none⟩ vs):zK w2 ⟨b,o,none⟩ vs:=by
 refine za4 fun i v hv=>?_;have:=zc h hv;rw [<- this];unfold World.cell?;simp only [hs]
theorem zU {B:Nat} {w w2:Wd} {b o:Nat} {vs:List Value} (hb:Below B w w2) (hlt:b<B) (h:zK w ⟨b,o,none⟩ vs):zK w2 ⟨b,o,none⟩ vs :=
 jy (hb.block b hlt) h
def RowB {α:Type} (E:Enc α) (B:Nat) (w:Wd) (p:OA) (l:List α):Prop :=
 l=[]\/∃ b o,p=some ⟨b,o,none⟩/\b<B/\zK w ⟨b,o,none⟩ (l.flatMap E.enc)
section
variable {α:Type} {E:Enc α} {B:Nat} {w w2:Wd} {p:OA} {l:List α}
theorem RowB.below (h:RowB E B w p l) (hb:Below B w w2):RowB E B w2 p l:=by
 rcases h with h | ⟨b,o,hp,hlt,hc⟩
 ·exact .inl h
 ·exact .inr ⟨b,o,hp,hlt,zU hb hlt hc⟩
theorem RowB.mono {B':Nat} (h:RowB E B w p l) (hB:B<=B'):RowB E B' w p l:=by
 rcases h with h | ⟨b,o,hp,hlt,hc⟩
 ·exact .inl h
 ·exact .inr ⟨b,o,hp,by omega,hc⟩
theorem RowB.slr (h:RowB E B w p l) (hB:B<=w.heap.size):SlR E w p l:=by
 rcases h with rfl | ⟨b,o,rfl,hlt,hc⟩
 ·exact .nil
 ·exact SlR.of_cells (by omega) hc
theorem RowB.get (h:RowB E B w p l):∃ b o,(l.length=0\/p=some ⟨b,o,none⟩)/\∀ i (hi:i<l.length),b<B/\zK w ⟨b,o+i*E.sz,none⟩ (E.enc l[i]):=by
 rcases h with rfl | ⟨b,o,rfl,hlt,hc⟩
 ·exact⟨0,0,.inl rfl,fun i hi=>by simp at hi⟩
 ·exact⟨b,o,.inr rfl,fun i hi=>⟨hlt,by rw [<- zff l i hi];exact zR hc⟩⟩
end
theorem ziE:∀ (A B C:List Value),B.length=C.length->zha (A++B) A.length C=A++C
 | A,B,[],h=>by
  have:B=[]:=Jf h;subst this;rfl
 | A,[],c::C,h=>by simp at h
 | A,b::B,c::C,h=>by
  have e:(A++b::B).set A.length c=(A++[c])++B:=by
   rw [JO _ _ (UV _),UN];simp
  rw [zha,e];have:=ziE (A++[c]) B C (by simpa using h);rw [lap] at this;exact this.trans (by simp)
theorem za2 {n:Nat} {x:Operand} {z cs:List Value} (hc:cs.length=n) (hz:z.length=n):zei (fun i=>some (i*n,n)) (zcg z 1) (zia [(0,x)] [.agg cs.toArray])=some cs:=by
 have e1:zcg z 1=z:=by simp [zcg]
 have e2:(Value.agg cs.toArray).cells.size=n:=by show cs.length=n;exact hc
 simp only [zia,zei,e1,e2,UR,UQ,hz];simp only [Nat.beq_refl,Nat.ble_self_eq_true,Bool.and_self];have:(Value.agg cs.toArray).cells.toList=cs:=rfl;rw [this];have:=ziE [] z cs (by rw [hz,hc]);simp at this;rw [this]
theorem qN {α:Type} (E:Enc α) (a:α) {w:Wd} {t:TypeId}:zK (w.alloc (.cells (E.enc a).toArray t)) ⟨w.heap.size,0,none⟩ ([a].flatMap E.enc):=by
 rw [List.flatMap_singleton];exact zi6
theorem j6 {P:Program} {w:Wd} {g:Nat} {Te:TypeId} {iT:TI} (hT:TIok P Te iT) {cs:Array Value} {t:TypeId} (hg:w.heap[g]?=some (.cells cs t (0,0))) {o:Nat} {v:Value} (hv:v.cells.size=iT.size) (ho:o+v.cells.size<=cs.size)
  (h1:v.cells.toList.all Value.oneCell'=true) {K:Wd->Prop}
  (k:∀ w',w'.heap[g]?=some (.cells (cs.toList.take o++v.cells.toList++cs.toList.drop (o+v.cells.size)).toArray t (0,0))->w.grownBy w' (some g)->w'.heap.size=w.heap.size->K w') :
  SatR ((storeVar Te ⟨g,o,none⟩ v).run P w) fun _ w'=>K w':=by
 obtain⟨⟨inf,hinf,hsz,_,_⟩,_⟩:=hT;have hst:=Qc P g o t v.cells.toList 0 cs w hg (by simpa using ho) (Qi.1 h1);have hrun:(sizeOf Te).run P w = .ok v.cells.size w:=by simp [sizeOf,typeInfo,hinf,hsz,hv]
 refine SatR.mk (v:=()) (w':=w.setRow g (cs.toList.take o++v.cells.toList++cs.toList.drop (o+v.cells.size)).toArray) ?_ (k _ (zn hg) (jI w g _) (by simp));simp only [storeVar,US,hrun,KZ];simpa using hst
def zfd (ind:Nat->Nat->Bool) (ops:Array Oper) (k:Nat) (listed:Array Bool):Bool :=
 (List.range ops.size).all fun i=>Nat.beq i k||listed.getD i false||ind k i||zeL ops ops.size k i
def zqp (rec_:Array Bool->OT->Bool) (ind:Nat->Nat->Bool) (ops:Array Oper) (listed:Array Bool) (T:OT):Bool :=
 !(Region.ready .any ops listed).isEmpty&&(Region.ready .any ops listed).all fun i =>
   match OT.first ind i T with
   | some T'=>rec_ (listed.setIfInBounds i true) T'
   | none=>false
def zhY (ind:Nat->Nat->Bool) (ops:Array Oper):Nat->Array Bool->OT->Bool
 | 0,listed,T=>(Region.ready .any ops listed).isEmpty&&(match T with | .nil=>true | _=>false)
 | m+1,listed,.op k T'=>(match (Region.ready .any ops listed).contains k&&zfd ind ops k listed with
  | true=>zhY ind ops m (listed.setIfInBounds k true) T'
  | false=>zqp (zhY ind ops m) ind ops listed (.op k T'))
 | m+1,listed,.nil=>zqp (zhY ind ops m) ind ops listed .nil
 | m+1,listed,.alt x y=>zqp (zhY ind ops m) ind ops listed (.alt x y)
section
variable {ind:Nat->Nat->Bool} {ops:Array Oper}
def zeJ (ops:Array Oper) (L:Array Bool):Prop:=∀ j o,L.getD j false=true->ops[j]?=some o->∀ e∈o.after,Region.binds .any e=true->L.getD e.on false=true
theorem zhM {L:Array Bool} {k j:Nat} {d:Bool} (h:j≠k):(L.setIfInBounds k true).getD j d=L.getD j d:=by
 have:¬ k=j:=fun e=>h e.symm;simp [Ji,Jh,this]
theorem zd0 {L:Array Bool} {k j:Nat} (h:L.getD j false=true):(L.setIfInBounds k true).getD j false=true:=by
 by_cases e:j=k
 ·subst e;have hl:j<L.size:=by
   by_cases hl:j<L.size
   ·exact hl
   ·simp [hl] at h
  simp [Ji,hl]
 ·rw [zhM e];exact h
theorem zbc {L:Array Bool} {k i:Nat} (h:i∈Region.ready .any ops L) (hne:i≠k):i∈Region.ready .any ops (L.setIfInBounds k true):=by
 obtain⟨h1,o,ho,h2⟩:=mem_ready.1 h;exact mem_ready.2 ⟨by rw [zhM hne];exact h1,o,ho,fun e he hb=>zd0 (h2 e he hb)⟩
theorem zdo {L:Array Bool} {i:Nat} (h:i∈Region.ready .any ops L):L.getD i false=false/\i<L.size:=by
 obtain⟨h1,_⟩:=mem_ready.1 h;by_cases hl:i<L.size
 ·simp [Ji,hl] at h1 ⊢;exact h1
 ·simp [hl] at h1
theorem zda {L:Array Bool} (hc:zeJ ops L) {k:Nat} (hk:k∈Region.ready .any ops L):zeJ ops (L.setIfInBounds k true):=by
 obtain⟨h1,o,ho,h2⟩:=mem_ready.1 hk;intro j oj hj hoj e he hb;by_cases e1:j=k
 ·subst e1;rw [ho] at hoj;cases hoj;exact zd0 (h2 e he hb)
 ·rw [zhM e1] at hj;exact zd0 (hc j oj hj hoj e he hb)
theorem zki {L:Array Bool} {i k:Nat}:(L.setIfInBounds i true).setIfInBounds k true=(L.setIfInBounds k true).setIfInBounds i true:=by
 apply Array.ext_getElem?;intro j;simp only [Jh,Array.size_setIfInBounds]
 split <;> split <;> simp_all
theorem zhO {k i:Nat} {L:Array Bool} (h:zfd ind ops k L=true):zfd ind ops k (L.setIfInBounds i true)=true:=by
 simp only [zfd,Qi,QF,Um] at h ⊢;intro j hj;rcases h j hj with ((h | h) | h) | h
 ·exact .inl (.inl (.inl h))
 ·exact .inl (.inl (.inr (zd0 h)))
 ·exact .inl (.inr h)
 ·exact .inr h
theorem zk9 {k i:Nat} {L:Array Bool} (hc:zeJ ops L) (hf:zfd ind ops k L=true) (hk:k∈Region.ready .any ops L) (hi:i∈Region.ready .any ops L) (hne:i≠k):ind k i=true:=by
 obtain⟨h1,o,ho,h2⟩:=mem_ready.1 hi;simp only [zfd,Qi,QF,Um] at hf;rcases hf i (Jk.1 ho).1 with ((h | h) | h) | h
 ·exact Gp (JQ h) hne
 ·rw [(zdo hi).1] at h;cases h
 ·exact h
 ·have:=zcT hc _ k i o ho h2 h;rw [(zdo hk).1] at this;cases this
theorem zbH {rec_:Array Bool->OT->Bool} {L:Array Bool} {T:OT} (h:zqp rec_ ind ops L T=true):(Region.ready .any ops L).isEmpty=false/\∀ i∈Region.ready .any ops L,∃ T',OT.first ind i T=some T'/\rec_ (L.setIfInBounds i true) T'=true:=by
 simp only [zqp,bAT,KJ,Qi] at h;refine⟨h.1,fun i hi=>?_⟩;have:=h.2 i hi
 split at this
 ·rename_i T' hT;exact⟨T',hT,this⟩
 ·cases this
theorem zoA:∀ (m:Nat) (L:Array Bool) (T:OT),zeJ ops L->zhY ind ops (m+1) L T=true ->
  (Region.ready .any ops L).isEmpty=false/\∀ i∈Region.ready .any ops L,∃ T',OT.first ind i T=some T'/\zhY ind ops m (L.setIfInBounds i true) T'=true:=by
 intro m
 induction m with
 | zero =>
  intro L T hc h
  cases T with
  | nil=>exact zbH h
  | alt x y=>exact zbH h
  | op k T' =>
   simp only [zhY] at h
   split at h
   ·rename_i hf;simp only [bAT,JT,dE] at hf;refine⟨Jt.2 (KB hf.1),fun i hi=>?_⟩;by_cases e:i=k
    ·subst e;exact⟨T',by simp [OT.first],h⟩
    ·have:=zbc hi e;simp only [bAT,Qq] at h;rw [h.1] at this;cases this
   ·exact zbH h
 | succ m ih =>
  intro L T hc h
  cases T with
  | nil=>exact zbH h
  | alt x y=>exact zbH h
  | op k T' =>
   unfold zhY at h
   split at h
   ·rename_i hf;simp only [bAT,JT,dE] at hf;refine⟨Jt.2 (KB hf.1),fun i hi=>?_⟩;by_cases e:i=k
    ·subst e;exact⟨T',by simp [OT.first],h⟩
    ·obtain⟨T'',h1,h2⟩:=(ih _ T' (zda hc hf.1) h).2 i (zbc hi e);refine⟨.op k T'',?_,?_⟩
     ·have:¬ k=i:=fun e2=>e e2.symm;rw [OT.first,Gm this,Gn (zk9 hc hf.2 hf.1 hi e),h1];rfl
     ·have hk2:k∈Region.ready .any ops (L.setIfInBounds i true):=zbc hf.1 (fun e2=>e e2.symm);have hb:((Region.ready .any ops (L.setIfInBounds i true)).contains k&&zfd ind ops k (L.setIfInBounds i true))=true:=by
       simp only [bAT,JT,dE];exact⟨hk2,zhO hf.2⟩
      unfold zhY;rw [hb];rw [zki];exact h2
   ·exact zbH h
theorem zi4:∀ (m:Nat) (L:Array Bool) (T:OT),zeJ ops L->zhY ind ops m L T=true->zmm ind ops m L T=true
 | 0,L,T,_,h=>h
 | m+1,L,T,hc,h=>by
  obtain⟨h1,h2⟩:=zoA m L T hc h;simp only [zmm,bAT,KJ,Qi];refine⟨h1,fun i hi=>?_⟩;obtain⟨T',h3,h4⟩:=h2 i hi;rw [h3];exact zi4 m _ T' (zda hc hi) h4
theorem DrawE.treeQ {S:Sig} {ops:Array Oper} {E:Env} {w:Wd} {K:Env->Wd->Prop} {QP:List PanicEntry->Wd->Prop} (X:List Nat) (T:OT)
  (h:(zhY (zc5 S.τ X ops) ops ops.size (Array.replicate ops.size false) T&&ops.all (fun o=>jU o.op))=true) (k:zhk S ops.toList X QP T E w.drew K):DrawE S ops E w K QP :=
 .inr (.inl ⟨X,T,by
  simp only [bAT] at h ⊢;refine⟨zi4 _ _ _ (fun j o hj=>?_) h.1,h.2⟩;by_cases hl:j<ops.size <;> simp [hl] at hj,k⟩)
end
theorem ziP {z:Value} (h:0<z.cells.size) (n:Nat):(madeCells z.cells (n*z.cells.size)).toList=zcg z.cells.toList n:=by
 have:=zmC z.cells.toList (by simpa using h) n;unfold madeCells;simpa using Gi Array.toList this
theorem ziO {P:Program} {w:Wd} {t T:TypeId} {iT:TI} {z:List Value} {kl kc:IntKind} (hu:P.underlying t=some (.slice T)) (hT:TIok P T iT) (hz:iT.zero=some z) (hzl:z.length=iT.size) (hp:0<iT.size) (n:Nat) (h1:iT.bytes*n<=281474976710656) (h63:n<=9223372036854775807) {K:Value->Wd->Prop}
  (k:∀ w',w'.heap[w.heap.size]?=some (.cells (zcg z n).toArray T (0,0))->Bw w w'->w'.heap.size=w.heap.size+1->K (.slice (some ⟨w.heap.size,0,none⟩) n n) w') :
  SatR ((Instr.makeSlice t (.int kl (n:Int)) (.int kc (n:Int))).run P w) K:=by
 obtain⟨⟨inf,hi,hsz,hby,hzz⟩,_⟩:=hT;obtain⟨zv,hzv,hzc⟩:=hzz z hz;have h63':(n:Int)<=9223372036854775807:=by omega
 have hb':(inf.bytes:Int)*(n:Int)<=281474976710656:=by
  have h:((inf.bytes*n:Nat):Int)<=281474976710656:=by rw [hby];omega
  rwa [QG] at h
 have hr:=run_make (P:=P) w t T inf zv hu hi hzv kl kc n n (by omega) (Int.le_refl _) hb' h63';simp only [KK] at hr;have hcs:zv.cells.size=inf.size:=by rw [hsz,<- hzl,<- hzc];simp
 have hm:madeCells zv.cells (n*inf.size)=(zcg z n).toArray:=by
  have:=ziP (z:=zv) (by omega) n;rw [hzc,hcs] at this;rw [<- this]
 rw [hm] at hr;exact SatR.mk hr (k _ (zw w _) ((zba _ _)) (by simp))
theorem zm {P:Program} {w:Wd} {g:Nat} {Te:TypeId} {iT:TI} (hT:TIok P Te iT) {cs:List Value} {t:TypeId} (hg:w.heap[g]?=some (.cells cs.toArray t (0,0))) {o:Nat} {v:Value} (hv:v.cells = #[v]) (hi:iT.size=1) (ho:o<cs.length) (h1:v.oneCell'=true) {K:Wd->Prop}
  (k:∀ w',w'.heap[g]?=some (.cells (cs.set o v).toArray t (0,0))->w.grownBy w' (some g)->w'.heap.size=w.heap.size->K w') :
  SatR ((storeVar Te ⟨g,o,none⟩ v).run P w) fun _ w'=>K w':=by
 refine j6 hT hg (o:=o) (v:=v) (by rw [hv,hi];rfl) (by rw [hv];show o+1<=cs.length;omega) (by rw [hv];simpa using h1) fun w' f gr sz=>k w' ?_ gr sz;rw [f,hv];congr 2;show (cs.take o++[v]++cs.drop (o+1)).toArray=_;rw [Jb,Gn ho];simp
theorem zk {n:Nat} {A B:Wd} {g:Nat} (h:A.grownBy B (some g)) (hn:n<=A.heap.size) (hg:n<=g):Below n A B :=
 ⟨h.os,h.tape,h.output,h.size,fun j hj=>h.block j (nL hj hn) (by simp;omega)⟩
end Go.Vc
