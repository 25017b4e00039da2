/- Contracts of functions, and plain facts, for the law that the last text of this claim proves. -/
import Derived.CallsIn
import Derived.OrdersIn
import Derived.Below
import Derived.RangeFuncLeaves
import Derived.Laws.StructEq
import Derived.Laws.Rows
import Derived.RangeFuncSeq
import Derived.Deep.LoopGhost
import Derived.Laws.AppendOwn
import Derived.Maps.AppendAt
import Derived.Laws.AppendOwnNone
import Derived.KernelRfl
import Derived.Test.YtkpaomeeknegpaaGreatDoorProg
import GoSem.Instr.MapEntry
import Derived.ChangeKeysEq
import Derived.RangeFuncIn
import Derived.RangeFuncNested
import Derived.Lib.AppendZerosOnto
import Derived.Laws.OwnMore
set_option linter.unusedSimpArgs false
set_option linter.unusedVariables false
namespace Go
abbrev Ja:=@Nat.exists_ge_and_testBit_of_ge_two_pow
abbrev Jb:=@List.set_eq_take_append_cons_drop
abbrev Jc:=@Array.all_eq_true_iff_forall_mem
abbrev Jd:=@List.eq_nil_iff_forall_not_mem
abbrev Je:=@List.eq_nil_of_length_eq_zero
abbrev Jf:=@List.take_append_of_le_length
abbrev Jg:=@Array.getElem?_setIfInBounds
abbrev Jh:=@Array.getD_eq_getD_getElem?
abbrev Ji:=@List.drop_length_add_append
abbrev Jj:=@Array.getElem?_eq_some_iff
abbrev Jk:=@Int.fdiv_eq_ediv_of_nonneg
abbrev Jl:=@List.getD_eq_getElem?_getD
abbrev Jm:=@List.getElem?_append_right
abbrev Jn:=@Array.getElem?_eq_getElem
abbrev Jo:=@Classical.byContradiction
abbrev Jp:=@List.drop_eq_getElem_cons
abbrev Jq:=@List.getElem?_append_left
abbrev Jr:=@List.getElem?_eq_some_iff
abbrev Js:=@List.isEmpty_eq_false_iff
abbrev Jt:=@List.eq_of_mem_replicate
abbrev Ju:=@List.getElem?_eq_getElem
abbrev Jv:=@List.getElem?_cons_succ
abbrev Jw:=@List.head_eq_of_cons_eq
abbrev Jy:=@Nat.add_sub_cancel_left
abbrev Jz:=@Go.World.block_lt_of_cell?
abbrev JA:=@List.drop_eq_nil_of_le
abbrev JB:=@List.drop_of_length_le
abbrev JC:=@List.filter_eq_nil_iff
abbrev JD:=@List.getElem?_set_self
abbrev JE:=@List.getElem_cons_drop
abbrev JF:=@List.take_of_length_le
abbrev JH:=@Nat.testBit_lt_two_pow
abbrev JI:=@Array.mem_of_getElem?
abbrev JJ:=@List.getElem?_eq_none
abbrev JK:=@List.getElem?_reverse
abbrev JL:=@List.length_filter_le
abbrev JM:=@List.length_replicate
abbrev JN:=@List.mem_append_right
abbrev JO:=@List.set_append_right
abbrev JP:=@List.take_append_drop
abbrev JQ:=@Nat.eq_of_beq_eq_true
abbrev JR:=@Nat.le_of_ble_eq_true
abbrev JS:=@Array.toList_extract
abbrev JT:=@List.contains_eq_mem
abbrev JU:=@List.getElem?_set_ne
abbrev JV:=@List.mem_append_left
abbrev JW:=@List.mem_cons_of_mem
abbrev JY:=@List.mem_of_getElem?
abbrev JZ:=@List.mem_of_mem_take
abbrev Ka:=@List.reverse_reverse
abbrev Kb:=@Nat.eq_of_testBit_eq
abbrev Kc:=@Nat.pow_le_pow_right
abbrev Kd:=@Nat.pow_lt_pow_right
abbrev Ke:=@List.flatMap_append
abbrev Kf:=@List.getElem?_range
abbrev Kg:=@List.getElem_of_mem
abbrev Kh:=@List.length_reverse
abbrev Ki:=@List.map_congr_left
abbrev Kj:=@List.mem_map_of_mem
abbrev Kk:=@List.reverse_append
abbrev Kl:=@List.takeWhile_cons
abbrev Km:=@Nat.testBit_two_pow
abbrev Kn:=@Go.run_enterLoop_outer
abbrev Ko:=@Array.foldl_toList
abbrev Kq:=@BitVec.toNat_ofInt
abbrev Kr:=@Bool.false_eq_true
abbrev Ks:=@Bool.false_ne_true
abbrev Kt:=@List.filter_append
abbrev Ku:=@List.getElem?_drop
abbrev Kv:=@List.getElem?_take
abbrev Kw:=@List.getElem_range
abbrev Kx:=@List.mem_cons_self
abbrev Ky:=@List.mem_singleton
abbrev Kz:=@List.ne_nil_of_mem
abbrev KA:=@List.set_cons_succ
abbrev KB:=@Nat.and_one_is_mod
abbrev KC:=@Nat.lt_of_le_of_lt
abbrev KD:=@Nat.lt_of_lt_of_le
abbrev KE:=@Nat.pos_of_ne_zero
abbrev KF:=@UInt8.toNat_ofNat'
abbrev KG:=@Bool.not_eq_true'
abbrev KH:=@Go.DataW.trod_struct
abbrev KI:=@Int.toNat_natCast
abbrev KJ:=@List.all_eq_false
abbrev KK:=@List.any_eq_false
abbrev KL:=@List.append_assoc
abbrev KM:=@List.ext_getElem?
abbrev KN:=@List.filter_congr
abbrev KO:=@List.flatMap_cons
abbrev KQ:=@List.foldl_append
abbrev KR:=@List.getElem?_map
abbrev KS:=@List.length_range
abbrev KT:=@List.reverse_cons
abbrev KU:=@List.size_toArray
abbrev KV:=@Nat.or_lt_two_pow
abbrev KW:=@Option.some.injEq
abbrev KX:=@Result.andThen_ok
abbrev KY:=@not_true_eq_false
abbrev KZ:=@of_decide_eq_true
abbrev Qa:=@Go.run_storeCells_at
abbrev Qb:=@Array.toList_inj
abbrev Qc:=@Array.toList_map
abbrev Qd:=@BitVec.toNat_and
abbrev Qe:=@Bool.and_eq_true
abbrev Qf:=@Bool.not_eq_true
abbrev Qg:=@List.all_eq_true
abbrev Qh:=@List.any_eq_true
abbrev Qi:=@List.cons_append
abbrev Qj:=@List.drop_length
abbrev Qk:=@List.filter_cons
abbrev Ql:=@List.flatMap_map
abbrev Qm:=@List.flatMap_nil
abbrev Qn:=@List.getElem_map
abbrev Qo:=@List.isEmpty_iff
abbrev Qp:=@List.length_cons
abbrev Qq:=@List.length_drop
abbrev Qr:=@List.length_take
abbrev Qs:=@List.not_mem_nil
abbrev Qt:=@List.take_length
abbrev Qu:=@Nat.and_le_right
abbrev Qv:=@Nat.le_add_right
abbrev Qw:=@Nat.lt_of_not_le
abbrev Qx:=@Nat.lt_succ_self
abbrev Qy:=@Nat.min_le_right
abbrev Qz:=@Nat.mod_eq_of_lt
abbrev QA:=@Nat.zero_testBit
abbrev QB:=@decide_eq_decide
abbrev QC:=@Bool.or_eq_true
abbrev QD:=@Int.natCast_mul
abbrev QE:=@List.all_append
abbrev QF:=@List.append_nil
abbrev QG:=@List.cons.injEq
abbrev QH:=@List.foldl_cons
abbrev QI:=@List.length_map
abbrev QJ:=@List.length_nil
abbrev QK:=@List.length_set
abbrev QL:=@List.map_append
abbrev QM:=@List.mem_append
abbrev QN:=@List.mem_filter
abbrev QO:=@List.nil_append
abbrev QQ:=@List.nodup_cons
abbrev QR:=@List.range_succ
abbrev QS:=@List.take_left'
abbrev QT:=@Nat.and_le_left
abbrev QU:=@Nat.div_add_mod
abbrev QV:=@Nat.min_eq_left
abbrev QW:=@Nat.not_lt_zero
abbrev QX:=@Nat.testBit_and
abbrev QY:=@Nat.two_pow_pos
abbrev QZ:=@Option.map_some
abbrev Ua:=@Option.some.inj
abbrev Ub:=@UInt8.toNat_inj
abbrev Uc:=@decide_eq_false
abbrev Ud:=@Bool.and_false
abbrev Ue:=@Bool.false_and
abbrev Uf:=@List.drop_drop
abbrev Ug:=@List.drop_left
abbrev Uh:=@List.drop_zero
abbrev Ui:=@List.mapM_cons
abbrev Uj:=@List.mem_range
abbrev Uk:=@List.take_zero
abbrev Ul:=@Nat.mul_le_mul
abbrev Um:=@Nat.testBit_or
abbrev Un:=@decide_eq_true
abbrev Uo:=@Go.run_underlying
abbrev Up:=@Go.Addr.mk.injEq
abbrev Uq:=@Bool.false_or
abbrev Ur:=@Bool.not_true
abbrev Us:=@Bool.or_false
abbrev Ut:=@Bool.true_and
abbrev Uu:=@Int.ofNat.inj
abbrev Uv:=@List.all_cons
abbrev Uw:=@List.any_cons
abbrev Ux:=@List.map_cons
abbrev Uy:=@List.mem_cons
abbrev Uz:=@Nat.add_assoc
abbrev UA:=@Nat.mul_assoc
abbrev UB:=@Prod.mk.injEq
abbrev UC:=@Bool.not_not
abbrev UD:=@List.map_map
abbrev UE:=@List.map_set
abbrev UF:=@List.mem_map
abbrev UG:=@Nat.add_comm
abbrev UH:=@Nat.add_zero
abbrev UI:=@Nat.le_trans
abbrev UJ:=@Nat.mul_comm
abbrev UK:=@Nat.sub_self
abbrev UL:=@Nat.sub_zero
abbrev UM:=@Nat.zero_add
abbrev UN:=@Nat.zero_mul
abbrev UO:=@Sem.run_bind
abbrev UP:=@Sem.run_pure
abbrev UQ:=@Nat.add_mul
abbrev UR:=@Nat.le_refl
abbrev US:=@Nat.mul_one
abbrev UT:=@Nat.one_mul
abbrev UU:=@Nat.zero_le
abbrev UV:=@Go.run_endLoop
abbrev UW:=@Go.RowKit.Below.refl
abbrev UX:=@Nat.ble_eq
abbrev UY:=@Nat.blt_eq
abbrev UZ:=@Nat.mod_lt
abbrev Ga:=@And.intro
abbrev Gb:=@Go.wpIn_mono
abbrev Gc:=@and_true
abbrev Gd:=@congrArg
abbrev Ge:=@if_false
abbrev Gf:=@or_false
abbrev Gg:=@if_true
abbrev Gh:=@if_neg
abbrev Gi:=@if_pos
abbrev Gj:=@absurd
abbrev Wd:=World
abbrev OA:=Option Addr
noncomputable abbrev PG:=Go.Proofs.Tryz.prog
end Go
namespace Go
open Go.RowKit
abbrev At0 (b:Nat):Value := .pointer (some ⟨b,0,none⟩)
theorem gE {α:Type _} {l:List α} {i:Nat} (h:i<l.length):l[i]?=some l[i]:=Ju h
theorem bAT (a b:Bool):((a&&b)=true)=(a=true/\b=true):=Qe a b
theorem dE {p:Prop} [Decidable p]:(decide p=true)=p:=decide_eq_true_eq
theorem cmo {P:Program} {f:FuncId} {args:Array Value} {w:Wd} {R R':Ending->Wd->Prop} (h:Calls P f args w R) (k:∀ e w',R e w'->R' e w'):Calls P f args w R':=h.mono k
theorem nL {a b c:Nat} (h:a<b) (k:b<=c):a<c:=KD h k
theorem wz (w:Wd) (o:Obj):(w.alloc o).heap.size=w.heap.size+1:=World.size_alloc w o
theorem lap {α:Type _} {a b:List α}:(a++b).length=a.length+b.length:=List.length_append
theorem tsg {α:Type _} {i:Nat} {l:List α} (h:i<l.length):l.take (i+1)=l.take i++[l[i]]:=List.take_succ_eq_append_getElem h
theorem gDe {α:Type _} {l:List α} {i:Nat} {a:α}:l.getD i a=(l[i]?).getD a:=Jl
theorem gM {α:Type _} {l:List α} {i:Nat} (h:i<l.length):l[i]∈l:=List.getElem_mem h
theorem zdc {n k:Nat} (h:k<n):n-(k+1)<n-k:=by omega
abbrev Bw (w X:Wd):Prop:=Below w.heap.size w X
theorem zst {w X Y:Wd} (a:Below w.heap.size w X) (b:Below X.heap.size X Y):Below w.heap.size w Y:=a.trans (b.mono a.size)
theorem zba (w:Wd) (o:Obj):Below w.heap.size w (w.alloc o):=(UW _ w).alloc (UR _) _
theorem dT {p:Prop} [Decidable p] (h:decide p=true):p:=KZ h
theorem dF {p:Prop} [Decidable p] (h:decide p=false):¬ p:=of_decide_eq_false h
end Go
namespace Go.Vc
open Go.RowKit
def FR (r:Option Nat):Fence:={ fn:=fun _=>True,depth:=none,alive:=false,round:=r }
abbrev VEnv:=List (Nat×Value)
def VEnv.find:VEnv->Nat->Option Value
 | [],_=>none
 | (k,v)::r,t=>match Nat.beq k t with
  | true=>some v
  | false=>VEnv.find r t
structure Env where
 vs:VEnv
 ds:List Deferred:=[]
def Env.find (E:Env) (t:Nat):Option Value:=VEnv.find E.vs t
inductive TK where
 | other | bool | string | int (k:IntKind) | slice (e esz:Nat) | array (n e esz:Nat) (eagg:Bool) | struct (fs:List (Nat×Nat×Bool)) | map (k v:Nat) | ptr (e:Nat)
structure TI where
 kind:TK
 size:Nat
 agg:Bool
 bytes:Nat
 zero:Option (List Value)
abbrev TT:=List (Nat×TI)
def TT.get:TT->Nat->Option TI
 | [],_=>none
 | (k,v)::r,t=>match Nat.beq k t with
  | true=>some v
  | false=>TT.get r t
def ze1 (d:TypeDesc):Bool:=match d with | .struct _ | .array _ _=>true | _=>false
def zfV (P:Program) (t:Nat):Prop:=(∃ i,P.info? t=some i)/\∃ d,P.underlying t=some d
structure TIok (P:Program) (t:Nat) (i:TI):Prop where
 info:∃ inf,P.info? t=some inf/\inf.size=i.size/\inf.bytes=i.bytes/\∀ z,i.zero=some z->∃ v,inf.zero=some v/\v.cells.toList=z
 desc:∃ d,P.underlying t=some d/\ze1 d=i.agg /\
  match i.kind with
  | .other=>True
  | .bool=>d = .bool
  | .string=>d = .string
  | .int k=>d = .int k
  | .slice e esz=>d = .slice e/\P.cellsOf e=esz/\zfV P e
  | .array n e esz eagg=>d = .array n e/\P.cellsOf e=esz/\((P.underlying e).map ze1).getD false=eagg/\zfV P e
  | .struct fs=>∃ F:Array Field,d = .struct F/\fs=F.toList.map (fun f=>(f.offset,P.cellsOf f.type,((P.underlying f.type).map ze1).getD false))/\∀ f∈F.toList,zfV P f.type
  | .map k v=>d = .map k v
  | .ptr e=>d = .pointer e
def zks (g:Nat):List Nat->Bool
 | []=>true
 | x::r=>match Nat.beq x g with
  | true=>false
  | false=>zks g r
structure Sig where
 P:Program
 τ:TT
 n:Nat
 lo:Nat
 hi:Nat
 r:Option Nat:=none
 no:List Nat:=[]
structure SigOk (S:Sig):Prop where
 ty:∀ t i,TT.get S.τ t=some i->TIok S.P t i
 call:∀ g,S.lo<=g->g<S.hi->zks g S.no=true->∀ args w,(callFunc g args).run S.P w = .ok (.enter g args) w
 mixed:S.P.follows .mixedOrders=true
structure Agrees (S:Sig) (a:Act) (E:Env):Prop where
 size:a.tmps.size=S.n
 defers:a.defers=E.ds
 val:∀ t v,Env.find E t=some v->a.tmps[t]?=some v
def opd (E:Env):Operand->Option Value
 | .tmp t=>Env.find E t
 | .const v=>some v
 | .global g=>some (.pointer (some ⟨g,0,none⟩))
 | .func f=>some (.func (.func f) #[] #[])
theorem Agrees.eval {S:Sig} {a:Act} {E:Env} (h:Agrees S a E) {x:Operand} {v:Value} (hx:opd E x=some v):a.eval x=v:=by
 cases x with
 | tmp t =>
  have:=h.val t v hx;simp [Act.eval,this]
 | const u=>simpa [opd,Act.eval] using hx
 | global g=>simpa [opd,Act.eval] using hx
 | func f=>simpa [opd,Act.eval] using hx
inductive CovL (E:VEnv):VEnv->Prop
 | nil:CovL E []
 | cons {t:Nat} {v:Value} {r:VEnv} (h:VEnv.find E t=some v) (k:CovL E r):CovL E ((t,v)::r)
structure Cov (E E0:Env):Prop where
 c:CovL E.vs E0.vs
 d:E.ds=E0.ds
theorem CovL.find {E E0:VEnv} (h:CovL E E0):∀ t v,VEnv.find E0 t=some v->VEnv.find E t=some v:=by
 induction h with
 | nil=>intro t v h;simp [VEnv.find] at h
 | @cons t u r h _ ih =>
  intro t' v hf;simp only [VEnv.find] at hf
  cases hb:Nat.beq t t' with
  | true =>
   rw [hb] at hf;have:t=t':=JQ hb;subst this;simp only [KW] at hf;subst hf;exact h
  | false=>rw [hb] at hf;exact ih t' v hf
theorem Agrees.cov {S:Sig} {a:Act} {E E0:Env} (h:Agrees S a E) (c:Cov E E0):Agrees S a E0 :=
 ⟨h.size,h.defers.trans c.d,fun t v hf=>h.val t v (c.c.find t v hf)⟩
def zfW (dst:Option Nat) (v:Value) (E:Env):Env:=match dst with | some d=>⟨(d,v)::E.vs,E.ds⟩ | none=>E
def zm0 (n:Nat):Option Nat->Bool
 | none=>true
 | some d=>Nat.blt d n
theorem Agrees.put {S:Sig} {a:Act} {E:Env} (h:Agrees S a E) {dst:Option Nat} (hd:zm0 S.n dst=true) (v:Value):Agrees S (a.put dst v) (zfW dst v E):=by
 cases dst with
 | none=>exact h
 | some d =>
  have hd':d<S.n:=by simpa [zm0,UY] using hd
  refine⟨by simp [Act.put,h.size],h.defers,fun t u hf=>?_⟩;simp only [zfW,Env.find,VEnv.find] at hf
  cases hb:Nat.beq d t with
  | true =>
   rw [hb] at hf;have e:d=t:=JQ hb;subst e;simp only [KW] at hf;subst hf;simp [Act.put,h.size,hd']
  | false =>
   rw [hb] at hf;have e:d≠t:=fun e=>by subst e;simp at hb
   have:=h.val t u hf;simp [Act.put,e,this]
def Ar (k:IntKind) (e:Int) (K:Value->Prop):Prop:=∃ r,k.wrap e=r/\K (.int k r)
def zI (w:Wd) (p:Addr) (vs:List Value):Prop:=∀ i v,vs[i]?=some v->w.cell? (p.add i)=some v
def SatR {α:Type} (r:Result α) (K:α->Wd->Prop):Prop:=∃ v w',r = .ok v w'/\K v w'
theorem SatR.mk {α:Type} {r:Result α} {K:α->Wd->Prop} {v:α} {w':Wd} (h:r = .ok v w') (k:K v w'):SatR r K:=⟨v,w',h,k⟩
def Br (b:Bool) (A B:Prop):Prop:=(b=true->A)/\(b=false->B)
def zsz (P:Program) (d:TypeDesc):TK->Bool
 | .other=>true
 | .bool=>(match d with | .bool=>true | _=>false)
 | .string=>(match d with | .string=>true | _=>false)
 | .int k=>(match d with | .int k'=>decide (k'=k) | _=>false)
 | .slice e esz=>(match d with | .slice e'=>Nat.beq e' e&&Nat.beq (P.cellsOf e) esz&&(P.info? e).isSome&&(P.underlying e).isSome | _=>false)
 | .array n e esz eagg=>(match d with | .array n' e'=>Nat.beq n' n&&Nat.beq e' e&&Nat.beq (P.cellsOf e) esz&&(((P.underlying e).map ze1).getD false == eagg)&&(P.info? e).isSome&&(P.underlying e).isSome | _=>false)
 | .struct fs=>(match d with
  | .struct F=>decide (fs=F.toList.map (fun f=>(f.offset,P.cellsOf f.type,((P.underlying f.type).map ze1).getD false)))&&F.toList.all fun f=>(P.info? f.type).isSome&&(P.underlying f.type).isSome
  | _=>false)
 | .map k v=>(match d with | .map k' v'=>Nat.beq k' k&&Nat.beq v' v | _=>false)
 | .ptr e=>(match d with | .pointer e'=>Nat.beq e' e | _=>false)
def zp8 (P:Program) (t:Nat) (i:TI):Bool :=
 match P.underlying t with
 | some d=>(ze1 d == i.agg)&&zsz P d i.kind
 | none=>false
theorem jN {P:Program} {t:Nat} (h1:(P.info? t).isSome=true) (h2:(P.underlying t).isSome=true):zfV P t :=
 ⟨Option.isSome_iff_exists.1 h1,Option.isSome_iff_exists.1 h2⟩
theorem zuv {P:Program} {t:Nat} {i:TI} (h1:(P.info? t).map (fun x=>(x.size,x.bytes))=some (i.size,i.bytes))
  (h2:∀ z,i.zero=some z->((P.info? t).bind (fun x=>x.zero)).map (fun v=>v.cells.toList)=some z) (h3:zp8 P t i=true):TIok P t i:=by
 obtain⟨inf,hi,he⟩:=Option.map_eq_some_iff.1 h1;simp only [UB] at he;refine⟨⟨inf,hi,he.1,he.2,fun z hz=>?_⟩,?_⟩
 ·have:=h2 z hz;rw [hi] at this;obtain⟨v,hv,hc⟩:=Option.map_eq_some_iff.1 this;exact⟨v,hv,hc⟩
 ·unfold zp8 at h3
  split at h3
  ·rename_i d hd;simp only [bAT,beq_iff_eq] at h3;refine⟨d,hd,h3.1,?_⟩;have h4:=h3.2;generalize i.kind=k at h4
   cases k <;> simp only [zsz] at h4
   case other=>trivial
   case bool=>split at h4 <;> simp_all
   case string=>split at h4 <;> simp_all
   case int k=>split at h4 <;> simp_all
   case slice e esz =>
    split at h4
    ·simp only [bAT] at h4;obtain⟨⟨⟨a,b⟩,c⟩,e⟩:=h4;exact⟨by rw [JQ a],JQ b,jN c e⟩
    ·cases h4
   case array n e esz eagg =>
    split at h4
    ·simp only [bAT,beq_iff_eq] at h4;obtain⟨⟨⟨⟨⟨a,b⟩,c⟩,e⟩,f⟩,g⟩:=h4;have a':=JQ a;have b':=JQ b;subst a' b';exact⟨rfl,JQ c,e,jN f g⟩
    ·cases h4
   case struct fs =>
    split at h4
    ·rename_i F;simp only [bAT,dE,Qg] at h4;exact⟨F,rfl,h4.1,fun f hf=>jN (h4.2 f hf).1 (h4.2 f hf).2⟩
    ·cases h4
   case map k v =>
    split at h4
    ·simp only [bAT] at h4;rw [JQ h4.1,JQ h4.2]
    ·cases h4
   case ptr e =>
    split at h4
    ·rw [JQ h4]
    ·cases h4
  ·cases h3
inductive TTok (P:Program):TT->Prop
 | nil:TTok P []
 | cons {t:Nat} {i:TI} {r:TT} (h:TIok P t i) (k:TTok P r):TTok P ((t,i)::r)
theorem TTok.get {P:Program}:∀ {τ:TT},TTok P τ->∀ t i,TT.get τ t=some i->TIok P t i
 | [],_,t,i,h=>by simp [TT.get] at h
 | (u,j)::r,.cons hj hr,t,i,h=>by
  simp only [TT.get] at h
  cases hb:Nat.beq u t with
  | true =>
   rw [hb] at h;simp only [KW] at h;have e:=JQ hb;subst e h;exact hj
  | false=>rw [hb] at h;exact hr.get t i h
def zql (P:Program) (lo hi:Nat) (no:List Nat):Bool :=
 (List.range (hi-lo)).all fun k=>match zks (lo+k) no with
  | false=>true
  | true=>match P.funcs[lo+k]? with
   | some fn => fn.name != "runtime.NumGoroutine" && fn.body.isSome
   | none=>false
theorem ztJ {P:Program} {lo hi:Nat} {no:List Nat} (h:zql P lo hi no=true):∀ g,lo<=g->g<hi->zks g no=true->∀ args w,(callFunc g args).run P w = .ok (.enter g args) w:=by
 intro g h1 h2 hn args w;simp only [zql,Qg,Uj] at h;have h3:=h (g-lo) (by omega);rw [show lo+(g-lo)=g by omega,hn] at h3;dsimp only at h3
 split at h3
 ·rename_i fn hf;simp only [bAT,bne_iff_ne,ne_eq] at h3;simp [callFunc,hf,h3.1,Option.isSome_iff_ne_none.1 h3.2]
 ·cases h3
theorem nm {α:Sort _} (a:α):∃ x,x=a:=⟨a,rfl⟩
def ztD (E:VEnv):VEnv->List (Option Value)
 | []=>[]
 | (t,_)::r=>VEnv.find E t::ztD E r
def ztC:VEnv->List (Option Value)
 | []=>[]
 | (_,v)::r=>some v::ztC r
theorem zug {E:VEnv}:∀ {E0:VEnv},ztD E E0=ztC E0->CovL E E0
 | [],_ => .nil
 | (t,v)::r,h => .cons (Jw h) (zug (List.tail_eq_of_cons_eq h))
theorem cvE {E E0:Env} (h:ztD E.vs E0.vs=ztC E0.vs) (d:E.ds=E0.ds):Cov E E0:=⟨zug h,d⟩
theorem biE {b:Bool} {A B:Prop} (h:b=true->A) (k:b=false->B):(b=true->A)/\(b=false->B):=⟨h,k⟩
end Go.Vc
namespace Go.Vc
open Go.RowKit
def z7 (E:Env) (x:Operand) (f:Value->Prop):Prop:=match opd E x with | some v=>f v | none=>False
def zgq (E:Env):List Operand->(List Value->Prop)->Prop
 | [],f=>f []
 | x::r,f=>z7 E x fun v=>zgq E r fun vs=>f (v::vs)
theorem zp {E:Env} {x:Operand} {f:Value->Prop} (h:z7 E x f):∃ v,opd E x=some v/\f v:=by
 unfold z7 at h
 split at h
 ·exact⟨_,by assumption,h⟩
 ·exact h.elim
theorem za6 {S:Sig} {E:Env}:∀ {l:List Operand} {f:List Value->Prop},zgq E l f->∃ vs,f vs/\∀ a,Agrees S a E->l.map a.eval=vs
 | [],f,h=>⟨[],h,fun _ _=>rfl⟩
 | x::r,f,h=>by
  obtain⟨v,hv,h⟩:=zp h;obtain⟨vs,hf,ha⟩:=za6 (S:=S) h;exact⟨v::vs,hf,fun a hag=>by simp only [Ux,hag.eval hv,ha a hag]⟩
def znw (P:Program) (m:Sem Value) (K:Value->Prop):Prop:=∃ v,(∀ w,m.run P w = .ok v w)/\K v
def ziH (P:Program) (w:Wd) (m:Sem Value) (K:Value->Prop):Prop:=∃ v,(∀ w2,Bw w w2->m.run P w2 = .ok v w2)/\K v
def kEq (k k':IntKind):Bool:=decide (k=k')
def zrq (op:BinOp) (k:IntKind) (a b:Int) (K:Value->Prop):Prop :=
 match op with
 | .lss=>K (.bool (decide (a<b)))
 | .leq=>K (.bool (decide (a<=b)))
 | .gtr=>K (.bool (decide (b<a)))
 | .geq=>K (.bool (decide (b<=a)))
 | .eql=>K (.bool (decide (a=b)))
 | .neq=>K (.bool (!decide (a=b)))
 | .add=>Ar k (a+b) K
 | .sub=>Ar k (a-b) K
 | .mul=>Ar k (a*b) K
 | .quo=>b≠0/\Ar k (a.tdiv b) K
 | .rem=>b≠0/\∃ r,a.tmod b=r/\K (.int k r)
 | .and=>∃ r,k.wrap ((BitVec.ofInt k.bits a&&&BitVec.ofInt k.bits b).toNat)=r/\K (.int k r)
 | .or=>∃ r,k.wrap ((BitVec.ofInt k.bits a|||BitVec.ofInt k.bits b).toNat)=r/\K (.int k r)
 | .xor=>∃ r,k.wrap ((BitVec.ofInt k.bits a ^^^ BitVec.ofInt k.bits b).toNat)=r/\K (.int k r)
 | .andNot=>∃ r,k.wrap ((BitVec.ofInt k.bits a &&& ~~~ BitVec.ofInt k.bits b).toNat)=r/\K (.int k r)
 | _=>False
def zsf (P:Program) (op:BinOp) (T:TypeId) (x y:Operand) (vx vy:Value) (K:Value->Prop):Prop :=
 match vx,vy with
 | .int k a,.int k' b =>
  match op with
  | .shl=>0<=b/\Ar k (a*2^(min b.toNat k.bits)) K
  | .shr=>0<=b/\∃ r,a.fdiv (2^(min b.toNat k.bits))=r/\K (.int k r)
  | op=>match kEq k k' with
   | true=>zrq op k a b K
   | false=>False
 | vx,vy=>znw P (do eqGuard op T x y vx vy;binOp op T vx vy) K
def zjl (o:Option TI) (f:Nat) (g:Nat->Nat->Bool->Prop):Prop :=
 match o with
 | some { kind := .struct fs,.. }=>(match fs[f]? with
  | some (off,sz,agg)=>g off sz agg
  | none=>False)
 | _=>False
def zih (off sz:Nat) (agg:Bool) (cs:List Value) (K:Value->Prop):Prop :=
 match agg with
 | true=>K (.agg ((cs.drop off).take sz).toArray)
 | false=>match cs[off]? with
  | some v=>K v
  | none=>False
def idx (vi:Value) (n:Nat) (g:Nat->Prop):Prop :=
 match vi with
 | .int _ i=>∃ j:Nat,(j:Int)=i/\j<n/\g j
 | _=>False
def zei (o:Option TI) (vx vi:Value) (K:Value->Prop):Prop :=
 match o with
 | some { kind := .slice _ esz,.. }=>(match vx with
  | .slice (some ⟨b,o,none⟩) len _=>idx vi len fun j=>K (.pointer (some ⟨b,o+j*esz,none⟩))
  | _=>False)
 | some { kind := .array n _ esz _,.. }=>(match vx with
  | .pointer (some ⟨b,o,none⟩)=>idx vi n fun j=>K (.pointer (some ⟨b,o+j*esz,none⟩))
  | _=>False)
 | _=>False
def bnd (o:Option Value) (dflt top:Nat) (g:Nat->Prop):Prop :=
 match o with
 | none=>g dflt
 | some (.int _ i)=>∃ j:Nat,(j:Int)=i/\j<=top/\g j
 | some _=>False
def ji (base:OA) (m l esz:Nat):OA:=if m=l then base else base.map (·.add (l*esz))
def zlw (o:Option TI) (vx:Value) (lo hi:Option Value) (K:Value->Prop):Prop :=
 match o with
 | some { kind := .slice _ esz,.. }=>(match vx with
  | .slice base len cap=>bnd hi len cap fun h=>bnd lo 0 h fun l=>K (.slice (ji base cap l esz) (h-l) (cap-l))
  | _=>False)
 | some { kind := .array n _ esz _,.. }=>(match vx with
  | .pointer (some a)=>bnd hi n n fun h=>bnd lo 0 h fun l=>K (.slice (ji (some a) n l esz) (h-l) (n-l))
  | _=>False)
 | some { kind := .string,.. }=>(match vx with
  | .string s=>bnd hi s.size s.size fun h=>bnd lo 0 h fun l=>K (.string (s.extract l h))
  | _=>False)
 | _=>False
def zjM (E:Env) (o:Option Operand) (f:Option Value->Prop):Prop :=
 match o with
 | none=>f none
 | some x=>z7 E x fun v=>f (some v)
def zgF (l:List Value) (off:Nat):List Value->List Value
 | []=>l
 | v::r=>zgF (l.set off v) (off+1) r
def zd2 (place:Nat->Option (Nat×Nat)) (cells:List Value):List (Nat×Value)->Option (List Value)
 | []=>some cells
 | (i,v)::qp=>match place i with
  | none=>none
  | some (off,sz)=>match Nat.beq v.cells.size sz&&Nat.ble (off+sz) cells.length with
   | true=>zd2 place (zgF cells off v.cells.toList) qp
   | false=>none
def zhL:List (Nat×Operand)->List Value->List (Nat×Value)
 | (i,_)::r,v::vs=>(i,v)::zhL r vs
 | _,_=>[]
def zi6 (fs:List (Nat×Nat×Bool)) (i:Nat):Option (Nat×Nat) :=
 match fs[i]? with
 | some (off,sz,_)=>some (off,sz)
 | none=>none
def zqo (o:Option TI) (ps:List (Nat×Operand)) (vs:List Value) (K:Value->Prop):Prop :=
 match o with
 | some { kind := .struct fs,zero:=some z,.. }=>∃ cells,zd2 (zi6 fs) z (zhL ps vs)=some cells/\K (.agg cells.toArray)
 | some { kind := .array _ _ esz _,zero:=some z,.. }=>∃ cells,zd2 (fun i=>some (i*esz,esz)) z (zhL ps vs)=some cells/\K (.agg cells.toArray)
 | _=>False
def zb9 (z:List Value):Nat->List Value
 | 0=>[]
 | n+1=>z++zb9 z n
def isN (op:Op):Bool :=
 match op with
 | .move _ | .assign _ | .pick .. | .binOp .. | .unOp .. | .field .. | .index .. | .fieldAddr .. | .indexAddr .. | .slice .. | .extract .. | .makeFunc .. | .nilCheck _ | .build .. => true
 | _=>false
def zpo (S:Sig) (E:Env) (op:Op) (w:Wd) (K:Value->Prop):Prop :=
 match op with
 | .move x=>z7 E x K
 | .assign x=>z7 E x K
 | .pick c a b=>z7 E c fun vc=>z7 E a fun va=>z7 E b fun vb=>(match vc with
  | .bool t=>K (match t with | true=>va | false=>vb)
  | _=>False)
 | .binOp op T x y _=>z7 E x fun vx=>z7 E y fun vy=>zsf S.P op T x y vx vy K
 | .unOp op _ x=>z7 E x fun v=>(match op,v with
  | .not,.bool b=>K (.bool (!b))
  | .neg,.int k n=>Ar k (0-n) K
  | op,v=>znw S.P (Op.unary op v) K)
 | .convert s d x=>z7 E x fun v=>(match TT.get S.τ s,TT.get S.τ d,v with
  | some _,some { kind := .int k,.. },.int _ n=>Ar k n K
  | _,_,v=>ziH S.P w (convert s d v) K)
 | .field T x f=>z7 E x fun v=>zjl (TT.get S.τ T) f fun off sz agg=>(match v with
  | .agg cs=>zih off sz agg cs.toList K
  | _=>False)
 | .index T x i=>z7 E x fun vx=>z7 E i fun vi=>(match TT.get S.τ T,vx with
  | some { kind := .array n _ esz eagg,.. },.agg cs=>idx vi n fun j=>zih (j*esz) esz eagg cs.toList K
  | some { kind := .string,.. },.string s=>idx vi s.size fun j=>∃ u,s.data.toList[j]?=some u/\K (.int .u8 u.toNat)
  | _,_=>False)
 | .fieldAddr T x f=>z7 E x fun v=>zjl (TT.get S.τ T) f fun off sz _=>(match Nat.beq sz 0 with
  | true=>False
  | false=>(match v with
   | .pointer (some ⟨b,o,none⟩)=>K (.pointer (some ⟨b,o+off,none⟩))
   | _=>False))
 | .indexAddr T x i=>z7 E x fun vx=>z7 E i fun vi=>zei (TT.get S.τ T) vx vi K
 | .slice T x lo hi mx=>z7 E x fun vx=>zjM E lo fun l=>zjM E hi fun h=>(match mx with
  | none=>zlw (TT.get S.τ T) vx l h K
  | some _=>False)
 | .lookup T x i ok=>z7 E x fun vx=>z7 E i fun vi=>ziH S.P w (Instr.lookup T vx vi ok) K
 | .build T ps=>zgq E (ps.toList.map (·.2)) fun vs=>zqo (TT.get S.τ T) ps.toList vs K
 | .extract t i=>z7 E t fun v=>(match v with
  | .tuple vs=>(match vs.toList[i]? with
   | some u=>K u
   | none=>False)
  | _=>False)
 | .makeFunc fn first captured=>zgq E first.toList fun fs=>zgq E captured.toList fun cs=>K (.func fn fs.toArray cs.toArray)
 | .nilCheck x=>z7 E x fun v=>(match v with
  | .pointer (some a)=>K (.pointer (some a))
  | .func (.func f) a b=>K (.func (.func f) a b)
  | _=>False)
 | .load T a=>z7 E a fun v=>(match v with
  | .pointer (some p)=>(match TT.get S.τ T with
   | some { agg:=true,size:=sz,.. }=>∃ vs:List Value,vs.length=sz/\zI w p vs/\(p.block<w.heap.size)/\K (.agg vs.toArray)
   | some { agg:=false,.. }=>∃ u,w.cell? p=some u/\K u
   | none=>False)
  | _=>False)
 | .call c=>(match c.callee with
  | .builtin .len=>(match c.args.toList,c.argTypes.toList with
   | [x],[T]=>z7 E x fun v=>(match TT.get S.τ T,v with
    | some { kind := .slice _ _,.. },.slice _ n _=>K (.int .i64 n)
    | some { kind := .string,.. },.string s=>K (.int .i64 s.size)
    | some { kind := .array n _ _ _,.. },_=>K (.int .i64 n)
    | _,_=>False)
   | _,_=>False)
  | _=>False)
 | _=>False
section
variable {P:Program} {w:Wd}
theorem zbn (b o:Nat) (j:Nat):(⟨b,o,none⟩:Addr).add j=⟨b,o+j,none⟩:=by
 unfold Addr.add;split <;> simp_all
theorem zpL {op:BinOp} {k:IntKind} {a b:Int} {K:Value->Prop} (T:TypeId) (x y:Operand) (h1:op ≠ .shl) (h2:op ≠ .shr) (h:zrq op k a b K) :
  ∃ v,K v/\∀ w,(do eqGuard op T x y (.int k a) (.int k b);binOp op T (.int k a) (.int k b):Sem Value).run P w = .ok v w:=by
 have hg:∀ w,(eqGuard op T x y (.int k a) (.int k b)).run P w = .ok () w:=by
  intro w;unfold eqGuard;cases op <;> simp
 have hb:∀ v,(∀ w,(binOp op T (.int k a) (.int k b)).run P w = .ok v w)->∀ w,(do eqGuard op T x y (.int k a) (.int k b);binOp op T (.int k a) (.int k b):Sem Value).run P w = .ok v w:=by
  intro v hv w;rw [UO,hg w,KX,hv w]
 cases op <;> simp only [zrq] at h
 case lss=>exact⟨_,h,hb _ fun w=>by simp [binOp,Op.intCmp]⟩
 case leq=>exact⟨_,h,hb _ fun w=>by simp [binOp,Op.intCmp]⟩
 case gtr=>exact⟨_,h,hb _ fun w=>by simp [binOp,Op.intCmp]⟩
 case geq=>exact⟨_,h,hb _ fun w=>by simp [binOp,Op.intCmp]⟩
 case eql=>exact⟨_,h,hb _ fun w=>by simp [binOp,Op.intCmp];rfl⟩
 case neq=>exact⟨_,h,hb _ fun w=>by simp [binOp,Op.intCmp];rfl⟩
 case add=>obtain⟨r,e,hk⟩:=h;exact⟨_,hk,hb _ fun w=>by simp [binOp,Op.intArith,e]⟩
 case sub=>obtain⟨r,e,hk⟩:=h;exact⟨_,hk,hb _ fun w=>by simp [binOp,Op.intArith,e]⟩
 case mul=>obtain⟨r,e,hk⟩:=h;exact⟨_,hk,hb _ fun w=>by simp [binOp,Op.intArith,e]⟩
 case quo=>obtain⟨h0,r,e,hk⟩:=h;exact⟨_,hk,hb _ fun w=>by simp [binOp,Op.intDiv,e,h0]⟩
 case rem=>obtain⟨h0,r,e,hk⟩:=h;exact⟨_,hk,hb _ fun w=>by simp [binOp,Op.intDiv,e,h0]⟩
 case and=>obtain⟨r,e,hk⟩:=h;exact⟨_,hk,hb _ fun w=>by simp only [binOp,ne_eq,KY,Ge,Op.intBits,UP,e]⟩
 case or=>obtain⟨r,e,hk⟩:=h;exact⟨_,hk,hb _ fun w=>by simp only [binOp,ne_eq,KY,Ge,Op.intBits,UP,e]⟩
 case xor=>obtain⟨r,e,hk⟩:=h;exact⟨_,hk,hb _ fun w=>by simp only [binOp,ne_eq,KY,Ge,Op.intBits,UP,e]⟩
 case andNot=>obtain⟨r,e,hk⟩:=h;exact⟨_,hk,hb _ fun w=>by simp only [binOp,ne_eq,KY,Ge,Op.intBits,UP,e]⟩
theorem zqq {op:BinOp} {T:TypeId} {x y:Operand} {vx vy:Value} {K:Value->Prop} (h:zsf P op T x y vx vy K) :
  ∃ v,K v/\∀ w,(do eqGuard op T x y vx vy;binOp op T vx vy:Sem Value).run P w = .ok v w:=by
 unfold zsf at h
 split at h
 ·rename_i k a k' b
  split at h
  ·obtain⟨h0,r,e,hk⟩:=h;exact⟨_,hk,fun w=>by simp [eqGuard,binOp,Op.shift,e,Int.not_lt.2 h0]⟩
  ·obtain⟨h0,r,e,hk⟩:=h;exact⟨_,hk,fun w=>by simp [eqGuard,binOp,Op.shift,e,Int.not_lt.2 h0]⟩
  ·rename_i n1 n2
   split at h
   ·rename_i hk;have:k=k':=(by simpa [kEq] using hk);subst this;exact zpL T x y n1 n2 h
   ·exact h.elim
 ·obtain⟨v,hv,hk⟩:=h;exact⟨v,hk,hv⟩
theorem zig {off sz:Nat} {agg:Bool} {cs:Array Value} {K:Value->Prop} {t:TypeId} (h:zih off sz agg cs.toList K)
  (ha:((P.underlying t).map ze1).getD false=agg) (hs:P.cellsOf t=sz) (hn:zfV P t) :
  ∃ v,K v/\∀ w,(part t cs off).run P w = .ok v w:=by
 obtain⟨⟨i,hi⟩,d,hd⟩:=hn;have hagg:∀ w,(isAgg t).run P w = .ok agg w:=by
  intro w;rw [hd] at ha;simp only [QZ,Option.getD_some] at ha;simp only [isAgg,UO,Uo hd,KX];rw [<- ha]
  cases d <;> rfl
 have hsz:∀ w,(sizeOf t).run P w = .ok sz w:=by
  intro w;rw [<- hs];simp [sizeOf,typeInfo,hi,Program.cellsOf]
 unfold zih at h
 split at h
 ·refine⟨_,h,fun w=>?_⟩;simp only [part,UO,hagg w,KX,Gg,hsz w,UP];congr 2;apply Qb.1;simp [JS,List.extract_eq_take_drop]
 ·split at h
  ·rename_i v hv;refine⟨_,h,fun w=>?_⟩;have hv':cs[off]?=some v:=by simpa using hv
   simp only [part,UO,hagg w,KX,hv',Kr,Ge,UP]
  ·exact h.elim
theorem zaU {t:TypeId} {sz:Nat} (hn:zfV P t) (hs:P.cellsOf t=sz):∀ w,(sizeOf t).run P w = .ok sz w:=by
 intro w;obtain⟨⟨i,hi⟩,_⟩:=hn;rw [<- hs];simp [sizeOf,typeInfo,hi,Program.cellsOf]
theorem znt {o:Option Value} {top dflt:Nat} {code:BoundsCode} {g:Nat->Prop} (h:bnd o dflt top g) :
  ∃ j,g j/\j<=(match o with | none=>dflt | some _=>top)/\∀ w,(match o with | some v=>Instr.sliceBound v top code | none=>pure dflt:Sem Nat).run P w = .ok j w:=by
 unfold bnd at h
 split at h
 ·exact⟨dflt,h,UR _,fun w=>rfl⟩
 ·rename_i k i;obtain⟨j,rfl,hj,hg⟩:=h;refine⟨j,hg,hj,fun w=>?_⟩;have h1:(0:Int)<=(j:Int)/\(j:Int)<=(top:Int):=⟨by omega,by omega⟩;simp [Instr.sliceBound,asIntOf,h1]
 ·exact h.elim
theorem zbp {isSlice:Bool} {len cap:Nat} {lo hi:Option Value} {g:Nat->Nat->Prop} (h:bnd hi len cap fun h=>bnd lo 0 h fun l=>g h l) :
  ∃ l h,g h l/\∀ w,(Instr.sliceBounds isSlice len cap lo hi none).run P w = .ok (l,h,cap) w:=by
 obtain⟨hh,h2,_,r1⟩:=znt (P:=P) (code:=if isSlice then .sliceAcap else .sliceAlen) h;obtain⟨l,h3,_,r2⟩:=znt (P:=P) (code := .sliceB) h2;refine⟨l,hh,h3,fun w=>?_⟩;have e1:=r1 w;have e2:=r2 w;unfold Instr.sliceBounds
 cases hi <;> cases lo <;> simp_all
theorem zkg (off:Nat):∀ (vs:List Value) (j:Nat) (l:List Value),((vs.toArray.zipIdx j).foldl (fun cs (c,j)=>cs.setIfInBounds (off+j) c) l.toArray)=(zgF l (off+j) vs).toArray
 | [],j,l=>by rw [<- Ko];simp [zgF]
 | v::r,j,l=>by
  have ih:=zkg off r (j+1) (l.set (off+j) v);simp only [zgF];rw [<- Uz] at ih;rw [<- ih,<- Ko,<- Ko];simp
theorem zeQ {place:Nat->Option (Nat×Nat)}:∀ (parts:List (Nat×Value)) (cells out:List Value),zd2 place cells parts=some out->Instr.fill place cells.toArray parts=some out.toArray
 | [],cells,out,h=>by simp only [zd2,KW] at h;subst h;rfl
 | (i,v)::r,cells,out,h=>by
  simp only [zd2] at h
  split at h
  ·cases h
  ·rename_i off sz hp
   split at h
   ·rename_i hc;simp only [bAT,UX] at hc;have h1:=JQ hc.1;have ih:=zeQ r _ out h;have e:=zkg off v.cells.toList 0 cells;simp only [UH] at e;simp only [Instr.fill,hp,h1,ne_eq,KY,decide_false,Uq,KU,dE,gt_iff_lt];rw [Gh (by omega),<- ih];congr 1
   ·cases h
theorem zgo (z:List Value):∀ n,(zb9 z n).length=n*z.length
 | 0=>by simp [zb9]
 | n+1=>by simp only [zb9,lap,zgo z n,UQ];omega
theorem zjH (z:List Value) (hz:0<z.length):∀ (n i:Nat),i<n*z.length->(zb9 z n)[i]?=z[i%z.length]?
 | 0,i,h=>by omega
 | n+1,i,h=>by
  simp only [zb9,List.getElem?_append]
  split
  ·rename_i hi;rw [Qz hi]
  ·rename_i hi;rw [UQ] at h;rw [zjH z hz n (i-z.length) (by omega)];rw [show i%z.length=(i-z.length)%z.length from Nat.mod_eq_sub_mod (by omega)]
theorem zms (z:List Value) (hz:0<z.length) (n:Nat):((Array.range (n*z.length)).map (z.toArray[· % z.toArray.size]!))=(zb9 z n).toArray:=by
 apply Array.ext
 ·simp [zgo]
 ·intro i h1 h2;have h1':i<n*z.length:=by simpa using h1
  have hm:i%z.length<z.length:=UZ _ hz;have:=zjH z hz n i h1';rw [gE hm] at this;simp only [Array.getElem_map,Array.getElem_range,KU,List.getElem_toArray];have h3:(zb9 z n)[i]?=some (zb9 z n)[i]:=gE (by simpa using h2);rw [h3] at this;simp only [KW] at this;rw [this,getElem!_pos _ _ (by simpa using hm)];rfl
end
theorem zcV {w w2:Wd} (hb:Bw w w2) {p:Addr} {u:Value} (h:w.cell? p=some u):w2.cell? p=some u :=
 (hb.cell (Jz w p h)).trans h
theorem zeM {vi:Value} {n:Nat} {g:Nat->Prop} (h:idx vi n g):∃ k j,vi = .int k (j:Nat)/\j<n/\g j:=by
 unfold idx at h
 split at h
 ·rename_i k i;obtain⟨j,rfl,hj,hg⟩:=h;exact⟨k,j,rfl,hj,hg⟩
 ·exact h.elim
theorem zfI {P:Program} {w:Wd} {T:Nat} {i:TI} (ht:TIok P T i) (ha:i.agg=true) {p:Addr} {vs:List Value} (hl:vs.length=i.size) (hc:zI w p vs) :
  (loadVar T p).run P w = .ok (.agg vs.toArray) w:=by
 obtain⟨⟨inf,hi,hs,_,_⟩,d,hd,hda,_⟩:=ht;have hagg:(isAgg T).run P w = .ok true w:=by
  simp only [isAgg,UO,Uo hd,KX];rw [<- ha,<- hda];cases d <;> rfl
 have hsz:(sizeOf T).run P w = .ok vs.length w:=by
  rw [hl,<- hs];simp [sizeOf,typeInfo,hi]
 have hld:=run_loadCells_list (P:=P) w p vs hc;simp only [loadVar,UO,hagg,KX,Gg,hsz,hld,UP]
theorem zfH {P:Program} {w:Wd} {T:Nat} {i:TI} (ht:TIok P T i) (ha:i.agg=false) {p:Addr} {u:Value} (hc:w.cell? p=some u) :
  (loadVar T p).run P w = .ok u w:=by
 obtain⟨_,d,hd,hda,_⟩:=ht;have hagg:(isAgg T).run P w = .ok false w:=by
  simp only [isAgg,UO,Uo hd,KX];rw [<- ha,<- hda];cases d <;> rfl
 simp only [loadVar,UO,hagg,KX,Kr,Ge,run_load,hc]
theorem zr {w w2:Wd} (hb:Bw w w2) {p:Addr} {vs:List Value} (h:zI w p vs):zI w2 p vs :=
 fun i v hv=>zcV hb (h i v hv)
def ztN (S:Sig) (E:Env) (o:Oper) (w:Wd) (v:Value):Prop :=
 ∀ a,Agrees S a E->∀ w2,(isN o.op=true\/Bw w w2)->(execOp a.eval o).run S.P w2 = .ok (.value v) w2
theorem zhj {S:Sig} (hS:SigOk S) {T:Nat} {vx vi:Value} {K:Value->Prop} (h:zei (TT.get S.τ T) vx vi K) :
  ∃ v,K v/\∀ w,(Instr.indexAt T vx vi).run S.P w = .ok v w:=by
 unfold zei at h
 split at h
 ·rename_i e esz _ _ _ _ ht;obtain⟨_,d,hd,_,hk⟩:=hS.ty _ _ ht;obtain⟨rfl,he,hn⟩:=hk
  split at h
  ·rename_i b o len cap;obtain⟨k,j,rfl,hj,hg⟩:=zeM h;refine⟨_,hg,fun w=>?_⟩;simp [Instr.indexAt,asIntOf,Uo hd,zaU hn he,hj,zbn]
  ·exact h.elim
 ·rename_i n e esz eagg _ _ _ _ ht;obtain⟨_,d,hd,_,hk⟩:=hS.ty _ _ ht;obtain⟨rfl,he,_,hn⟩:=hk
  split at h
  ·rename_i b o;obtain⟨k,j,rfl,hj,hg⟩:=zeM h;refine⟨_,hg,fun w=>?_⟩;simp [Instr.indexAt,asIntOf,Uo hd,zaU hn he,hj,zbn,Instr.sureAddr]
  ·exact h.elim
 ·exact h.elim
theorem zlv {S:Sig} (hS:SigOk S) {T:Nat} {vx:Value} {lo hi:Option Value} {K:Value->Prop} (h:zlw (TT.get S.τ T) vx lo hi K) :
  ∃ v,K v/\∀ w,(Instr.sliceAt T vx lo hi none).run S.P w = .ok v w:=by
 unfold zlw at h
 split at h
 ·rename_i e esz _ _ _ _ ht;obtain⟨_,d,hd,_,hk⟩:=hS.ty _ _ ht;obtain⟨rfl,he,hn⟩:=hk
  split at h
  ·rename_i base len cap;obtain⟨l,hh,hg,hr⟩:=zbp (P:=S.P) (isSlice:=true) h;refine⟨_,hg,fun w=>?_⟩;simp only [Instr.sliceAt,UO,Uo hd,KX,Instr.slice,hr w,zaU hn he w,UP,ji]
  ·exact h.elim
 ·rename_i n e esz eagg _ _ _ _ ht;obtain⟨_,d,hd,_,hk⟩:=hS.ty _ _ ht;obtain⟨rfl,he,_,hn⟩:=hk
  split at h
  ·rename_i a;obtain⟨l,hh,hg,hr⟩:=zbp (P:=S.P) (isSlice:=false) h;refine⟨_,hg,fun w=>?_⟩;simp only [Instr.sliceAt,UO,Uo hd,KX,hr w,zaU hn he w,UP,Instr.sureAddr,ji]
   split <;> simp_all
  ·exact h.elim
 ·rename_i _ _ _ _ ht;obtain⟨_,d,hd,_,hk⟩:=hS.ty _ _ ht;obtain rfl:=hk
  split at h
  ·rename_i s;obtain⟨l,hh,hg,hr⟩:=zbp (P:=S.P) (isSlice:=false) h;refine⟨_,hg,fun w=>?_⟩;simp only [Instr.sliceAt,UO,Uo hd,KX,Instr.slice,hr w,UP,Option.isSome_none,Kr,Ge]
  ·exact h.elim
 ·exact h.elim
theorem zfP {S:Sig} (hS:SigOk S) {T f:Nat} {g:Nat->Nat->Bool->Prop} (h:zjl (TT.get S.τ T) f g) :
  ∃ (F:Array Field) (fd:Field),S.P.underlying T=some (.struct F)/\F[f]?=some fd/\g fd.offset (S.P.cellsOf fd.type) (((S.P.underlying fd.type).map ze1).getD false)/\zfV S.P fd.type:=by
 unfold zjl at h
 split at h
 ·rename_i fs _ _ _ _ ht;obtain⟨_,d,hd,_,hk⟩:=hS.ty _ _ ht;obtain⟨F,rfl,rfl,hn⟩:=hk
  split at h
  ·rename_i off sz agg hf;rw [KR] at hf
   cases hF:F.toList[f]? with
   | none=>rw [hF] at hf;simp at hf
   | some fd =>
    rw [hF] at hf;simp only [QZ,KW,UB] at hf;obtain⟨rfl,rfl,rfl⟩:=hf;exact⟨F,fd,hd,by simpa using hF,h,hn fd (JY hF)⟩
  ·exact h.elim
 ·exact h.elim
theorem zfD {S:Sig} (hS:SigOk S) {E:Env} {o:Oper} {w:Wd} {K:Value->Prop} (h:zpo S E o.op w K):∃ v,K v/\ztN S E o w v:=by
 obtain⟨dst,op,type,pos,after,guard⟩:=o
 cases op <;> simp only [zpo] at h
 case move x =>
  obtain⟨v,hv,hk⟩:=zp h;exact⟨v,hk,fun a ha w2 _=>by simp [execOp,ha.eval hv]⟩
 case assign x =>
  obtain⟨v,hv,hk⟩:=zp h;exact⟨v,hk,fun a ha w2 _=>by simp [execOp,ha.eval hv]⟩
 case pick c x y =>
  replace h:=zp h;obtain⟨vc,hc,h⟩:=h;replace h:=zp h;obtain⟨va,hx,h⟩:=h;replace h:=zp h;obtain⟨vb,hy,h⟩:=h
  split at h
  ·rename_i t;refine⟨_,h,fun a ha w2 _=>?_⟩;simp only [execOp,ha.eval hc,ha.eval hx,ha.eval hy,asBool,UO,UP,KX]
   cases t <;> rfl
  ·exact h.elim
 case binOp op T x y yt =>
  replace h:=zp h;obtain⟨vx,hx,h⟩:=h;replace h:=zp h;obtain⟨vy,hy,h⟩:=h;obtain⟨v,hk,hr⟩:=zqq h;refine⟨v,hk,fun a ha w2 _=>?_⟩;simp only [execOp,ha.eval hx,ha.eval hy];rw [UO,hr w2];rfl
 case unOp op T x =>
  replace h:=zp h;obtain⟨v,hv,h⟩:=h
  split at h
  ·exact⟨_,h,fun a ha w2 _=>by simp [execOp,ha.eval hv,Op.unary]⟩
  ·obtain⟨r,e,hk⟩:=h;exact⟨_,hk,fun a ha w2 _=>by simp only [Int.zero_sub] at e;simp [execOp,ha.eval hv,Op.unary,Op.intArith,e]⟩
  ·obtain⟨u,hu,hk⟩:=h;exact⟨u,hk,fun a ha w2 _=>by simp only [execOp,ha.eval hv];rw [UO,hu w2];rfl⟩
 case convert s d x =>
  replace h:=zp h;obtain⟨v,hv,h⟩:=h
  split at h
  ·rename_i hs hd;obtain⟨_,ds,hds,_⟩:=hS.ty _ _ hs;obtain⟨_,dd,hdd,_,hk⟩:=hS.ty _ _ hd;obtain rfl:=hk;obtain⟨r,e,hk⟩:=h;refine⟨_,hk,fun a ha w2 _=>?_⟩;simp only [execOp,ha.eval hv,UO,convert,Uo hds,Uo hdd,KX,Conv.intToInt,UP,e]
  ·obtain⟨u,hu,hk⟩:=h;exact⟨u,hk,fun a ha w2 hb=>by simp only [execOp,ha.eval hv];rw [UO,hu w2 (hb.resolve_left (by simp [isN]))];rfl⟩
 case field T x f =>
  replace h:=zp h;obtain⟨v,hv,h⟩:=h;obtain⟨F,fd,hu,hf,h,hn⟩:=zfP hS h
  split at h
  ·rename_i cs;obtain⟨v',hk,hr⟩:=zig h rfl rfl hn;refine⟨v',hk,fun a ha w2 _=>?_⟩;simp only [execOp,ha.eval hv,UO,Instr.field,Uo hu,KX,hf,asAgg,UP,hr w2]
  ·exact h.elim
 case index T x i =>
  replace h:=zp h;obtain⟨vx,hx,h⟩:=h;replace h:=zp h;obtain⟨vi,hi,h⟩:=h
  split at h
  ·rename_i n e esz eagg _ _ _ _ cs ht;obtain⟨_,d,hd,_,hk⟩:=hS.ty _ _ ht;obtain⟨rfl,he,hag,hn⟩:=hk;obtain⟨k,j,rfl,hj,hg⟩:=zeM h;obtain⟨v',hk,hr⟩:=zig hg hag he hn;refine⟨v',hk,fun a ha w2 _=>?_⟩;have h1:(0:Int)<=(j:Int)/\(j:Int)<(n:Int):=⟨by omega,by omega⟩;simp only [execOp,ha.eval hx,ha.eval hi,UO,Instr.index,asIntOf,UP,Uo hd,KX,h1,and_self,Gg,zaU hn he,KI,hr w2]
  ·rename_i s ht;obtain⟨_,d,hd,_,hk⟩:=hS.ty _ _ ht;obtain rfl:=hk;obtain⟨k,j,rfl,hj,u,hu,hg⟩:=zeM h;refine⟨_,hg,fun a ha w2 _=>?_⟩;have hu':s[j]?=some u:=by
    have h2:s.data[j]?=some u:=(by simpa using hu);obtain⟨hlt,e⟩:=Jj.1 h2;rw [getElem?_pos s j hj];exact Gd some e
   simp [execOp,ha.eval hx,ha.eval hi,Instr.index,asIntOf,Uo hd,hu']
  ·exact h.elim
 case fieldAddr T x f =>
  replace h:=zp h;obtain⟨v,hv,h⟩:=h;obtain⟨F,fd,hu,hf,h,hn⟩:=zfP hS h
  split at h
  ·exact h.elim
  ·rename_i hz;have hz':S.P.cellsOf fd.type≠0:=fun e=>by rw [e] at hz;simp at hz
   split at h
   ·rename_i b o;refine⟨_,h,fun a ha w2 _=>?_⟩;simp only [execOp,ha.eval hv,UO,Instr.fieldAt,Uo hu,KX,hf,UP,Instr.sureAddr,fieldPlace,zaU hn rfl w2,hz',Ge,zbn]
   ·exact h.elim
 case indexAddr T x i =>
  replace h:=zp h;obtain⟨vx,hx,h⟩:=h;replace h:=zp h;obtain⟨vi,hi,h⟩:=h;obtain⟨v,hk,hr⟩:=zhj hS h;exact⟨v,hk,fun a ha w2 _=>by simp only [execOp,ha.eval hx,ha.eval hi];rw [UO,hr w2];rfl⟩
 case slice T x lo hi mx =>
  replace h:=zp h;obtain⟨vx,hx,h⟩:=h;have oe:∀ {o:Option Operand} {f:Option Value->Prop},zjM E o f->∃ ov,f ov/\∀ a,Agrees S a E->o.map a.eval=ov:=by
   intro o f h
   cases o with
   | none=>exact⟨none,h,fun _ _=>rfl⟩
   | some x=>obtain⟨v,hv,hf⟩:=zp h;exact⟨some v,hf,fun a ha=>by simp [ha.eval hv]⟩
  obtain⟨l,h,hl⟩:=oe h;obtain⟨hh,h,hhh⟩:=oe h
  split at h
  ·obtain⟨v,hk,hr⟩:=zlv hS h;exact⟨v,hk,fun a ha w2 _=>by simp only [execOp,ha.eval hx,hl a ha,hhh a ha,Option.map_none];rw [UO,hr w2];rfl⟩
  ·exact h.elim
 case lookup T x i ok =>
  replace h:=zp h;obtain⟨vx,hx,h⟩:=h;replace h:=zp h;obtain⟨vi,hi,u,hu,hk⟩:=h;exact⟨u,hk,fun a ha w2 hb=>by simp only [execOp,ha.eval hx,ha.eval hi];rw [UO,hu w2 (hb.resolve_left (by simp [isN]))];rfl⟩
 case build T ps =>
  obtain⟨vs,h,hvs⟩:=za6 (S:=S) h;have e:∀ a,Agrees S a E->(ps.map fun (i,x)=>(i,a.eval x)).toList=zhL ps.toList vs:=fun a ha=>by
   rw [<- hvs a ha];simp only [Qc,UD];generalize ps.toList=l
   induction l with
   | nil=>rfl
   | cons p r ih=>obtain⟨i,x⟩:=p;simp only [Ux,Function.comp_apply,zhL,ih]
  unfold zqo at h
  split at h
  ·rename_i fs _ _ _ z ht;obtain⟨⟨inf,hi,_,_,hzz⟩,d,hd,_,hk⟩:=hS.ty _ _ ht;obtain⟨F,rfl,rfl,hkn⟩:=hk;obtain⟨zv,hzv,hzc⟩:=hzz z rfl;obtain⟨cells,hf,hk⟩:=h;refine⟨_,hk,fun a ha w2 _=>?_⟩;have hzr:(zeroValue T).run S.P w2 = .ok zv w2:=by simp [zeroValue,typeInfo,hi,hzv]
   have hpl:(F.mapM fun f=>do pure (f.offset,<- sizeOf f.type):Sem (Array (Nat×Nat))).run S.P w2 = .ok (F.map fun f=>(f.offset,S.P.cellsOf f.type)) w2:=by
    rw [Array.mapM_eq_mapM_toList,Sem.run_map];have key:∀ l:List Field,(∀ f∈l,zfV S.P f.type)->(l.mapM fun f=>do pure (f.offset,<- sizeOf f.type):Sem (List (Nat×Nat))).run S.P w2 = .ok (l.map fun f=>(f.offset,S.P.cellsOf f.type)) w2:=by
     intro l
     induction l with
     | nil=>intro _;rfl
     | cons f r ih =>
      intro hl;simp only [Ui,UO,zaU (hl f Kx) rfl w2,KX,UP,ih (fun g hg=>hl g (JW _ hg)),Ux]
    rw [key F.toList hkn];simp only [KX];congr 1;rw [<- Qb];simp
   have hfl:=zeQ _ _ _ hf;have hplace:(fun i=>(F.map fun f=>(f.offset,S.P.cellsOf f.type))[i]?)=zi6 (F.toList.map fun f=>(f.offset,S.P.cellsOf f.type,((S.P.underlying f.type).map ze1).getD false)):=by
    funext i;simp only [zi6,KR,Array.getElem?_map,Array.getElem?_toList]
    cases F[i]? <;> rfl
   simp only [execOp,UO,Instr.build,hzr,KX,Uo hd,hpl];rw [hplace,e a ha];have hz2:zv.cells=z.toArray:=by rw [<- hzc]
   rw [hz2,hfl];rfl
  ·rename_i n e0 esz eagg _ _ _ z ht;obtain⟨⟨inf,hi,_,_,hzz⟩,d,hd,_,hk⟩:=hS.ty _ _ ht;obtain⟨rfl,he,_,hkn⟩:=hk;obtain⟨zv,hzv,hzc⟩:=hzz z rfl;obtain⟨cells,hf,hk⟩:=h;refine⟨_,hk,fun a ha w2 _=>?_⟩;have hzr:(zeroValue T).run S.P w2 = .ok zv w2:=by simp [zeroValue,typeInfo,hi,hzv]
   have hfl:=zeQ _ _ _ hf;simp only [execOp,UO,Instr.build,hzr,KX,Uo hd,zaU hkn he w2];rw [e a ha];have hz2:zv.cells=z.toArray:=by rw [<- hzc]
   rw [hz2,hfl];rfl
  ·exact h.elim
 case extract t i =>
  replace h:=zp h;obtain⟨v,hv,h⟩:=h
  split at h
  ·rename_i vs
   split at h
   ·rename_i u hu;refine⟨_,h,fun a ha w2 _=>?_⟩;have hu':vs[i]?=some u:=(by simpa using hu);simp [execOp,ha.eval hv,Instr.extract,hu']
   ·exact h.elim
  ·exact h.elim
 case makeFunc fn first captured =>
  obtain⟨fs,h,hf⟩:=za6 (S:=S) h;obtain⟨cs,h,hc⟩:=za6 (S:=S) h;refine⟨_,h,fun a ha w2 _=>?_⟩;have e1:first.map a.eval=fs.toArray:=by rw [<- hf a ha,<- Qc]
  have e2:captured.map a.eval=cs.toArray:=by rw [<- hc a ha,<- Qc]
  simp [execOp,Instr.makeFunc,e1,e2]
 case nilCheck x =>
  replace h:=zp h;obtain⟨v,hv,h⟩:=h
  split at h
  ·exact⟨_,h,fun a ha w2 _=>by simp [execOp,ha.eval hv]⟩
  ·exact⟨_,h,fun a ha w2 _=>by simp [execOp,ha.eval hv]⟩
  ·exact h.elim
 case load T x =>
  replace h:=zp h;obtain⟨v,hv,h⟩:=h
  split at h
  ·split at h
   ·rename_i sz _ _ ht;obtain⟨vs,hl,hc,_,hk⟩:=h;refine⟨_,hk,fun a ha w2 hb=>?_⟩;replace hb:=hb.resolve_left (by simp [isN]);simp only [execOp,ha.eval hv,UO,Instr.loadAt,Instr.sureAddr,UP,KX,zfI (hS.ty _ _ ht) rfl hl (zr hb hc)]
   ·rename_i _ _ _ _ ht;obtain⟨u,hc,hk⟩:=h;refine⟨_,hk,fun a ha w2 hb=>?_⟩;replace hb:=hb.resolve_left (by simp [isN]);simp only [execOp,ha.eval hv,UO,Instr.loadAt,Instr.sureAddr,UP,KX,zfH (hS.ty _ _ ht) rfl (zcV hb hc)]
   ·exact h.elim
  ·exact h.elim
 case call c =>
  obtain⟨callee,args,argTypes⟩:=c
  split at h
  ·rename_i hc;dsimp only at hc;subst hc
   split at h
   ·rename_i x T hx hT;have ex:args = #[x]:=(by rw [<- Qb];simpa using hx);have eT:argTypes = #[T]:=(by rw [<- Qb];simpa using hT);subst ex eT;replace h:=zp h;obtain⟨v,hv,h⟩:=h
    split at h
    ·rename_i e esz _ _ _ _ a n c ht;obtain⟨_,d,hd,_,hk⟩:=hS.ty _ _ ht;obtain⟨rfl,_⟩:=hk;exact⟨_,h,fun a ha w2 _=>by simp [execOp,resolve,invoke,builtin,Builtin.len_,ha.eval hv,Uo hd,goInt]⟩
    ·rename_i _ _ _ _ s ht;obtain⟨_,d,hd,_,hk⟩:=hS.ty _ _ ht;obtain rfl:=hk;exact⟨_,h,fun a ha w2 _=>by simp [execOp,resolve,invoke,builtin,Builtin.len_,ha.eval hv,Uo hd,goInt]⟩
    ·rename_i n e esz eagg _ _ _ _ ht;obtain⟨_,d,hd,_,hk⟩:=hS.ty _ _ ht;obtain⟨rfl,_⟩:=hk;refine⟨_,h,fun a ha w2 _=>?_⟩;simp [execOp,resolve,invoke,builtin,Builtin.len_,ha.eval hv,Uo hd,goInt]
    ·exact h.elim
   ·exact h.elim
  ·exact h.elim
def NN:Nat:=1000
def CallR (P:Program) (g:Nat) (args:Array Value) (w:Wd) (K:Value->Wd->Prop) (KP:List PanicEntry->Wd->Prop):Prop :=
 Calls P g args w fun e w'=>match e with
  | .returned v=>K v w'
  | .panicked ch=>KP ch w'
  | .outgrown=>False
theorem CallR.mk {P:Program} {g:Nat} {args:Array Value} {w:Wd} {K:Value->Wd->Prop} {KP:List PanicEntry->Wd->Prop} {R:Ending->Wd->Prop}
  (h:Calls P g args w R) (k:∀ e w',R e w'->∃ v,e = .returned v/\K v w'):CallR P g args w K KP :=
 h.mono fun e w' r=>by obtain⟨v,rfl,hk⟩:=k e w' r;exact hk
def YieldR (P:Program) (l:Nat) (args:Array Value) (w:Wd) (K:Value->Wd->Prop):Prop :=
 YieldAt (FR none) (NN-1) P l args w fun e w'=>match e with
  | .returned v=>K v w'
  | _=>False
def jP (S:Sig) (g:Nat):Bool:=Nat.ble S.lo g&&Nat.blt g S.hi&&zks g S.no
def znq (S:Sig) (vf:Value) (vs:List Value) (w:Wd) (K:Value->Wd->Prop) (KP:List PanicEntry->Wd->Prop):Prop :=
 match vf with
 | .func (.func g) first captured=>(match jP S g with
  | true=>CallR S.P g (first.toList++vs++captured.toList).toArray w K KP
  | false=>False)
 | .func (.yield l) first _=>YieldR S.P l (first.toList++vs).toArray w K
 | .func fn first captured=>∃ g args,(invoke (.fn fn captured) (first.toList++vs).toArray).run S.P w = .ok (.enter g args) w/\CallR S.P g args w K KP
 | _=>False
def zk9 (S:Sig) (b:Builtin) (argTypes:Array TypeId) (type:TypeId) (vs:List Value) (w:Wd) (K:Value->Wd->Prop) (KP:List PanicEntry->Wd->Prop):Prop :=
 match b with
 | .append=>SatR ((Builtin.append_ argTypes type vs.toArray).run S.P w) K
 | .copy=>SatR ((Builtin.copy_ argTypes type vs.toArray).run S.P w) K
 | .cap=>SatR ((Builtin.cap_ argTypes type vs.toArray).run S.P w) K
 | .len=>SatR ((Builtin.len_ argTypes type vs.toArray).run S.P w) K
 | .min=>SatR ((Builtin.min_ argTypes type vs.toArray).run S.P w) K
 | .max=>SatR ((Builtin.max_ argTypes type vs.toArray).run S.P w) K
 | .delete=>SatR ((Builtin.delete_ argTypes type vs.toArray).run S.P w) K
 | .clear=>SatR ((Builtin.clear_ argTypes type vs.toArray).run S.P w) K
 | .panic=>∃ v w',(Instr.panic (vs.toArray.getD 0 .nilIface)).run S.P w = .halt (.panic v) w'/\KP [{ v,recovered:=false }] w'
 | _=>False
def zrT (S:Sig) (E:Env) (o:Oper) (w:Wd) (K:Value->Wd->Prop) (KP:List PanicEntry->Wd->Prop):Prop :=
 match o.op with
 | .alloc T=>(match TT.get S.τ T with
  | some { zero:=some z,.. }=>K (.pointer (some ⟨w.heap.size,0,none⟩)) (w.alloc (.cells z.toArray T))
  | _=>False)
 | .box T x=>z7 E x fun v=>K (.pointer (some ⟨w.heap.size,0,none⟩)) (w.alloc (.cells v.cells T))
 | .buildSlice T n ps=>zgq E (ps.toList.map (·.2)) fun vs=>(match TT.get S.τ T with
  | some { kind := .slice e esz,.. }=>(match TT.get S.τ e with
   | some { zero:=some z,.. }=>(n*esz<=16777216/\0<esz/\z.length=esz)/\∃ cells:List Value,
     zd2 (fun i=>some (i*esz,esz)) (zb9 z n) (zhL ps.toList vs)=some cells /\
     K (.slice (some ⟨w.heap.size,0,none⟩) n n) (w.alloc (.cells cells.toArray e))
   | _=>False)
  | _=>False)
 | .store T a x=>z7 E a fun va=>z7 E x fun vx=>(match va with
  | .pointer (some p)=>SatR ((storeVar T p vx).run S.P w) fun _ w'=>K undef w'
  | _=>False)
 | .makeSlice T l c=>z7 E l fun vl=>z7 E c fun vc=>SatR ((Instr.makeSlice T vl vc).run S.P w) K
 | .makeMap T r=>zjM E r fun vr=>SatR ((Instr.makeMap T vr).run S.P w) K
 | .makeInterface T x=>z7 E x fun v=>SatR ((Instr.makeInterface T v).run S.P w) K
 | .mapUpdate T m k x=>z7 E m fun vm=>z7 E k fun vk=>z7 E x fun vx=>SatR ((Instr.mapUpdate T vm vk vx).run S.P w) fun _ w'=>K undef w'
 | .insert T m k x=>z7 E m fun vm=>z7 E k fun vk=>z7 E x fun vx=>SatR ((Instr.mapUpdate T vm vk vx).run S.P w) fun _ w'=>K undef w'
 | .mapEntry T m k=>z7 E m fun vm=>z7 E k fun vk=>SatR ((Instr.mapEntry T vm vk).run S.P w) K
 | .entryStore T m s x=>z7 E m fun vm=>z7 E s fun vs=>z7 E x fun vx=>SatR ((Instr.entryStore T vm vs vx).run S.P w) fun _ w'=>K undef w'
 | .range T x=>z7 E x fun v=>SatR ((Instr.range T v).run S.P w) K
 | .next it s=>z7 E it fun v=>SatR ((Instr.next v s o.type).run S.P w) K
 | .entry it=>z7 E it fun v=>SatR ((Instr.entry v).run S.P w) K
 | .typeAssert x T a ok=>z7 E x fun v=>SatR ((Instr.typeAssert v T a ok).run S.P w) K
 | .nilCheck x=>z7 E x fun v=>SatR ((execOp (fun _=>v) { o with op := .nilCheck (.tmp 0) }).run S.P w) fun nx w'=>(match nx with
  | .value u=>K u w'
  | _=>False)
 | .panic x=>z7 E x fun v=>∃ u w',(Instr.panic v).run S.P w = .halt (.panic u) w'/\KP [{ v:=u,recovered:=false }] w'
 | .call c=>zgq E c.args.toList fun vs=>(match c.callee with
  | .value f=>z7 E f fun vf=>znq S vf vs w K KP
  | .builtin b=>zk9 S b c.argTypes o.type vs w K KP
  | .invoke r m=>z7 E r fun vr=>∃ g args,(callMethod vr m vs.toArray).run S.P w = .ok (.enter g args) w/\CallR S.P g args w K KP)
 | _=>False
theorem zcU {P:Program} {r:Option Nat} {n g:Nat} {args:Array Value} {w:Wd} {R:Ending->Wd->Prop} (h:Calls P g args w R):CallsIn (FR r) n P g args w R:=by
 have h1:CallsIn Fence.wide n P g args w R:=callsIn_wide.2 h;exact⟨trivial,fun cs _=>h1.2 cs (room_wide _)⟩
theorem SatR.elim {α:Type} {r:Result α} {K:α->Wd->Prop} (h:SatR r K):∃ v w',r = .ok v w'/\K v w':=h
section
variable {S:Sig} {E:Env} {o:Oper} {w:Wd} {K:Value->Wd->Prop} {KP:List PanicEntry->Wd->Prop} {a:Act} {n:Nat}
 {next:Act->Wd->Prop} {Q:Exit->Act->Wd->Prop}
def UponE (S:Sig) (n:Nat) (o:Oper) (a:Act) (w:Wd) (next:Act->Wd->Prop) (Q:Exit->Act->Wd->Prop):Prop :=
 match (execOp a.eval o).run S.P w with
 | .ok (.value v) w'=>next (a.put o.dst v) w'
 | .ok .skip w'=>next (a.put o.dst undef) w'
 | .ok (.enter f args) w'=>CallsIn (FR S.r) (n-1) S.P f args w' fun
   | .returned v,w''=>next (a.put o.dst v) w''
   | .panicked chain,w''=>Q (.panic chain) a w''
   | .outgrown,_=>False
 | .ok (.round l f tmps assign body) w'=>RoundIn (FR S.r) (n-1) S.P l f tmps assign body w' fun
   | .returned v,w''=>next (a.put o.dst v) w''
   | .panicked chain,w''=>Q (.panic chain) a w''
   | .outgrown,_=>False
 | .halt (.panic v) w'=>Q (.panic [{ v,recovered:=false }]) a w'
 | _=>False
theorem UponE.wpIn (hd:∀ c,o.op ≠ .defer c) (h:UponE S n o a w next Q):o.wpIn (FR S.r) n S.P a w next Q:=by
 refine⟨fun _ _=>trivial,?_⟩;rw [Oper.semAt_eq _ _ _ hd];unfold UponE at h
 split at h
 case h_1 hr=>rw [hr];exact h
 case h_2 hr=>rw [hr];exact h
 case h_3 hr =>
  rw [hr,Oper.uponIn_enter];exact⟨fun h=>by simp [FR] at h,h.mono fun e w'' he=>by cases e <;> first | exact he | exact he.elim⟩
 case h_4 hr =>
  rw [hr,Oper.uponIn_round];exact⟨fun h=>by simp [FR] at h,h.mono fun e w'' he=>by cases e <;> first | exact he | exact he.elim⟩
 case h_5 hr=>rw [hr];exact h
 case h_6=>exact h.elim
theorem qr {v:Value} {w':Wd} (_hd:∀ c,o.op ≠ .defer c) (hr:(execOp a.eval o).run S.P w = .ok (.value v) w') (hk:next (a.put o.dst v) w') :
  UponE S n o a w next Q:=by unfold UponE;rw [hr];exact hk
theorem zcE {w':Wd} (_hd:∀ c,o.op ≠ .defer c) (hr:(execOp a.eval o).run S.P w = .ok .skip w') (hk:next (a.put o.dst undef) w') :
  UponE S n o a w next Q:=by unfold UponE;rw [hr];exact hk
theorem zgp {v:Value} {w':Wd} (_hd:∀ c,o.op ≠ .defer c) (hr:(execOp a.eval o).run S.P w = .halt (.panic v) w') (hk:Q (.panic [{ v,recovered:=false }]) a w') :
  UponE S n o a w next Q:=by unfold UponE;rw [hr];exact hk
theorem zd4 {g:Nat} {args:Array Value} {w':Wd} (_hd:∀ c,o.op ≠ .defer c) (hr:(execOp a.eval o).run S.P w = .ok (.enter g args) w') (hc:CallR S.P g args w' K KP)
  (hn:∀ v w',K v w'->next (a.put o.dst v) w') (hp:∀ ch w',KP ch w'->Q (.panic ch) a w') :
  UponE S n o a w next Q:=by
 unfold UponE;rw [hr];refine zcU (hc.mono fun e w'' he=>?_)
 cases e with
 | returned v=>exact hn _ _ he
 | panicked ch=>exact hp _ _ he
 | outgrown=>exact he.elim
theorem zb0 {P:Program} {r r':Option Nat} {n n' l g:Nat} {tmps:Array Value} {assign body:Code} {w:Wd} {R:Ending->Wd->Prop} (h:RoundIn (FR r) n P l g tmps assign body w R) :
  RoundIn (FR r') n' P l g tmps assign body w R :=
 ⟨trivial,fun c cs _=>h.2 c cs (fun d hd=>by simp [FR] at hd)⟩
theorem zel (hS:SigOk S) (h:zrT S E o w K KP) (ha:Agrees S a E)
  (hn:∀ v w',K v w'->next (a.put o.dst v) w') (hp:∀ ch w',KP ch w'->Q (.panic ch) a w'):UponE S n o a w next Q:=by
 obtain⟨dst,op,type,pos,after,guard⟩:=o;have oe:∀ {o:Option Operand} {f:Option Value->Prop},zjM E o f->∃ ov,f ov/\o.map a.eval=ov:=by
  intro o f h
  cases o with
  | none=>exact⟨none,h,rfl⟩
  | some x=>obtain⟨v,hv,hf⟩:=zp h;exact⟨some v,hf,by simp [ha.eval hv]⟩
 cases op <;> simp only [zrT] at h
 case alloc T =>
  split at h
  ·rename_i z ht;obtain⟨⟨inf,hi,_,_,hzz⟩,_⟩:=hS.ty _ _ ht;obtain⟨v,hz,hc⟩:=hzz z rfl;refine qr (fun c=>by simp) ?_ (hn _ _ h);have hzv:(zeroValue T).run S.P w = .ok v w:=by simp [zeroValue,typeInfo,hi,hz]
   have e:v.cells=z.toArray:=by rw [<- hc]
   simp [execOp,Instr.alloc,hzv,newVar,newRow,newObj,Sem.run,e]
  ·exact h.elim
 case box T x =>
  obtain⟨v,hv,h'⟩:=zp h;refine qr (fun c=>by simp) ?_ (hn _ _ h');simp [execOp,Instr.box,ha.eval hv,newVar,newRow,newObj,Sem.run]
 case buildSlice T k ps =>
  obtain⟨vs,h',hvs⟩:=za6 (S:=S) h;have e:(ps.map fun (i,x)=>(i,a.eval x)).toList=zhL ps.toList vs:=by
   rw [<- hvs a ha];simp only [Qc,UD];generalize ps.toList=l
   induction l with
   | nil=>rfl
   | cons p r ih=>obtain⟨i,x⟩:=p;simp only [Ux,Function.comp_apply,zhL,ih]
  split at h'
  ·rename_i e1 esz _ _ _ _ ht
   split at h'
   ·rename_i z hte;obtain⟨_,d,hd,_,hk⟩:=hS.ty _ _ ht;obtain⟨rfl,he,hkn⟩:=hk;obtain⟨⟨inf,hi,_,_,hzz⟩,_⟩:=hS.ty _ _ hte;obtain⟨v,hz,hc⟩:=hzz z rfl;obtain⟨⟨hle,hpos,hlen⟩,cells,hf,hk⟩:=h';have hf:=zeQ _ _ _ hf;subst hlen;rw [<- zms z hpos k] at hf;refine qr (fun c=>by simp) ?_ (hn _ _ hk);have hzv:∀ w,(zeroValue e1).run S.P w = .ok v w:=(by intro w;simp [zeroValue,typeInfo,hi,hz]);have ec:v.cells=z.toArray:=(by rw [<- hc]);have hle':¬ (k*z.length > 2^24):=(by omega);simp only [execOp,Instr.buildSlice,UO,Uo hd,KX,zaU hkn he w,hle',Ge];by_cases h0:k*z.length=0
    ·rw [e];simp only [h0,Gg,UO,UP,KX];rw [h0] at hf;have e0:(Array.map (fun x=>(#[]:Array Value)[x%(#[]:Array Value).size]!) (Array.range 0))=(Array.map (fun x=>z.toArray[x%z.toArray.size]!) (Array.range 0)):=(by simp);rw [e0,hf];simp [newRow,newObj,Sem.run]
    ·rw [e];simp only [h0,Ge,UO,hzv,KX,UP,ec,hf];simp [newRow,newObj,Sem.run]
   ·exact h'.elim
  ·exact h'.elim
 case store T x y =>
  obtain⟨va,hva,h'⟩:=zp h;obtain⟨vx,hvx,h'⟩:=zp h'
  split at h'
  ·obtain⟨_,w',hr,hk⟩:=SatR.elim h';refine zcE (fun c=>by simp) ?_ (hn _ _ hk);simp only [execOp,ha.eval hva,ha.eval hvx,Instr.storeAt,Instr.sureAddr,UO,UP,KX,hr]
  ·exact h'.elim
 case makeSlice T l c =>
  obtain⟨vl,hl,h'⟩:=zp h;obtain⟨vc,hc,h'⟩:=zp h';obtain⟨v,w',hr,hk⟩:=SatR.elim h';refine qr (fun c=>by simp) ?_ (hn _ _ hk);simp only [execOp,ha.eval hl,ha.eval hc];rw [UO,hr];rfl
 case makeMap T r =>
  obtain⟨vr,h',hvr⟩:=oe h;obtain⟨v,w',hr,hk⟩:=SatR.elim h';refine qr (fun c=>by simp) ?_ (hn _ _ hk);simp only [execOp,hvr];rw [UO,hr];rfl
 case makeInterface T x =>
  obtain⟨vx,hx,h'⟩:=zp h;obtain⟨v,w',hr,hk⟩:=SatR.elim h';refine qr (fun c=>by simp) ?_ (hn _ _ hk);simp only [execOp,ha.eval hx];rw [UO,hr];rfl
 case mapUpdate T m k x =>
  obtain⟨vm,hm,h'⟩:=zp h;obtain⟨vk,hk,h'⟩:=zp h';obtain⟨vx,hx,h'⟩:=zp h';obtain⟨v,w',hr,hkk⟩:=SatR.elim h';refine zcE (fun c=>by simp) ?_ (hn _ _ hkk);simp only [execOp,ha.eval hm,ha.eval hk,ha.eval hx];rw [UO,hr];rfl
 case insert T m k x =>
  obtain⟨vm,hm,h'⟩:=zp h;obtain⟨vk,hk,h'⟩:=zp h';obtain⟨vx,hx,h'⟩:=zp h';obtain⟨v,w',hr,hkk⟩:=SatR.elim h';refine zcE (fun c=>by simp) ?_ (hn _ _ hkk);simp only [execOp,ha.eval hm,ha.eval hk,ha.eval hx];rw [UO,hr];rfl
 case mapEntry T m k =>
  obtain⟨vm,hm,h'⟩:=zp h;obtain⟨vk,hk,h'⟩:=zp h';obtain⟨v,w',hr,hkk⟩:=SatR.elim h';refine qr (fun c=>by simp) ?_ (hn _ _ hkk);simp only [execOp,ha.eval hm,ha.eval hk];rw [UO,hr];rfl
 case entryStore T m k x =>
  obtain⟨vm,hm,h'⟩:=zp h;obtain⟨vk,hk,h'⟩:=zp h';obtain⟨vx,hx,h'⟩:=zp h';obtain⟨v,w',hr,hkk⟩:=SatR.elim h';refine zcE (fun c=>by simp) ?_ (hn _ _ hkk);simp only [execOp,ha.eval hm,ha.eval hk,ha.eval hx];rw [UO,hr];rfl
 case range T x =>
  obtain⟨vx,hx,h'⟩:=zp h;obtain⟨v,w',hr,hk⟩:=SatR.elim h';refine qr (fun c=>by simp) ?_ (hn _ _ hk);simp only [execOp,ha.eval hx];rw [UO,hr];rfl
 case next it s =>
  obtain⟨vx,hx,h'⟩:=zp h;obtain⟨v,w',hr,hk⟩:=SatR.elim h';refine qr (fun c=>by simp) ?_ (hn _ _ hk);simp only [execOp,ha.eval hx];rw [UO,hr];rfl
 case entry it =>
  obtain⟨vx,hx,h'⟩:=zp h;obtain⟨v,w',hr,hk⟩:=SatR.elim h';refine qr (fun c=>by simp) ?_ (hn _ _ hk);simp only [execOp,ha.eval hx];rw [UO,hr];rfl
 case typeAssert x T y ok =>
  obtain⟨vx,hx,h'⟩:=zp h;obtain⟨v,w',hr,hk⟩:=SatR.elim h';refine qr (fun c=>by simp) ?_ (hn _ _ hk);simp only [execOp,ha.eval hx];rw [UO,hr];rfl
 case nilCheck x =>
  obtain⟨vx,hx,h'⟩:=zp h;obtain⟨nx,w',hr,hk⟩:=SatR.elim h'
  split at hk
  ·refine qr (fun c=>by simp) ?_ (hn _ _ hk);simp only [execOp,ha.eval hx];simpa only [execOp] using hr
  ·exact hk.elim
 case panic x =>
  obtain⟨vx,hx,u,w',hr,hk⟩:=zp h;refine zgp (fun c=>by simp) ?_ (hp _ _ hk);simp only [execOp,ha.eval hx];rw [UO,hr];rfl
 case call c =>
  obtain⟨callee,args,argTypes⟩:=c;obtain⟨vs,h',hvs⟩:=za6 (S:=S) h;have ev:args.map a.eval=vs.toArray:=by rw [<- hvs a ha,<- Qc]
  dsimp only at h'
  split at h'
  ·rename_i f;obtain⟨vf,hf,h'⟩:=zp h';unfold znq at h'
   split at h'
   ·rename_i g first captured
    split at h'
    ·rename_i hok;simp only [jP,bAT,UX,UY] at hok;refine zd4 (fun c=>by simp) ?_ h' hn hp;have e2:first++vs.toArray++captured=(first.toList++vs++captured.toList).toArray:=by
      rw [<- Qb];simp
     simp only [execOp,resolve,ev,ha.eval hf,Deferred.ofValue,UO,UP,KX,invoke,e2];exact hS.call g hok.1.1 hok.1.2 hok.2 _ _
    ·exact h'.elim
   ·rename_i l first captured
    obtain⟨fn,tmps,assign,body,hy,hR⟩:=h';have e2:first++vs.toArray=(first.toList++vs).toArray:=by
     rw [<- Qb];simp
    have hr:(execOp a.eval ⟨dst,.call ⟨.value f,args,argTypes⟩,type,pos,after,guard⟩).run S.P w = .ok (.round l fn tmps assign body) w:=by
     simp only [execOp,resolve,ev,ha.eval hf,Deferred.ofValue,UO,UP,KX,invoke,e2];exact hy
    unfold UponE;rw [hr];refine zb0 (hR.mono fun e w'' he=>?_)
    cases e with
    | returned v=>exact hn _ _ he
    | panicked ch=>exact he.elim
    | outgrown=>exact he.elim
   ·rename_i fn first captured _ _
    obtain⟨g,args',hi,hc⟩:=h';refine zd4 (fun c=>by simp) ?_ hc hn hp;have e2:first++vs.toArray=(first.toList++vs).toArray:=by
     rw [<- Qb];simp
    simp only [execOp,resolve,ev,ha.eval hf,Deferred.ofValue,UO,UP,KX,e2];exact hi
   ·exact h'.elim
  ·rename_i b;unfold zk9 at h'
   split at h'
   case h_9 =>
    obtain⟨u,w',hr,hk⟩:=h';refine zgp (fun c=>by simp) ?_ (hp _ _ hk);simp only [execOp,resolve,ev,invoke,builtin,UO,UP,KX,hr,Result.andThen_halt]
   case h_10=>exact h'.elim
   all_goals
    obtain⟨v,w',hr,hk⟩:=SatR.elim h';refine qr (fun c=>by simp) ?_ (hn _ _ hk);simp only [execOp,resolve,ev,invoke,builtin,UO,UP,KX,hr]
  ·rename_i r m;obtain⟨vr,hvr,g,args',hi,hc⟩:=zp h';refine zd4 (fun c=>by simp) ?_ hc hn hp;have hx:(#[vr]++vs.toArray).extract 1 (#[vr]++vs.toArray).size=vs.toArray:=by
    rw [<- Qb];simp
   have h0:(#[vr]++vs.toArray)[0]?=some vr:=by simp
   simp only [execOp,resolve,ev,ha.eval hvr,UO,UP,KX,invoke,h0,hx];exact hi
end
def zef (τ : TT) (op : Op) : Bool :=
  match op with
  | .move _ | .assign _ | .pick .. | .binOp .. | .unOp .. | .convert .. | .field .. | .index .. | .fieldAddr .. | .indexAddr .. | .slice .. | .extract .. | .makeFunc .. | .nilCheck _ | .load .. | .lookup .. | .build .. => true
  | .call c => (match c.callee with
    | .builtin .len => (match c.argTypes.toList with
      | [T] => (match TT.get τ T with
        | some { kind := .map _ _, .. } => false
        | _ => true)
      | _ => true)
    | _ => false)
  | _ => false
def zhS (i : Nat) : List Nat → Bool
  | [] => false
  | k :: r => match Nat.beq k i with
    | true => true
    | false => zhS i r
def jM (op : Op) : Bool := match op with | .select .. | .defer .. | .go .. => false | _ => true
def PV (P : Program) (o : Oper) (a : Act) (w : Wd) (v : Value) : Prop := ∀ w2, (isN o.op = true ∨ Below w.heap.size w w2) → (execOp a.eval o).run P w2 = .ok (.value v) w2
def PQ (QP : List PanicEntry → Wd → Prop) : Exit → Act → Wd → Prop := fun ex _ w => match ex with
  | .panic ch => QP ch w
  | _ => False
def jA (S : Sig) (X : List Nat) (n : Nat) (QP : List PanicEntry → Wd → Prop) (ops : Array Oper) (i : Nat) (K : Act → Wd → Prop) (a : Act) (w : Wd) : Prop :=
  match ops[i]? with
  | none => K a w
  | some o => if Region.wanted o (yielded ops a.tmps) then
      (if zef S.τ o.op then ∃ v, PV S.P o a w v ∧ K (a.put o.dst v) w
       else UponE S n o a w (fun a' w' => (zhS i X = false → Below w.heap.size w w') ∧ K a' w') (PQ QP))
    else K (a.put o.dst undef) w
def zg8 (S : Sig) (X : List Nat) (n : Nat) (QP : List PanicEntry → Wd → Prop) (ops : Array Oper) (K : Act → Wd → Prop) : List Nat → Act → Wd → Prop
  | [], a, w => K a w
  | i :: r, a, w => jA S X n QP ops i (zg8 S X n QP ops K r) a w
section
variable {S : Sig} {X : List Nat} {n : Nat} {QP : List PanicEntry → Wd → Prop} {ops : Array Oper}
theorem zd5 {o : Oper} {a a' : Act} {w : Wd} {next next' : Act → Wd → Prop} (he : execOp a'.eval o = execOp a.eval o)
    (hn : ∀ u w', next (a'.put o.dst u) w' → next' (a.put o.dst u) w') (h : UponE S n o a' w next (PQ QP)) : UponE S n o a w next' (PQ QP) := by
  unfold UponE at *
  rw [he] at h
  split at h
  · exact hn _ _ h
  · exact hn _ _ h
  · exact CallsIn.mono h fun e w'' he => by cases e <;> first | exact hn _ _ he | exact he
  · exact RoundIn.mono h fun e w'' he => by cases e <;> first | exact hn _ _ he | exact he
  · exact h
  · exact h
theorem zd7 {i : Nat} {K K' : Act → Wd → Prop} {a : Act} {w : Wd} (h : ∀ a w, K a w → K' a w) (hh : jA S X n QP ops i K a w) : jA S X n QP ops i K' a w := by
  unfold jA at *
  split
  · rename_i ho; simp only [ho] at hh; exact h _ _ hh
  · rename_i o ho
    simp only [ho] at hh
    split
    · rename_i hw
      simp only [hw, Gg] at hh
      split
      · rename_i hp; simp only [hp, Gg] at hh; obtain ⟨v, h1, h2⟩ := hh; exact ⟨v, h1, h _ _ h2⟩
      · rename_i hp; simp only [hp, Kr, Ge] at hh; exact zd5 rfl (fun u w' hk => ⟨hk.1, h _ _ hk.2⟩) hh
    · rename_i hw; simp only [hw] at hh; exact h _ _ hh
structure Indep (S : Sig) (X : List Nat) (ops : Array Oper) (k i : Nat) : Prop where
  h : ∀ ok oi, ops[k]? = some ok → ops[i]? = some oi → ok.apart ops oi = true ∧ zef S.τ ok.op = true ∧ jM ok.op = true ∧ jM oi.op = true ∧ (zef S.τ oi.op = true ∨ zhS i X = false ∨ isN ok.op = true)
theorem zfj {op : Op} (h : jM op = true) : ∀ cs b, op ≠ .select cs b := fun cs b e => by subst e; simp [jM] at h
theorem zaN {op : Op} (h : jM op = true) : ∀ c, op ≠ .defer c := fun c e => by subst e; simp [jM] at h
theorem PV.below {P : Program} {o : Oper} {a : Act} {w w' : Wd} {v : Value} (h : PV P o a w v) (hb : isN o.op = true ∨ Below w.heap.size w w') : PV P o a w' v :=
  fun w2 h2 => h w2 (Or.elim hb (fun hb => .inl hb) fun hb => h2.imp id (fun h2 => hb.trans (h2.mono hb.size)))
theorem zd6 {k i : Nat} (hk : Indep S X ops k i) {K : Act → Wd → Prop} {a : Act} {w : Wd} (h : jA S X n QP ops k (jA S X n QP ops i K) a w) : jA S X n QP ops i (jA S X n QP ops k K) a w := by
  cases hok : ops[k]? with
  | none =>
    have e : ∀ K', jA S X n QP ops k K' = K' := fun K' => by funext a w; simp [jA, hok]
    rw [e] at h ⊢; exact h
  | some ok =>
    cases hoi : ops[i]? with
    | none =>
      have e : ∀ K', jA S X n QP ops i K' = K' := fun K' => by funext a w; simp [jA, hoi]
      rw [e] at h; rw [e]; exact h
    | some oi =>
      obtain ⟨hap, hp, hsk, hsi, hx⟩ := hk.h ok oi hok hoi
      obtain ⟨h1, h2, h3⟩ := Oper.apart_spec hap
      have core : ∀ v, ((Region.wanted ok (yielded ops a.tmps) = true ∧ PV S.P ok a w v) ∨ (Region.wanted ok (yielded ops a.tmps) = false ∧ v = undef)) →
          jA S X n QP ops i K (a.put ok.dst v) w → jA S X n QP ops i (jA S X n QP ops k K) a w := by
        intro v hv h
        have after : ∀ u w', (isN ok.op = true ∨ Below w.heap.size w w') → K ((a.put ok.dst v).put oi.dst u) w' → jA S X n QP ops k K (a.put oi.dst u) w' := by
          intro u w' hb hK
          unfold jA
          simp only [hok, hp, Gg]
          rw [wanted_put ok a oi.dst u h3]
          rw [Act.put_comm a v u h2] at hK
          rcases hv with ⟨hw, hpv⟩ | ⟨hw, rfl⟩
          · simp only [hw, Gg]
            refine ⟨v, fun w2 h2 => ?_, hK⟩
            rw [execOp_put ok (zfj hsk) a oi.dst u h3]
            exact (hpv.below hb) w2 h2
          · simp only [hw]; exact hK
        unfold jA at h ⊢
        simp only [hoi] at h ⊢
        rw [wanted_put oi a ok.dst v h1] at h
        split
        · rename_i hwi
          simp only [hwi, Gg] at h
          split
          · rename_i hpi
            simp only [hpi, Gg] at h
            obtain ⟨u, hu, hK⟩ := h
            refine ⟨u, fun w2 hb => ?_, after u w (.inr (UW _ _)) hK⟩
            have := hu w2 hb
            rwa [execOp_put oi (zfj hsi) a ok.dst v h1] at this
          · rename_i hpi
            simp only [hpi, Kr, Ge] at h
            exact zd5 (execOp_put oi (zfj hsi) a ok.dst v h1) (fun u w' hh => ⟨hh.1, after u w' ((hx.resolve_left hpi).elim (fun hm => .inr (hh.1 hm)) .inl) hh.2⟩) h
        · rename_i hwi
          simp only [hwi] at h
          exact after undef w (.inr (UW _ _)) h
      have h' := h
      unfold jA at h
      simp only [hok, hp, Gg] at h
      cases hw : Region.wanted ok (yielded ops a.tmps) with
      | true =>
        simp only [hw, Gg] at h
        obtain ⟨v, hv, hK⟩ := h
        exact core v (.inl ⟨hw, hv⟩) hK
      | false =>
        simp only [hw] at h
        exact core undef (.inr ⟨hw, rfl⟩) h
theorem zfJ {K : Act → Wd → Prop} {i : Nat} : ∀ (L : List Nat), L.Nodup → i ∈ L → (∀ k, [k, i].Sublist L → Indep S X ops k i) → ∀ (a : Act) (w : Wd), zg8 S X n QP ops K L a w →
    jA S X n QP ops i (zg8 S X n QP ops K (L.filter (· ≠ i))) a w
  | [], _, hi, _, _, _, _ => by simp at hi
  | k :: r, hn, hi, hind, a, w, h => by
    obtain ⟨hkr, hr⟩ := QQ.1 hn
    by_cases hki : k = i
    · subst hki
      have e : (k :: r).filter (· ≠ k) = r := by
        rw [Qk]
        simp only [ne_eq, KY, decide_false, Kr, Ge]
        exact List.filter_eq_self.2 fun x hx => by simp; rintro rfl; exact hkr hx
      rw [e]
      exact h
    · have hir : i ∈ r := by
        cases hi with
        | head => exact Gj rfl hki
        | tail _ h => exact h
      have e : (k :: r).filter (· ≠ i) = k :: r.filter (· ≠ i) := by
        rw [Qk]; simp [hki]
      rw [e]
      have hik : Indep S X ops k i := hind k (List.Sublist.cons_cons k (List.singleton_sublist.2 hir))
      have h2 : jA S X n QP ops k (jA S X n QP ops i (zg8 S X n QP ops K (r.filter (· ≠ i)))) a w :=
        zd7 (fun a w hh => zfJ r hr hir (fun k' hs => hind k' (hs.cons k)) a w hh) h
      exact zd6 hik h2
def zeq (ops : Array Oper) : Nat → Nat → Nat → Bool
  | 0, _, _ => false
  | f + 1, k, i => match ops[i]? with
    | some o => o.after.toList.any fun e => Region.binds .any e && (Nat.beq e.on k || (Nat.blt k e.on && zeq ops f k e.on))
    | none => false
theorem zcG {L : Array Bool} (hc : ∀ j o, L.getD j false = true → ops[j]? = some o → ∀ e ∈ o.after, Region.binds .any e = true → L.getD e.on false = true) :
    ∀ (f k i : Nat) (o : Oper), ops[i]? = some o → (∀ e ∈ o.after, Region.binds .any e = true → L.getD e.on false = true) → zeq ops f k i = true → L.getD k false = true
  | 0, _, _, _, _, _, h => by simp [zeq] at h
  | f + 1, k, i, o, ho, hl, h => by
    simp only [zeq, ho, Qh, Qe, QC, Array.mem_toList_iff] at h
    obtain ⟨e, he, hb, h⟩ := h
    rcases h with h | ⟨_, h⟩
    · have := JQ h
      subst this
      exact hl e he hb
    · cases hj : ops[e.on]? with
      | none => cases f <;> simp [zeq, hj] at h
      | some oj => exact zcG hc f k e.on oj hj (fun e' he' hb' => hc e.on oj (hl e he hb) hj e' he' hb') h
structure OrdOk (S : Sig) (X : List Nat) (ops : Array Oper) (L : List Nat) : Prop where
  nodup : L.Nodup
  mem : ∀ i, i ∈ L ↔ i < ops.size
  pair : ∀ k i, [k, i].Sublist L → (∃ f, zeq ops f k i = true) ∨ Indep S X ops k i
  topo : ∀ i o e, ops[i]? = some o → e ∈ o.after → Region.binds .any e = true → [e.on, i].Sublist L
theorem zkt {x y : Nat} (hne : x ≠ y) : ∀ {L : List Nat}, L.Nodup → [x, y].Sublist L → [y, x].Sublist L → False
  | [], _, h, _ => by cases h
  | z :: r, hn, h, h' => by
    obtain ⟨hz, hr⟩ := QQ.1 hn
    cases h with
    | cons _ h =>
      cases h' with
      | cons _ h' => exact zkt hne hr h h'
      | cons_cons _ h' => exact hz (h.subset (by simp))
    | cons_cons _ h =>
      cases h' with
      | cons _ h' => exact hz (h'.subset (by simp))
      | cons_cons _ h' => exact hne rfl
theorem zqS {o : Oper} {a : Act} {w : Wd} {next : Act → Wd → Prop} {Q : Exit → Act → Wd → Prop} (hQ : ∀ ch w, QP ch w → Q (.panic ch) a w) (h : UponE S n o a w next (PQ QP)) : UponE S n o a w next Q := by
  unfold UponE at *
  split at h
  · exact h
  · exact h
  · exact CallsIn.mono h fun e w'' he => by cases e <;> first | exact hQ _ _ he | exact he
  · exact RoundIn.mono h fun e w'' he => by cases e <;> first | exact hQ _ _ he | exact he
  · exact hQ _ _ h
  · exact h
theorem zca {Q : Exit → Act → Wd → Prop} {i : Nat} {o : Oper} {K K' : Act → Wd → Prop} {a : Act} {w : Wd} (hsel : jM o.op = true) (ho : ops[i]? = some o)
    (hQ : ∀ ch w, QP ch w → Q (.panic ch) a w) (hnext : ∀ u w, K (a.put o.dst u) w → K' (a.put o.dst u) w) (h2 : jA S X n QP ops i K a w) : wpOpIn (FR S.r) n S.P ops Q i K' a w := by
  unfold wpOpIn
  unfold jA at h2
  simp only [ho] at h2 ⊢
  split
  · rename_i hw
    simp only [hw, Gg] at h2
    split at h2
    · obtain ⟨v, hv, hK⟩ := h2
      exact (qr (S := S) (Q := Q) (zaN hsel) (hv w (.inr (UW _ _))) (hnext _ _ hK)).wpIn (zaN hsel)
    · have h3 : UponE S n o a w K' (PQ QP) := zd5 rfl (fun u w' hh => hnext _ _ hh.2) h2
      exact (zqS hQ h3).wpIn (zaN hsel)
  · rename_i hw
    simp only [hw] at h2
    exact ⟨fun _ _ => trivial, hnext _ _ h2⟩
theorem zfU {Q : Exit → Act → Wd → Prop} {I : Act → Prop} (hI : ∀ a dst v, I a → I (a.put dst v)) (hQ : ∀ ch a w, I a → QP ch w → Q (.panic ch) a w) (hS : ∀ o, o ∈ ops → jM o.op = true) {L0 : List Nat} (hO : OrdOk S X ops L0) :
    ∀ (m : Nat) (L : List Nat) (listed : Array Bool) (a : Act) (w : Wd), L.length = m → L.Sublist L0 → listed.size = ops.size → (∀ i, i ∈ L ↔ (i < ops.size ∧ listed.getD i false = false)) →
      (∀ j o, listed.getD j false = true → ops[j]? = some o → ∀ e ∈ o.after, Region.binds .any e = true → listed.getD e.on false = true) →
      I a → zg8 S X n QP ops (fun a w => Q .normal a w) L a w → wpAnyIn (FR S.r) n S.P .any ops Q m listed a w
  | 0, L, listed, a, w, hm, _, hsz, hmem, _, _, h => by
    have hL : L = [] := Je hm
    subst hL
    refine ⟨?_, h⟩
    rw [Jd]
    intro i hi
    obtain ⟨hl, o, ho, _⟩ := mem_ready.1 hi
    have hlt : i < ops.size := (Jj.1 ho).1
    have : i ∈ ([] : List Nat) := (hmem i).2 ⟨hlt, by
      have hls : i < listed.size := by omega
      simp [hls] at hl ⊢; exact hl⟩
    simp at this
  | m + 1, L, listed, a, w, hm, hsub, hsz, hmem, hcl, hia, h => by
    have hnd : L.Nodup := hO.nodup.sublist hsub
    have hget : ∀ i, i < ops.size → (listed.getD i true = false ↔ listed.getD i false = false) := fun i hi => by
      have hls : i < listed.size := by omega
      simp [hls]
    have hready : ∀ i, i ∈ Region.ready .any ops listed → i ∈ L := fun i hi => by
      obtain ⟨hl, o, ho, _⟩ := mem_ready.1 hi
      have hlt : i < ops.size := (Jj.1 ho).1
      exact (hmem i).2 ⟨hlt, (hget i hlt).1 hl⟩
    refine ⟨fun h0 => ?_, fun i hi => ?_⟩
    ·
      exfalso
      cases L with
      | nil => simp at hm
      | cons i r =>
        have hil := (hmem i).1 Kx
        have : i ∈ Region.ready .any ops listed := by
          refine mem_ready.2 ⟨(hget i hil.1).2 hil.2, ops[i], Jn hil.1, fun e he hb => ?_⟩
          have ht := hO.topo i _ e (Jn hil.1) he hb
          cases hle : listed.getD e.on false with
          | true => rfl
          | false =>
            exfalso
            have heo : e.on < ops.size := (hO.mem e.on).1 (ht.subset (by simp))
            have hel : e.on ∈ i :: r := (hmem e.on).2 ⟨heo, hle⟩
            have hne : e.on ≠ i := fun he => by
              have := hO.nodup.sublist ht
              simp [he] at this
            have hir : e.on ∈ r := by
              cases hel with
              | head => exact Gj rfl hne
              | tail _ h => exact h
            have h1 : [i, e.on].Sublist L0 := (List.Sublist.cons_cons i (List.singleton_sublist.2 hir)).trans hsub
            exact (zkt hne hO.nodup ht h1).elim
        rw [h0] at this
        simp at this
    · have hiL := hready i hi
      obtain ⟨hl, o, ho, hall⟩ := mem_ready.1 hi
      have hlt : i < ops.size := (Jj.1 ho).1
      have hind : ∀ k, [k, i].Sublist L → Indep S X ops k i := fun k hs => by
        rcases hO.pair k i (hs.trans hsub) with ⟨f, hf⟩ | hind
        · exfalso
          have hk : k ∈ L := hs.subset (by simp)
          have h1 := ((hmem k).1 hk).2
          have h2 := zcG hcl f k i o ho hall hf
          rw [h1] at h2; simp at h2
        · exact hind
      have h2 := zfJ L hnd hiL hind a w h
      have hnext : ∀ a w, I a → zg8 S X n QP ops (fun a w => Q .normal a w) (L.filter (· ≠ i)) a w → wpAnyIn (FR S.r) n S.P .any ops Q m (listed.setIfInBounds i true) a w := fun a w hia hh => by
        refine zfU hI hQ hS hO m _ _ a w ?_ (List.filter_sublist.trans hsub) (by simpa using hsz) ?_ ?_ hia hh
        · have : (L.filter (· ≠ i)) = L.erase i := by rw [hnd.erase_eq_filter]; exact KN fun x _ => by by_cases h : x = i <;> simp [h]
          rw [this, List.length_erase_of_mem hiL]; omega
        · intro j
          rw [QN, hmem j]
          by_cases hji : j = i
          · subst hji
            simp [hsz, hlt]
          · have hij : ¬ i = j := fun e => hji e.symm
            simp [hji, hij]
        · intro j oj hj hoj e he hb
          by_cases hji : j = i
          · subst hji
            rw [ho] at hoj; cases hoj
            have := hall e he hb
            by_cases hei : e.on = j
            · simp [hei, hsz, hlt]
            · have hei' : ¬ j = e.on := fun e => hei e.symm
              simpa [Jg, hei'] using this
          · have hij : ¬ i = j := fun e => hji e.symm
            have hj' : listed.getD j false = true := by simpa [Jg, hij] using hj
            have := hcl j oj hj' hoj e he hb
            by_cases hei : e.on = i
            · simp [hei, hsz, hlt]
            · have hei' : ¬ i = e.on := fun e => hei e.symm
              simpa [Jg, hei'] using this
      exact zca (hS o (JI ho)) ho (fun ch w => hQ ch a w hia) (fun u w => hnext _ w (hI _ _ _ hia)) h2
inductive OT where
  | nil
  | op (i : Nat) (t : OT)
  | alt (a b : OT)
def zcX (S : Sig) (X : List Nat) (n : Nat) (QP : List PanicEntry → Wd → Prop) (ops : Array Oper) (K : Act → Wd → Prop) : OT → Act → Wd → Prop
  | .nil, a, w => K a w
  | .op i t, a, w => jA S X n QP ops i (zcX S X n QP ops K t) a w
  | .alt x y, a, w => zcX S X n QP ops K x a w ∧ zcX S X n QP ops K y a w
def OT.first (ind : Nat → Nat → Bool) (i : Nat) : OT → Option OT
  | .nil => none
  | .op k t => if k = i then some t else if ind k i = true then (OT.first ind i t).map (.op k) else none
  | .alt x y => match OT.first ind i x with
    | some x' => some x'
    | none => OT.first ind i y
theorem zbX {K : Act → Wd → Prop} {i : Nat} {ind : Nat → Nat → Bool} (hind : ∀ k, ind k i = true → Indep S X ops k i) : ∀ (T T' : OT), OT.first ind i T = some T' → ∀ (a : Act) (w : Wd), zcX S X n QP ops K T a w →
    jA S X n QP ops i (zcX S X n QP ops K T') a w
  | .nil, _, h, _, _, _ => by simp [OT.first] at h
  | .op k t, T', h, a, w, hh => by
    simp only [OT.first] at h
    split at h
    · rename_i e
      subst e
      cases h
      exact hh
    · split at h
      · rename_i hk
        obtain ⟨t', ht', rfl⟩ := Option.map_eq_some_iff.1 h
        exact zd6 (hind k hk) (zd7 (fun a w hh => zbX hind t t' ht' a w hh) hh)
      · cases h
  | .alt x y, T', h, a, w, hh => by
    simp only [OT.first] at h
    split at h
    · rename_i u hx
      simp only [KW] at h
      subst h
      exact zbX hind x u hx a w hh.1
    · exact zbX hind y T' h a w hh.2
def zmc (ind : Nat → Nat → Bool) (ops : Array Oper) : Nat → Array Bool → OT → Bool
  | 0, listed, T => (Region.ready .any ops listed).isEmpty && (match T with | .nil => true | _ => false)
  | m + 1, listed, T => !(Region.ready .any ops listed).isEmpty && (Region.ready .any ops listed).all fun i =>
      match OT.first ind i T with
      | some T' => zmc ind ops m (listed.setIfInBounds i true) T'
      | none => false
theorem zfT {Q : Exit → Act → Wd → Prop} {I : Act → Prop} (hI : ∀ a dst v, I a → I (a.put dst v)) (hQ : ∀ ch a w, I a → QP ch w → Q (.panic ch) a w) (hS : ∀ o, o ∈ ops → jM o.op = true) {ind : Nat → Nat → Bool} (hind : ∀ k i, ind k i = true → Indep S X ops k i) :
    ∀ (m : Nat) (listed : Array Bool) (T : OT) (a : Act) (w : Wd), zmc ind ops m listed T = true →
      I a → zcX S X n QP ops (fun a w => Q .normal a w) T a w → wpAnyIn (FR S.r) n S.P .any ops Q m listed a w
  | 0, listed, T, a, w, hc, _, h => by
    simp only [zmc, Qe, Qo] at hc
    obtain ⟨h1, h2⟩ := hc
    split at h2
    · exact ⟨h1, h⟩
    · cases h2
  | m + 1, listed, T, a, w, hc, hia, h => by
    simp only [zmc, Qe, KG, Js, Qg] at hc
    refine ⟨fun h0 => Gj h0 hc.1, fun i hi => ?_⟩
    obtain ⟨_, o, ho, _⟩ := mem_ready.1 hi
    have hc' := hc.2 i hi
    split at hc'
    · rename_i T' hT'
      have h2 := zbX (fun k hk => hind k i hk) T T' hT' a w h
      have hnext : ∀ a w, I a → zcX S X n QP ops (fun a w => Q .normal a w) T' a w → wpAnyIn (FR S.r) n S.P .any ops Q m (listed.setIfInBounds i true) a w := fun a w hia hh =>
        zfT hI hQ hS hind m _ T' a w hc' hia hh
      exact zca (hS o (JI ho)) ho (fun ch w => hQ ch a w hia) (fun u w => hnext _ w (hI _ _ _ hia)) h2
    · cases hc'
end
def OT.firsts (ind : Nat → Nat → Bool) (i : Nat) : OT → List OT
  | .nil => []
  | .op k t => if k = i then [t] else if ind k i = true then (OT.firsts ind i t).map (.op k) else []
  | .alt x y => OT.firsts ind i x ++ OT.firsts ind i y
def zkZ (ind : Nat → Nat → Bool) (ops : Array Oper) : Nat → Array Bool → OT → Bool
  | 0, listed, T => (Region.ready .any ops listed).isEmpty && (match T with | .nil => true | _ => false)
  | m + 1, listed, T => !(Region.ready .any ops listed).isEmpty && (Region.ready .any ops listed).all fun i =>
      (OT.firsts ind i T).any fun T' => zkZ ind ops m (listed.setIfInBounds i true) T'
section
variable {S : Sig} {X : List Nat} {n : Nat} {QP : List PanicEntry → Wd → Prop} {ops : Array Oper}
theorem zbA {K : Act → Wd → Prop} {i : Nat} {ind : Nat → Nat → Bool} (hind : ∀ k, ind k i = true → Indep S X ops k i) : ∀ (T T' : OT), T' ∈ OT.firsts ind i T → ∀ (a : Act) (w : Wd), zcX S X n QP ops K T a w →
    jA S X n QP ops i (zcX S X n QP ops K T') a w
  | .nil, _, h, _, _, _ => by simp [OT.firsts] at h
  | .op k t, T', h, a, w, hh => by
    simp only [OT.firsts] at h
    split at h
    · rename_i e
      subst e
      rw [Ky] at h
      subst h
      exact hh
    · split at h
      · rename_i hk
        obtain ⟨t', ht', rfl⟩ := UF.1 h
        exact zd6 (hind k hk) (zd7 (fun a w hh => zbA hind t t' ht' a w hh) hh)
      · cases h
  | .alt x y, T', h, a, w, hh => by
    simp only [OT.firsts, QM] at h
    rcases h with h | h
    · exact zbA hind x T' h a w hh.1
    · exact zbA hind y T' h a w hh.2
theorem ze0 {Q : Exit → Act → Wd → Prop} {I : Act → Prop} (hI : ∀ a dst v, I a → I (a.put dst v)) (hQ : ∀ ch a w, I a → QP ch w → Q (.panic ch) a w) (hS : ∀ o, o ∈ ops → jM o.op = true) {ind : Nat → Nat → Bool} (hind : ∀ k i, ind k i = true → Indep S X ops k i) :
    ∀ (m : Nat) (listed : Array Bool) (T : OT) (a : Act) (w : Wd), zkZ ind ops m listed T = true →
      I a → zcX S X n QP ops (fun a w => Q .normal a w) T a w → wpAnyIn (FR S.r) n S.P .any ops Q m listed a w
  | 0, listed, T, a, w, hc, _, h => by
    simp only [zkZ, Qe, Qo] at hc
    obtain ⟨h1, h2⟩ := hc
    split at h2
    · exact ⟨h1, h⟩
    · cases h2
  | m + 1, listed, T, a, w, hc, hia, h => by
    simp only [zkZ, Qe, KG, Js, Qg] at hc
    refine ⟨fun h0 => Gj h0 hc.1, fun i hi => ?_⟩
    obtain ⟨_, o, ho, _⟩ := mem_ready.1 hi
    have hc' := hc.2 i hi
    rw [Qh] at hc'
    obtain ⟨T', hT', hc'⟩ := hc'
    have h2 := zbA (fun k hk => hind k i hk) T T' hT' a w h
    have hnext : ∀ a w, I a → zcX S X n QP ops (fun a w => Q .normal a w) T' a w → wpAnyIn (FR S.r) n S.P .any ops Q m (listed.setIfInBounds i true) a w := fun a w hia hh =>
      ze0 hI hQ hS hind m _ T' a w hc' hia hh
    exact zca (hS o (JI ho)) ho (fun ch w => hQ ch a w hia) (fun u w => hnext _ w (hI _ _ _ hia)) h2
end
def zrp (all : List Oper) (i : Nat) : Bool := all.any fun o => match o.guard with | some (j, _) => Nat.beq j i | none => false
def zsP (g : Bool) (v : Value) (K : Value → Prop) : Prop :=
  match g with
  | true => (match v with
    | .bool b => Br b (K (.bool true)) (K (.bool false))
    | v => K v)
  | false => K v
def zgX : List Oper → Nat → Option Oper
  | [], _ => none
  | o :: _, 0 => some o
  | _ :: r, i + 1 => zgX r i
def zth (all : List Oper) (E : Env) (j : Nat) : Option (Option Bool) :=
  match zgX all j with
  | some o => (match o.dst with
    | some d => (match Env.find E d with
      | some (.bool b) => some (some b)
      | some (.tuple _) => some none
      | _ => none)
    | none => none)
  | none => none
def zrv (all : List Oper) (i : Nat) (op : Op) : Bool := match op with | .move _ => zrp all i | _ => false
def zhr (S : Sig) (all : List Oper) (dr : Bool) (i : Nat) (o : Oper) (E : Env) (w : Wd) (K : Env → Wd → Prop) (KP : Env → List PanicEntry → Wd → Prop) : Prop :=
  match zef S.τ o.op with
  | true => zpo S E o.op w fun v => zsP (zrv all i o.op) v fun v => K (zfW o.dst v E) w
  | false => (match dr with
    | false => zrT S E o w (fun v w' => K (zfW o.dst v E) w') (KP E)
    | true => zrT S E o w (fun v w' => Below w.heap.size w w' ∧ K (zfW o.dst v E) w') (KP E))
def zax (S : Sig) (all : List Oper) (dr : Bool) (i : Nat) (o : Oper) (E : Env) (w : Wd) (K : Env → Wd → Prop) (KP : Env → List PanicEntry → Wd → Prop) : Prop :=
  match zm0 S.n o.dst with
  | false => False
  | true => (match o.guard with
    | none => zhr S all dr i o E w K KP
    | some (j, want) => (match zth all E j with
      | some (some b) => (match b, want with
        | true, true => zhr S all dr i o E w K KP
        | false, false => zhr S all dr i o E w K KP
        | true, false => K (zfW o.dst undef E) w
        | false, true => K (zfW o.dst undef E) w)
      | some none => K (zfW o.dst undef E) w
      | none => False))
def zdX (S : Sig) (all : List Oper) : Nat → List Oper → Env → Wd → (Env → Wd → Prop) → (Env → List PanicEntry → Wd → Prop) → Prop
  | _, [], E, w, K, _ => K E w
  | i, o :: r, E, w, K, KP => zax S all false i o E w (fun E' w' => zdX S all (i + 1) r E' w' K KP) KP
def zn6 (S : Sig) (all : List Oper) (X : List Nat) (QP : List PanicEntry → Wd → Prop) : List Nat → Env → Wd → (Env → Wd → Prop) → Prop
  | [], E, w, K => K E w
  | i :: r, E, w, K => (match zgX all i with
    | some o => zax S all (!zhS i X) i o E w (fun E' w' => zn6 S all X QP r E' w' K) (fun _ ch w => QP ch w)
    | none => False)
def zgQ (S : Sig) (all : List Oper) (X : List Nat) (QP : List PanicEntry → Wd → Prop) : OT → Env → Wd → (Env → Wd → Prop) → Prop
  | .nil, E, w, K => K E w
  | .op i t, E, w, K => (match zgX all i with
    | some o => zax S all (!zhS i X) i o E w (fun E' w' => zgQ S all X QP t E' w' K) (fun _ ch w => QP ch w)
    | none => False)
  | .alt x y, E, w, K => zgQ S all X QP x E w K ∧ zgQ S all X QP y E w K
def zcO (τ : TT) (X : List Nat) (ops : Array Oper) (k i : Nat) : Bool :=
  match ops[k]?, ops[i]? with
  | some ok, some oi => ok.apart ops oi && zef τ ok.op && jM ok.op && jM oi.op && (zef τ oi.op || !zhS i X || isN ok.op)
  | _, _ => false
def zi9 (τ : TT) (X : List Nat) (ops : Array Oper) : List Nat → Bool
  | [] => true
  | k :: r => r.all (fun i => zeq ops ops.size k i || zcO τ X ops k i) && !r.contains k && zi9 τ X ops r
def zre (τ : TT) (X : List Nat) (ops : Array Oper) (L : List Nat) : Bool :=
  Nat.beq L.length ops.size && zi9 τ X ops L && L.all (fun i => Nat.blt i ops.size) && (List.range ops.size).all (fun i => L.contains i) &&
  (List.range ops.size).all (fun i => match ops[i]? with
    | some o => o.after.all fun e => !Region.binds .any e || [e.on, i].isSublist L
    | none => true) && ops.all (fun o => jM o.op)
theorem zdj {S : Sig} {X : List Nat} {ops : Array Oper} {k i : Nat} (hd : zcO S.τ X ops k i = true) : Indep S X ops k i := by
  refine ⟨fun ok oi hk ho => ?_⟩
  simp only [zcO, hk, ho, Qe, QC, KG] at hd
  exact ⟨hd.1.1.1.1, hd.1.1.1.2, hd.1.1.2, hd.1.2, by rcases hd.2 with (h | h) | h; exact .inl h; exact .inr (.inl h); exact .inr (.inr h)⟩
theorem zfF {S : Sig} {X : List Nat} {ops : Array Oper} : ∀ {L : List Nat}, zi9 S.τ X ops L = true → L.Nodup ∧ ∀ k i, [k, i].Sublist L → (∃ f, zeq ops f k i = true) ∨ Indep S X ops k i
  | [], _ => ⟨List.nodup_nil, fun _ _ h => by cases h⟩
  | x :: r, h => by
    simp only [zi9, Qe, Qg, QC, KG, JT, decide_eq_false_iff_not] at h
    obtain ⟨⟨h1, h2⟩, h3⟩ := h
    obtain ⟨hn, hp⟩ := zfF h3
    refine ⟨QQ.2 ⟨h2, hn⟩, fun k i hs => ?_⟩
    cases hs with
    | cons _ hs => exact hp k i hs
    | cons_cons _ hs =>
      have hi : i ∈ r := List.singleton_sublist.1 hs
      rcases h1 i hi with hw | hd
      · exact .inl ⟨_, hw⟩
      · exact .inr (zdj hd)
theorem zn5 {S : Sig} {X : List Nat} {ops : Array Oper} {L : List Nat} (h : zre S.τ X ops L = true) : L.length = ops.size ∧ OrdOk S X ops L ∧ ∀ o, o ∈ ops → jM o.op = true := by
  simp only [zre, Qe, Qg, UY, Uj, JT, decide_eq_true_eq] at h
  obtain ⟨⟨⟨⟨⟨h0, h1⟩, h2⟩, h3⟩, h4⟩, h5⟩ := h
  obtain ⟨hn, hp⟩ := zfF h1
  refine ⟨JQ h0, ⟨hn, fun i => ⟨h2 i, h3 i⟩, hp, fun i o e ho he hb => ?_⟩, fun o ho => ?_⟩
  · have hi : i < ops.size := (Jj.1 ho).1
    have := h4 i hi
    simp only [ho, Jc] at this
    have := this e he
    simp only [hb, Ur, Uq] at this
    exact List.isSublist_iff_sublist.1 this
  · simp only [Jc] at h5
    exact h5 o ho
theorem zeF : ∀ (l : List Oper) (i : Nat), zgX l i = l[i]?
  | [], i => by simp [zgX]
  | _ :: _, 0 => rfl
  | _ :: r, i + 1 => by simp only [zgX, Jv]; exact zeF r i
section
variable {S : Sig} {n : Nat} {ops : Array Oper} {E : Env} {a : Act} {w : Wd}
theorem zdJ (ha : Agrees S a E) {j : Nat} {r : Option Bool} (h : zth ops.toList E j = some r) : yielded ops a.tmps j = r := by
  unfold zth at h
  rw [zeF] at h
  split at h
  · rename_i o ho
    split at h
    · rename_i d hd
      have ho' : ops[j]? = some o := by simpa using ho
      split at h
      · rename_i b hf
        cases h
        have := ha.val d _ hf
        simp [yielded, ho', hd, this]
      · rename_i t hf
        cases h
        have := ha.val d _ hf
        simp [yielded, ho', hd, this]
      · cases h
    · cases h
  · cases h
theorem zh8 {g : Bool} {v : Value} {K : Value → Prop} (h : zsP g v K) : K v := by
  unfold zsP at h
  split at h
  · split at h
    · rename_i b
      cases b
      · exact h.2 rfl
      · exact h.1 rfl
    · exact h
  · exact h
theorem znG (hS : SigOk S) {i : Nat} {o : Oper} (ho : ops[i]? = some o) (hs : jM o.op = true) {K : Env → Wd → Prop} {KP : Env → List PanicEntry → Wd → Prop}
    {next : Act → Wd → Prop} {Q : Exit → Act → Wd → Prop} (h : zax S ops.toList false i o E w K KP) (ha : Agrees S a E)
    (hn : ∀ E' a' w', Agrees S a' E' → K E' w' → next a' w') (hp : ∀ ch w', KP E ch w' → Q (.panic ch) a w') :
    wpOpIn (FR S.r) n S.P ops Q i next a w := by
  unfold zax at h
  split at h
  · exact h.elim
  · rename_i hd
    have ex : zhr S ops.toList false i o E w K KP → o.wpIn (FR S.r) n S.P a w next Q := fun h => by
      unfold zhr at h
      split at h
      · obtain ⟨v, hk, hr⟩ := zfD hS h
        exact (qr (S := S) (n := n) (zaN hs) (hr a ha w (.inr (UW _ _))) (hn _ _ _ (ha.put hd v) (zh8 hk))).wpIn (zaN hs)
      · exact (zel hS h ha (fun v w' hk => hn _ _ _ (ha.put hd v) hk) hp).wpIn (zaN hs)
    have sk : K (zfW o.dst undef E) w → (∀ f, o.about S.P w a.eval = some f → (FR S.r).fn f) ∧ next (a.put o.dst undef) w := fun h => ⟨fun _ _ => trivial, hn _ _ _ (ha.put hd undef) h⟩
    unfold wpOpIn
    simp only [ho]
    split at h
    · rename_i hg
      have : Region.wanted o (yielded ops a.tmps) = true := by simp [Region.wanted, hg]
      rw [Gi this]; exact ex h
    · rename_i j want hg
      split at h
      · rename_i b hgv
        have hy := zdJ ha hgv
        have hw : Region.wanted o (yielded ops a.tmps) = (b == want) := by simp [Region.wanted, hg, hy]
        rw [hw]
        cases b <;> cases want <;> simp only [] at h <;> first | exact ex h | exact sk h
      · rename_i hgv
        have hy := zdJ ha hgv
        have hw : Region.wanted o (yielded ops a.tmps) = false := by simp [Region.wanted, hg, hy]
        rw [hw]
        exact sk h
      · exact h.elim
theorem zfC (hS : SigOk S) {X : List Nat} {i : Nat} {o : Oper} (ho : ops[i]? = some o) (_hs : jM o.op = true) {K : Env → Wd → Prop}
    {next : Act → Wd → Prop} {QP : List PanicEntry → Wd → Prop} (h : zax S ops.toList (!zhS i X) i o E w K (fun _ ch w => QP ch w)) (ha : Agrees S a E)
    (hn : ∀ E' a' w', Agrees S a' E' → K E' w' → next a' w') :
    jA S X n QP ops i next a w := by
  unfold zax at h
  split at h
  · exact h.elim
  · rename_i hd
    have ex : zhr S ops.toList (!zhS i X) i o E w K (fun _ ch w => QP ch w) → (if zef S.τ o.op = true then ∃ v, PV S.P o a w v ∧ next (a.put o.dst v) w
       else UponE S n o a w (fun a' w' => (zhS i X = false → Below w.heap.size w w') ∧ next a' w') (PQ QP)) := fun h => by
      unfold zhr at h
      split at h
      · rename_i hp
        rw [Gi hp]
        obtain ⟨v, hk, hr⟩ := zfD hS h
        exact ⟨v, fun w2 hb => hr a ha w2 hb, hn _ _ _ (ha.put hd v) (zh8 hk)⟩
      · rename_i hp
        rw [Gh (by simp [hp])]
        split at h
        · rename_i hm
          have hm' : zhS i X = true := by simpa using hm
          exact zel hS h ha (fun v w' hk => ⟨fun hf => (by rw [hm'] at hf; cases hf), hn _ _ _ (ha.put hd v) hk⟩) (fun _ _ h => h)
        · exact zel hS h ha (fun v w' hk => ⟨fun _ => hk.1, hn _ _ _ (ha.put hd v) hk.2⟩) (fun _ _ h => h)
    have sk : K (zfW o.dst undef E) w → next (a.put o.dst undef) w := fun h => hn _ _ _ (ha.put hd undef) h
    unfold jA
    simp only [ho]
    split at h
    · rename_i hg
      have : Region.wanted o (yielded ops a.tmps) = true := by simp [Region.wanted, hg]
      rw [Gi this]; exact ex h
    · rename_i j want hg
      split at h
      · rename_i b hgv
        have hy := zdJ ha hgv
        have hw : Region.wanted o (yielded ops a.tmps) = (b == want) := by simp [Region.wanted, hg, hy]
        rw [hw]
        cases b <;> cases want <;> simp only [] at h <;> first | exact ex h | exact sk h
      · rename_i hgv
        have hy := zdJ ha hgv
        have hw : Region.wanted o (yielded ops a.tmps) = false := by simp [Region.wanted, hg, hy]
        rw [hw]
        exact sk h
      · exact h.elim
end
section
variable {S : Sig} {n : Nat}
def zhT (S : Sig) (Q : Exit → Env → Wd → Prop) : Exit → Act → Wd → Prop := fun ex a w => ∃ E, Agrees S a E ∧ Q ex E w
theorem zgS (hS : SigOk S) {ops : Array Oper} (hsel : ∀ o ∈ ops, jM o.op = true) {Q : Exit → Env → Wd → Prop} :
    ∀ (r : List Oper) (i : Nat) (E : Env) (a : Act) (w : Wd), (∀ k o, r[k]? = some o → ops[i + k]? = some o) → Agrees S a E →
      zdX S ops.toList i r E w (fun E w => Q .normal E w) (fun E ch w => Q (.panic ch) E w) →
      wpOpsIn (FR S.r) n S.P ops (zhT S Q) (List.range' i r.length) a w
  | [], i, E, a, w, _, ha, h => by simp only [QJ, List.range'_zero, wpOpsIn]; exact ⟨E, ha, h⟩
  | o :: r, i, E, a, w, hr, ha, h => by
    rw [Qp, List.range'_succ, wpOpsIn_cons]
    have ho : ops[i]? = some o := by simpa using hr 0 o rfl
    refine znG hS ho (hsel o (JI ho)) h ha (fun E' a' w' ha' hk => ?_) (fun ch w' hk => ⟨E, ha, hk⟩)
    exact zgS hS hsel r (i + 1) E' a' w' (fun k o' hk => by have := hr (k + 1) o' (by simpa using hk); rwa [Uz, UG 1 k]) ha' hk
theorem zgR (hS : SigOk S) {X : List Nat} {QP : List PanicEntry → Wd → Prop} {ops : Array Oper} (hsel : ∀ o ∈ ops, jM o.op = true) {K : Env → Wd → Prop} :
    ∀ (L : List Nat) (E : Env) (a : Act) (w : Wd), Agrees S a E → zn6 S ops.toList X QP L E w K →
      zg8 S X n QP ops (fun a w => ∃ E, Agrees S a E ∧ K E w) L a w
  | [], E, _, _, ha, h => ⟨E, ha, h⟩
  | i :: r, E, a, w, ha, h => by
    simp only [zn6, zeF] at h
    split at h
    · rename_i o ho
      have ho' : ops[i]? = some o := by simpa using ho
      exact zfC hS ho' (hsel o (JI ho')) h ha (fun E' a' w' ha' hk => zgR hS hsel r E' a' w' ha' hk)
    · exact h.elim
theorem zbN (hS : SigOk S) {X : List Nat} {QP : List PanicEntry → Wd → Prop} {ops : Array Oper} (hsel : ∀ o ∈ ops, jM o.op = true) {K : Env → Wd → Prop} :
    ∀ (T : OT) (E : Env) (a : Act) (w : Wd), Agrees S a E → zgQ S ops.toList X QP T E w K →
      zcX S X n QP ops (fun a w => ∃ E, Agrees S a E ∧ K E w) T a w
  | .nil, E, _, _, ha, h => ⟨E, ha, h⟩
  | .op i t, E, a, w, ha, h => by
    simp only [zgQ, zeF] at h
    split at h
    · rename_i o ho
      have ho' : ops[i]? = some o := by simpa using ho
      exact zfC hS ho' (hsel o (JI ho')) h ha (fun E' a' w' ha' hk => zbN hS hsel t E' a' w' ha' hk)
    · exact h.elim
  | .alt x y, E, a, w, ha, h => ⟨zbN hS hsel x E a w ha h.1, zbN hS hsel y E a w ha h.2⟩
def DrawE (S : Sig) (ops : Array Oper) (E : Env) (w : Wd) (K : Env → Wd → Prop) (QP : List PanicEntry → Wd → Prop) : Prop :=
  (∃ X L : List Nat, zre S.τ X ops L = true ∧ zn6 S ops.toList X QP L E w.drew K) ∨
  (∃ (X : List Nat) (T : OT), (zmc (zcO S.τ X ops) ops ops.size (Array.replicate ops.size false) T && ops.all (fun o => jM o.op)) = true ∧ zgQ S ops.toList X QP T E w.drew K) ∨
  (∃ (X : List Nat) (T : OT), (zkZ (zcO S.τ X ops) ops ops.size (Array.replicate ops.size false) T && ops.all (fun o => jM o.op)) = true ∧ zgQ S ops.toList X QP T E w.drew K)
theorem DrawE.ord {S : Sig} {ops : Array Oper} {E : Env} {w : Wd} {K : Env → Wd → Prop} {QP : List PanicEntry → Wd → Prop} (X L : List Nat) (h : zre S.τ X ops L = true) (k : zn6 S ops.toList X QP L E w.drew K) : DrawE S ops E w K QP :=
  .inl ⟨X, L, h, k⟩
def zqz (ops : List Oper) : Bool := ops.all fun o => jM o.op
def zqE (body : Env → Wd → (Exit → Env → Wd → Prop) → Prop) (E : Env) (w : Wd) (Q : Exit → Env → Wd → Prop) : Prop :=
  ∃ (σ : Type) (env : σ → Env) (inv : σ → Wd → Prop) (μ : σ → Nat) (s0 : σ), Cov E (env s0) ∧ inv s0 w ∧
    ∀ s w, inv s w → body (env s) w fun ex E' w' => match ex with
      | .normal => ∃ s', Cov E' (env s') ∧ inv s' w' ∧ μ s' < μ s
      | ex => Q ex E' w'
def zjE (S : Sig) (f : Operand) (params : Array Tmp) (assign body : Code) (E : Env) (w : Wd) (Q : Exit → Env → Wd → Prop) : Prop :=
  ∀ a, Agrees S a E → (Code.rangeFunc f params assign body).wpIn (FR S.r) NN S.P (zhT S Q) a w
def wpE (S : Sig) : Code → Env → Wd → (Exit → Env → Wd → Prop) → Prop
  | .skip, E, w, Q => Q .normal E w
  | .region _ ops draw, E, w, Q => (match draw with
    | false => (match zqz ops.toList with
      | true => zdX S ops.toList 0 ops.toList E w (fun E w => Q .normal E w) (fun E ch w => Q (.panic ch) E w)
      | false => False)
    | true => DrawE S ops E w (fun E w => Q .normal E w) (fun ch w => Q (.panic ch) ⟨[], E.ds⟩ w))
  | .seq x y, E, w, Q => wpE S x E w fun ex E' w' => match ex with
    | .normal => wpE S y E' w' Q
    | ex => Q ex E' w'
  | .cond c x y, E, w, Q => (match opd E c with
    | some (.bool b) => Br b (wpE S x E w Q) (wpE S y E w Q)
    | _ => False)
  | .block id x, E, w, Q => wpE S x E w fun ex E' w' => match ex with
    | .exit id' => (match Nat.beq id' id with
      | true => Q .normal E' w'
      | false => Q (.exit id') E' w')
    | ex => Q ex E' w'
  | .loop x, E, w, Q => zqE (fun E w Q => wpE S x E w Q) E w Q
  | .rangeFunc f ps ags x, E, w, Q => zjE S f ps ags x E w Q
  | .exit id, E, w, Q => Q (.exit id) E w
  | .scope _, _, _, _ => False
  | .label _, E, w, Q => Q .normal E w
  | .goto l, E, w, Q => Q (.goto l) E w
  | .ret, E, w, Q => Q .ret E w
  | .refuse _, _, _, _ => False
theorem qV (hS : SigOk S) : ∀ (c : Code) (E : Env) (a : Act) (w : Wd) (Q : Exit → Env → Wd → Prop), Agrees S a E → wpE S c E w Q → c.wpIn (FR S.r) NN S.P (zhT S Q) a w
  | .skip, E, a, w, Q, ha, h => wpIn_skip ⟨E, ha, h⟩
  | .region id ops draw, E, a, w, Q, ha, h => by
    cases draw with
    | false =>
      simp only [wpE] at h
      split at h
      · rename_i hs
        refine wpIn_region ?_
        rw [List.range_eq_range']
        have hs' : ∀ o ∈ ops, jM o.op = true := fun o ho => by
          simp only [zqz, Qg] at hs
          exact hs o (Array.mem_toList_iff.2 ho)
        have := zgS (n := NN) hS hs' ops.toList 0 E a w (fun k o hk => by simpa using hk) ha h
        simpa using this
      · exact h.elim
    | true =>
      simp only [wpE] at h
      refine wpIn_region_any hS.mixed ?_
      have hI : ∀ (b : Act) (dst : Option Tmp) (v : Value), (b.tmps.size = S.n ∧ b.defers = E.ds) → ((b.put dst v).tmps.size = S.n ∧ (b.put dst v).defers = E.ds) := fun b dst v hb => by
        cases dst with
        | none => exact hb
        | some d => exact ⟨by simp [Act.put, hb.1], hb.2⟩
      have hQ : ∀ ch (b : Act) w, (b.tmps.size = S.n ∧ b.defers = E.ds) → Q (.panic ch) ⟨[], E.ds⟩ w → zhT S Q (.panic ch) b w := fun ch b w hb hq => ⟨⟨[], E.ds⟩, ⟨hb.1, hb.2, fun t v hv => by simp [Env.find, VEnv.find] at hv⟩, hq⟩
      have hia : a.tmps.size = S.n ∧ a.defers = E.ds := ⟨ha.size, ha.defers⟩
      rcases h with ⟨X, L, hL, h⟩ | ⟨X, T, hT, h⟩ | ⟨X, T, hT, h⟩
      · obtain ⟨hlen, hO, hs⟩ := zn5 hL
        have h1 := zgR (n := NN) hS hs L E a w.drew ha h
        refine zfU (Q := zhT S Q) hI hQ hs hO ops.size L (Array.replicate ops.size false) a w.drew hlen (List.Sublist.refl _) (by simp) (fun i => ?_) (fun j o hj => ?_) hia h1
        · rw [hO.mem i]
          refine ⟨fun hi => ⟨hi, by simp [hi]⟩, fun hi => hi.1⟩
        · exfalso
          by_cases hjs : j < ops.size <;> simp [hjs] at hj
      · simp only [Qe, Jc] at hT
        exact zfT (Q := zhT S Q) hI hQ hT.2 (fun k i h => zdj h) ops.size _ T a w.drew hT.1 hia (zbN (n := NN) hS hT.2 T E a w.drew ha h)
      · simp only [Qe, Jc] at hT
        exact ze0 (Q := zhT S Q) hI hQ hT.2 (fun k i h => zdj h) ops.size _ T a w.drew hT.1 hia (zbN (n := NN) hS hT.2 T E a w.drew ha h)
  | .seq x y, E, a, w, Q, ha, h => by
    refine wpIn_seq ?_
    refine Gb (qV hS x E a w _ ha h) ?_
    rintro ex a' w' ⟨E', ha', hq⟩
    cases ex with
    | normal => exact qV hS y E' a' w' Q ha' hq
    | _ => exact ⟨E', ha', hq⟩
  | .cond c x y, E, a, w, Q, ha, h => by
    simp only [wpE] at h
    split at h
    · rename_i b hb
      refine wpIn_cond_split (ha.eval hb) (fun e => qV hS x E a w Q ha (h.1 e)) (fun e => qV hS y E a w Q ha (h.2 e))
    · exact h.elim
  | .block id x, E, a, w, Q, ha, h => by
    refine wpIn_block ?_
    refine Gb (qV hS x E a w _ ha h) ?_
    rintro ex a' w' ⟨E', ha', hq⟩
    cases ex with
    | exit id' =>
      simp only [Exit.inBlock]
      dsimp only at hq
      split at hq
      · rename_i hb; rw [Gi (JQ hb)]; exact ⟨E', ha', hq⟩
      · rename_i hb; rw [Gh (Nat.ne_of_beq_eq_false hb)]; exact ⟨E', ha', hq⟩
    | _ => exact ⟨E', ha', hq⟩
  | .loop x, E, a, w, Q, ha, h => by
    obtain ⟨σ, env, inv, μ, s0, hc, hi, hb⟩ := h
    have key : ∀ m s a w, μ s = m → Agrees S a (env s) → inv s w → (Code.loop x).wpIn (FR S.r) NN S.P (zhT S Q) a w := by
      intro m s a w hm ha hi
      refine wpIn_loop (fun a w => ∃ s, Agrees S a (env s) ∧ inv s w) (fun a w => leastOf (fun k => ∃ s, Agrees S a (env s) ∧ inv s w ∧ μ s = k)) ⟨s, ha, hi⟩ ?_
      intro a w ⟨s1, ha1, hi1⟩
      obtain ⟨⟨s2, ha2, hi2, hm2⟩, _⟩ := leastOf_spec (p := fun k => ∃ s, Agrees S a (env s) ∧ inv s w ∧ μ s = k) ⟨_, s1, ha1, hi1, rfl⟩
      refine Gb (qV hS x (env s2) a w _ ha2 (hb s2 w hi2)) ?_
      rintro ex a' w' ⟨E', ha', hq⟩
      cases ex with
      | normal =>
        obtain ⟨s', hc', hi', hlt⟩ := hq
        refine ⟨⟨s', ha'.cov hc', hi'⟩, ?_⟩
        have := (leastOf_spec (p := fun k => ∃ s, Agrees S a' (env s) ∧ inv s w' ∧ μ s = k) ⟨_, s', ha'.cov hc', hi', rfl⟩).2
        rw [← hm2]
        exact KC (this _ ⟨s', ha'.cov hc', hi', rfl⟩) hlt
      | _ => exact ⟨E', ha', hq⟩
    exact key _ s0 a w rfl (ha.cov hc) hi
  | .rangeFunc f ps ags x, E, a, w, Q, ha, h => h a ha
  | .exit id, E, a, w, Q, ha, h => wpIn_exit ⟨E, ha, h⟩
  | .scope _, _, _, _, _, _, h => h.elim
  | .label _, E, a, w, Q, ha, h => wpIn_label ⟨E, ha, h⟩
  | .goto l, E, a, w, Q, ha, h => wpIn_goto ⟨E, ha, h⟩
  | .ret, E, a, w, Q, ha, h => wpIn_ret ⟨E, ha, h⟩
  | .refuse _, _, _, _, _, _, h => h.elim
def zi3 (E : Env) (w : Wd) : (τ : TT) → List ResultVar → (List Value → Prop) → Prop
  | _, [], K => K []
  | τ, .tmp t :: r, K => z7 E (.tmp t) fun v => zi3 E w τ r fun vs => K (v :: vs)
  | τ, .cell t T :: r, K => z7 E (.tmp t) fun va => (match va with
    | .pointer (some p) => (match TT.get τ T with
      | some { agg := true, size := sz, .. } => ∃ us : List Value, us.length = sz ∧ zI w p us ∧ zi3 E w τ r fun vs => K (.agg us.toArray :: vs)
      | some { agg := false, .. } => ∃ u, w.cell? p = some u ∧ zi3 E w τ r fun vs => K (u :: vs)
      | none => False)
    | _ => False)
def zgW : List Value → Value
  | [v] => v
  | l => .tuple l.toArray
theorem zey {S : Sig} (hS : SigOk S) {E : Env} {a : Act} {w : Wd} (ha : Agrees S a E) : ∀ (l : List ResultVar) (K : List Value → Prop), zi3 E w S.τ l K →
    ∃ vs, K vs ∧ (l.mapM fun | .tmp t => pure (a.tmps.getD t undef) | .cell q t => do loadVar t (← asAddr (a.tmps.getD q undef)) : Sem (List Value)).run S.P w = .ok vs w
  | [], K, h => ⟨[], h, rfl⟩
  | .tmp t :: r, K, h => by
    obtain ⟨v, hv, h⟩ := zp h
    obtain ⟨vs, hk, hr⟩ := zey hS ha r _ h
    have : a.tmps.getD t undef = v := ha.eval hv
    refine ⟨_, hk, ?_⟩
    simp only [Ui, UO, UP, KX, this]
    rw [hr]
    rfl
  | .cell q T :: r, K, h => by
    simp only [zi3] at h
    replace h := zp h
    obtain ⟨va, hv, h⟩ := h
    have e0 : a.tmps.getD q undef = va := ha.eval hv
    split at h
    · rename_i p
      split at h
      · rename_i sz _ _ ht
        obtain ⟨us, hl, hc, h⟩ := h
        obtain ⟨vs, hk, hr⟩ := zey hS ha r _ h
        refine ⟨_, hk, ?_⟩
        have e : asAddr (a.tmps.getD q undef) = pure p := by rw [e0]; rfl
        simp only [Ui, UO, UP, KX, e, zfI (hS.ty _ _ ht) rfl hl hc]
        rw [hr]
        rfl
      · rename_i _ _ _ _ ht
        obtain ⟨u, hc, h⟩ := h
        obtain ⟨vs, hk, hr⟩ := zey hS ha r _ h
        refine ⟨_, hk, ?_⟩
        have e : asAddr (a.tmps.getD q undef) = pure p := by rw [e0]; rfl
        simp only [Ui, UO, UP, KX, e, zfH (hS.ty _ _ ht) rfl hc]
        rw [hr]
        rfl
      · exact h.elim
    · exact h.elim
theorem zj7 {S : Sig} (hS : SigOk S) {E : Env} {a : Act} {w : Wd} (ha : Agrees S a E) {fn : Func} {K : Value → Prop} (h : zi3 E w S.τ fn.results.toList fun vs => K (zgW vs)) :
    ∃ v, K v ∧ (results fn a.tmps).run S.P w = .ok v w := by
  obtain ⟨vs, hk, hr⟩ := zey hS ha _ _ h
  refine ⟨_, hk, ?_⟩
  unfold results
  rw [UO, Array.mapM_eq_mapM_toList, Sem.run_map]
  refine Eq.trans (Gd (fun x => Result.andThen (Result.andThen x _) _) hr) ?_
  simp only [KX, UP]
  congr 1
  match vs with
  | [] => simp [zgW]
  | [v] => simp [zgW]
  | v :: u :: r => simp [zgW]
def zjj : List Deferred → Wd → (Wd → Prop) → Prop
  | [], w, K => K w
  | d :: r, w, K => ∃ b, d.target = .collected b ∧ w.heap[b]? = some (.deferred (some [])) ∧ zjj r (w.putObj b (.deferred none)) K
def zmO (S : Sig) (fn : Func) (R : Ending → Wd → Prop) : Exit → Env → Wd → Prop
  | .normal, E, w => zjj E.ds w fun w' => zi3 E w' S.τ fn.results.toList fun vs => R (.returned (zgW vs)) w'
  | .ret, E, w => zjj E.ds w fun w' => zi3 E w' S.τ fn.results.toList fun vs => R (.returned (zgW vs)) w'
  | .panic ch, E, w => E.ds = [] ∧ R (.panicked ch) w
  | _, _, _ => False
theorem zaX {S : Sig} (hS : SigOk S) {fn : Func} {R : Ending → Wd → Prop} {a : Act} {E : Env} (ha : Agrees S a E) : ∀ (ds : List Deferred) (w : Wd),
    (zjj ds w fun w' => zi3 E w' S.τ fn.results.toList fun vs => R (.returned (zgW vs)) w') → LeavesInM (FR none) NN S.P fn a.tmps R ds .returning w
  | [], w, h => by
    obtain ⟨v, hk, hr⟩ := zj7 hS ha (K := fun v => R (.returned v) w) h
    exact ⟨v, hr, hk⟩
  | d :: r, w, ⟨b, hd, hb, h⟩ => ⟨by simp, .inl ⟨b, _, hd, run_takeDeferred hb, zaX hS ha r _ h⟩⟩
def zd3 : Nat → List Value → VEnv
  | _, [] => []
  | i, v :: r => (i, v) :: zd3 (i + 1) r
theorem zem : ∀ (l : List Value) (i t : Nat) (v : Value), VEnv.find (zd3 i l) t = some v → i ≤ t ∧ l[t - i]? = some v
  | [], _, _, _, h => by simp [zd3, VEnv.find] at h
  | u :: r, i, t, v, h => by
    simp only [zd3, VEnv.find] at h
    cases hb : Nat.beq i t with
    | true =>
      rw [hb] at h
      have e : i = t := JQ hb
      subst e
      simp only [KW] at h
      subst h
      simp
    | false =>
      rw [hb] at h
      obtain ⟨h1, h2⟩ := zem r (i + 1) t v h
      refine ⟨by omega, ?_⟩
      have : t - i = (t - (i + 1)) + 1 := by omega
      rw [this]
      simpa using h2
theorem zmk {S : Sig} (hS : SigOk S) {f : FuncId} {fn : Func} {c : Code} {args : List Value} {w : Wd} {R : Ending → Wd → Prop}
    (hf : S.P.funcs[f]? = some fn) (hb : fn.body = some c) (hn : fn.ntmps = S.n) (hle : args.length ≤ S.n) (hr : S.r = none)
    (h : wpE S c ⟨zd3 0 args, []⟩ w (zmO S fn R)) : Calls S.P f args.toArray w R := by
  rw [← callsIn_wide (n := NN)]
  have hF : FR none = Fence.wide := rfl
  rw [← hF]
  refine callsIn_of_wp_marks hf hb trivial ?_
  have ha : Agrees S { tmps := args.toArray ++ Array.replicate (fn.ntmps - args.toArray.size) undef, defers := [] } ⟨zd3 0 args, []⟩ := by
    refine ⟨?_, rfl, fun t v hv => ?_⟩
    · simp [hn]; omega
    · obtain ⟨_, h2⟩ := zem _ _ _ _ hv
      simp only [UL] at h2
      have hlt : t < args.length := (Jr.1 h2).1
      simp only [Array.getElem?_append, KU, hlt, Gg]
      simpa using h2
  have h1 := qV hS c _ _ w _ ha h
  rw [hr] at h1
  refine Gb h1 ?_
  rintro ex a' w' ⟨E', ha', hq⟩
  cases ex with
  | normal => have := zaX hS ha' _ _ hq; rw [← ha'.defers] at this; exact this
  | ret => have := zaX hS ha' _ _ hq; rw [← ha'.defers] at this; exact this
  | panic ch =>
    obtain ⟨hd, hR⟩ := hq
    show LeavesInM _ _ _ _ _ _ a'.defers _ _
    rw [ha'.defers, hd]
    exact hR
  | exit _ => exact hq.elim
  | goto _ => exact hq.elim
  | outgrown => exact hq.elim
end
theorem rb {a b:Bool} (h:a=b):Ending.returned (.bool a)=Ending.returned (.bool b):=by rw [h]
theorem ri {k:IntKind} {a b:Int} (h:a=b):Ending.returned (.int k a)=Ending.returned (.int k b):=by rw [h]
theorem ze {a:Int} (h : -9223372036854775808<=a/\a<=9223372036854775807):IntKind.i64.wrap a=a:=by
 unfold IntKind.wrap;simp only [IntKind.bits,IntKind.signed,Ut,show ((2:Int)^64)=18446744073709551616 from rfl,show ((2:Int)^(64-1))=9223372036854775808 from rfl]
 split
 ·rename_i h2;have:=dT h2;omega
 ·rename_i h2;have h3:a%18446744073709551616<9223372036854775808:=by simpa using h2
  omega
theorem nxI {k:Nat} {K:Int->Prop} (h:(k:Int)+1<=9223372036854775807) (x:K ((k+1:Nat):Int)):∃ m,IntKind.i64.wrap ((k:Int)+1)=m/\K m:=⟨_,(ze (by omega)).trans (by omega),x⟩
theorem zep {a:Int} (h:0<=a/\a<=255):IntKind.u8.wrap a=a:=by
 unfold IntKind.wrap;simp only [IntKind.bits,IntKind.signed,Ue,Kr,Ge];omega
theorem zt1 (x:UInt8):(x.toNat:Int)<=255:=by have:=x.toNat_lt;omega
theorem qS (x:UInt8):IntKind.i64.wrap (x.toNat:Int)=(x.toNat:Int):=ze (by have:=zt1 x;omega)
theorem qq {x y:UInt8}:((x.toNat:Int)=(y.toNat:Int))↔x=y :=
 ⟨fun h=>Ub.1 (by omega),fun h=>by rw [h]⟩
def u8 (x:UInt8):Value := .int .u8 x.toNat
theorem zme {w:Wd} {b o:Nat} {v:Value} {vs:List Value} (h:zI w ⟨b,o,none⟩ (v::vs)):w.cell? ⟨b,o,none⟩=some v:=by
 have:=h 0 v rfl
 rwa [zbn] at this
theorem zc {w:Wd} {b o:Nat} {vs:List Value} (h:zI w ⟨b,o,none⟩ vs) {i:Nat} {v:Value} (hv:vs[i]?=some v):w.cell? ⟨b,o+i,none⟩=some v:=by
 have:=h i v hv
 rwa [zbn] at this
theorem zaB {w:Wd} {b o:Nat} {vs:List Value} (h:∀ i v,vs[i]?=some v->w.cell? ⟨b,o+i,none⟩=some v):zI w ⟨b,o,none⟩ vs :=
 fun i v hv=>by rw [zbn];exact h i v hv
theorem zP {w:Wd} {b o n m:Nat} {vs:List Value} (h:zI w ⟨b,o,none⟩ vs):zI w ⟨b,o+n,none⟩ ((vs.drop n).take m):=by
 refine zaB fun i v hv=>?_;rw [Kv] at hv
 split at hv
 ·rw [Ku] at hv;have:=zc h hv
  rwa [<- Uz] at this
 ·cases hv
theorem za {w:Wd} {g:Nat} {cs:Array Value} {t:TypeId} {fr:Nat×Nat} (h:w.heap[g]?=some (.cells cs t fr)):zI w ⟨g,0,none⟩ cs.toList:=by
 refine zaB fun i v hv=>?_;rw [cell_of_row w g (0+i) cs t fr h,UM];simpa using hv
theorem qI {w:Wd} {g o n:Nat} {cs:Array Value} {t:TypeId} {fr:Nat×Nat} (h:w.heap[g]?=some (.cells cs t fr)):zI w ⟨g,o,none⟩ ((cs.toList.drop o).take n):=by
 have:=zP (n:=o) (m:=n) (za h)
 rwa [UM] at this
theorem zfA {w:Wd} {cs:Array Value} {t:TypeId}:zI (w.alloc (.cells cs t)) ⟨w.heap.size,0,none⟩ cs.toList :=
 za (heap_alloc_new w _)
theorem zb {w w2:Wd} (hb:Bw w w2) {g:Nat} {o:Obj} (h:w.heap[g]?=some o):w2.heap[g]?=some o :=
 (hb.block g (Jj.1 h).1).trans h
structure Enc (α:Type) where
 enc:α->List Value
 sz:Nat
 len:∀ a,(enc a).length=sz
 pos:0<sz
 one:∀ a,∀ u∈enc a,u.oneCell'=true
def SlR {α:Type} (E:Enc α) (w:Wd) (p:OA) (l:List α):Prop :=
 l=[]\/∃ b o,p=some ⟨b,o,none⟩/\b<w.heap.size/\∀ i (h:i<l.length),zI w ⟨b,o+i*E.sz,none⟩ (E.enc l[i])
section
variable {α:Type} {E:Enc α} {w w2:Wd} {p:OA} {l:List α}
theorem SlR.nil {E:Enc α} {w:Wd} {p:OA}:SlR E w p [] := .inl rfl
theorem SlR.at (h:SlR E w p l) {i:Nat} (hi:i<l.length):∃ b o,p=some ⟨b,o,none⟩/\b<w.heap.size/\∀ i (h:i<l.length),zI w ⟨b,o+i*E.sz,none⟩ (E.enc l[i]):=by
 rcases h with rfl | h
 ·simp at hi
 ·exact h
theorem SlR.below (h:SlR E w p l) (hb:Bw w w2):SlR E w2 p l:=by
 rcases h with rfl | ⟨b,o,hp,hlt,hc⟩
 ·exact .inl rfl
 ·exact .inr ⟨b,o,hp,nL hlt hb.size,fun i hi=>zr hb (hc i hi)⟩
theorem zeP (l:List α) (i:Nat) (hi:i<l.length):(((l.flatMap E.enc).drop (i*E.sz)).take E.sz)=E.enc l[i]:=by
 induction l generalizing i with
 | nil=>simp at hi
 | cons a r ih =>
  rw [KO]
  cases i with
  | zero=>simp [<- E.len a]
  | succ i =>
   have e:(i+1)*E.sz=(E.enc a).length+i*E.sz:=by rw [E.len,UQ];omega
   rw [e,<- Uf,Ug];simpa using ih i (by simpa using hi)
theorem qu (l:List α):(l.flatMap E.enc).length=l.length*E.sz:=by
 induction l with
 | nil=>simp
 | cons a r ih=>rw [KO,lap,ih,E.len,Qp,UQ];omega
theorem zcw (l:List α):∀ u∈l.flatMap E.enc,u.oneCell'=true:=fun u hu=>by
 obtain⟨a,_,h⟩:=List.mem_flatMap.1 hu;exact E.one a u h
theorem SlR.of_cells {b o:Nat} (hb:b<w.heap.size) (h:zI w ⟨b,o,none⟩ (l.flatMap E.enc)):SlR E w (some ⟨b,o,none⟩) l :=
 .inr ⟨b,o,rfl,hb,fun i hi=>by rw [<- zeP l i hi];exact zP h⟩
theorem SlR.cells {b o:Nat} (h:SlR E w (some ⟨b,o,none⟩) l):zI w ⟨b,o,none⟩ (l.flatMap E.enc):=by
 rcases h with rfl | ⟨b',o',hp,hlt,hc⟩
 ·intro i v hv;simp at hv
 ·cases hp
  refine zaB fun j v hv=>?_;have hj:j<l.length*E.sz:=by rw [<- qu (E:=E) l];exact (Jr.1 hv).1
  have hs:=E.pos;have hd:j/E.sz<l.length:=Nat.div_lt_of_lt_mul (by rw [UJ];exact hj);have h2:(E.enc l[j/E.sz])[j%E.sz]?=some v:=by
   rw [<- zeP l _ hd,Kv,Gi (UZ _ hs),Ku,UJ,QU];exact hv
  have h3:=zc (hc _ hd) h2
  rwa [Uz,UJ,QU] at h3
def OwnS (E:Enc α) (T:TypeId) (B:Nat) (w:Wd) (p:OA) (cap:Nat) (l:List α):Prop :=
 w.ownsRow B T E.sz (.slice p l.length cap) l.length (l.flatMap E.enc)
theorem OwnS.nil {E:Enc α} {T B:Nat} {w:Wd}:OwnS E T B w none 0 []:=by
 unfold OwnS;exact World.ownsRow_nil _ _ _ _
theorem OwnS.inv {T B cap:Nat} (h:OwnS E T B w p cap l):(p=none/\cap=0/\l=[]) \/
  ∃ g cur,p=some ⟨g,0,none⟩/\B<=g/\w.heap[g]?=some (.cells cur T (0,0))/\l.length<=cap/\cap<=maxLen/\cur.size=cap*E.sz/\cur.toList.take (l.length*E.sz)=l.flatMap E.enc:=by
 obtain⟨h1,h2⟩:=h;rcases h2 with ⟨h2,h3⟩ | ⟨g,cap',cur,h2,hb,hg,hn,hm,hs,ht⟩
 ·simp only [Value.slice.injEq] at h2;exact .inl ⟨h2.1,h2.2.2,Je h3⟩
 ·simp only [Value.slice.injEq,true_and] at h2;obtain⟨rfl,rfl⟩:=h2;exact .inr ⟨g,cur,rfl,hb,hg,hn,hm,hs,ht⟩
theorem OwnS.row {T B cap:Nat} (h:OwnS E T B w p cap l):SlR E w p l:=by
 rcases h.inv with ⟨_,_,rfl⟩ | ⟨g,cur,rfl,_,hg,_,_,_,ht⟩
 ·exact .inl rfl
 ·refine SlR.of_cells (Jj.1 hg).1 ?_;rw [<- ht];exact qI (o:=0) hg
theorem OwnS.kept {T B cap:Nat} (h:OwnS E T B w p cap l) {w':Wd} {row:Option Nat} (hg:w.grownBy w' row) (hne:∀ g,p=some ⟨g,0,none⟩->row≠some g):OwnS E T B w' p cap l:=by
 refine World.ownsRow.kept h hg ?_;rcases h.inv with ⟨rfl,_⟩ | ⟨g,_,rfl,_⟩
 ·exact .inl rfl
 ·exact .inr (fun e=>hne g rfl e.symm)
theorem OwnS.below {T B cap:Nat} (h:OwnS E T B w p cap l) (hb:Bw w w2):OwnS E T B w2 p cap l :=
 h.kept (row:=none) ⟨hb.os,hb.tape,hb.output,hb.size,fun k hk _=>hb.block k hk⟩ (fun _ _ h=>by cases h)
theorem OwnS.alloc {T B cap:Nat} (h:OwnS E T B w p cap l) (o:Obj):OwnS E T B (w.alloc o) p cap l :=
 h.below ((UW _ w).alloc (UR _) o)
theorem OwnS.drew {T B cap:Nat} (h:OwnS E T B w p cap l):OwnS E T B w.drew p cap l:=h.below (UW _ w).drew
theorem jj {P:Program} {t T ty B cap m c:Nat} {a:Addr} {news:List α} {iT:TI} {z:List Value} (hu:P.underlying t=some (.slice T)) (hT:TIok P T iT) (hz:iT.zero=some z)
  (hs:iT.size=E.sz) (hzl:z.length=E.sz) (ho:OwnS E T B w p cap l) (hm:news.length=m) (hn:zI w a (news.flatMap E.enc)) (hB:B<=w.heap.size)
  (h1:l.length+m<=9223372036854775807) (h2:(l.length+m)*iT.bytes<=140737488355328) {K:Value->Wd->Prop}
  (k:∀ p' cap' w',OwnS E T B w' p' cap' (l++news)->w.grownBy w' (Value.slice p l.length cap).ownBlock->Below B w w' ->
   (∀ a,p'=some a->p=some a\/a.block=w.heap.size)->K (.slice p' (l++news).length cap') w') :
  SatR ((Builtin.append_ #[t,t] ty #[.slice p l.length cap,.slice (some a) m c]).run P w) K:=by
 obtain⟨⟨inf,hi,hsz,hby,hzz⟩,_⟩:=hT;obtain⟨zv,hzv,hzc⟩:=hzz z hz;have hown:=run_append_own_at (P:=P) w B t ty T inf zv E.sz iT.bytes hu hi hzv (hsz.trans hs) hby (by rw [<- hzl,<- hzc];simp) E.pos (.slice p l.length cap) l.length (l.flatMap E.enc) ho a m c (news.flatMap E.enc)
  (by rw [qu,hm]) hn (zcw news) (by unfold maxLen;omega) h2 hB
 obtain⟨v',w',hr,ho',hg,_,hat⟩:=hown;refine SatR.mk hr ?_;have hl:l.length+m=(l++news).length:=by simp [hm]
 have hf:l.flatMap E.enc++news.flatMap E.enc=(l++news).flatMap E.enc:=by rw [Ke]
 rw [hl,hf] at ho';have hb:Below B w w':=(UW B w).grown hg hB (fun k e=>(World.ownsRow.lt ho k e).1);rcases ho'.2 with ⟨rfl,h0⟩ | ⟨g,cap',cur,rfl,qp⟩
 ·have:K (.slice none (l++news).length 0) w':=k none 0 w' (by unfold OwnS;rw [h0] at ho' ⊢;exact ho') hg hb (fun _ h=>by cases h);rw [h0] at this;exact this
 ·refine k _ _ w' ho' hg hb fun a ha=>?_
  cases ha
  rcases hat with h1 | h1
  ·rcases ho.inv with ⟨rfl,_⟩ | ⟨g',_,rfl,_⟩
   ·simp [Value.ownBlock] at h1
   ·simp [Value.ownBlock] at h1;exact .inl (by rw [h1])
  ·simp [Value.ownBlock] at h1;exact .inr h1
theorem OwnS.same {T B cap:Nat} (h:OwnS E T B w p cap l) {w':Wd} (hs:∀ a,p=some a->w'.heap[a.block]?=w.heap[a.block]?):OwnS E T B w' p cap l:=by
 obtain⟨h1,h2⟩:=h;refine⟨h1,?_⟩;rcases h2 with h2 | ⟨g,cap',cur,h2,hb,hg,qp⟩
 ·exact .inl h2
 ·refine .inr ⟨g,cap',cur,h2,hb,?_,qp⟩;simp only [Value.slice.injEq] at h2;rw [<- hg];exact hs _ h2.1
end
theorem zy (w:Wd) (o:Obj):(w.alloc o).heap[w.heap.size]?=some o:=by
 show (w.heap.push o)[w.heap.size]?=some o;simp
theorem qJ {w:Wd} {i:Nat} {x:Obj} (o:Obj) (h:w.heap[i]?=some x):(w.alloc o).heap[i]?=some x:=by
 have hi:i<w.heap.size:=(Jj.1 h).1;show (w.heap.push o)[i]?=some x;rw [Array.getElem?_push,Gh (Nat.ne_of_lt hi)];exact h
theorem zc3 {w:Wd} {i g:Nat} {x:Obj} (cs:Array Value) (hne:i≠g) (h:w.heap[i]?=some x):(w.setRow g cs).heap[i]?=some x:=by
 rw [setRow_other w g i cs hne];exact h
theorem hdr {w:Wd} {i:Nat} {x:Obj} (h:w.heap[i]?=some x):w.drew.heap[i]?=some x:=h
theorem hlt {w:Wd} {i:Nat} {x:Obj} (h:w.heap[i]?=some x):i<w.heap.size:=(Jj.1 h).1
theorem zt {P:Program} {w:Wd} {T g:Nat} {iT:TI} (hT:TIok P T iT) {cs:Array Value} {t:TypeId} (hg:w.heap[g]?=some (.cells cs t (0,0))) {v:Value} (hv:v.cells.size=iT.size)
  (hc:cs.size=iT.size) (h0:v.cells.toList.all Value.oneCell'=true) {K:Wd->Prop} (k:K (w.setRow g v.cells)):SatR ((storeVar T ⟨g,0,none⟩ v).run P w) fun _ w'=>K w':=by
 obtain⟨⟨inf,hi,hs,_,_⟩,_⟩:=hT;have h1:∀ u∈v.cells.toList,u.oneCell'=true:=Qg.1 h0;have hst:=Qa P g 0 t v.cells.toList 0 cs w hg (by simp;omega) h1;refine SatR.mk (v:=()) (w':=w.setRow g v.cells) ?_ k;have hsz:(sizeOf T).run P w = .ok iT.size w:=by simp [sizeOf,typeInfo,hi,hs]
 simp only [storeVar,UO,hsz,KX,hv,ne_eq,KY,Ge];rw [hst];congr 2;apply Qb.1;simp [hc,hv]
theorem zn {w:Wd} {g:Nat} {cs cs':Array Value} {t:TypeId} {fr:Nat×Nat} (hg:w.heap[g]?=some (.cells cs t fr)):(w.setRow g cs').heap[g]?=some (.cells cs' t fr):=setRow_heap w g cs cs' t fr hg
theorem zq {w:Wd} {g k:Nat} {cs:Array Value} (h:k≠g):(w.setRow g cs).heap[k]?=w.heap[k]?:=setRow_other w g k cs h
theorem zl {B:Nat} {a w:Wd} (h:Below B a w) {g:Nat} (hg:B<=g) (cs:Array Value):Below B a (w.setRow g cs) :=
 h.trans ⟨rfl,rfl,rfl,by simp,fun k hk=>zq (by omega)⟩
theorem jC (w:Wd) (g:Nat) (cs:Array Value):w.grownBy (w.setRow g cs) (some g) :=
 ⟨rfl,rfl,rfl,by simp,fun k _ hne=>zq (fun e=>hne (by rw [e]))⟩
end Go.Vc
namespace Go.Sei
def zfL (c:UInt8):Bool:=(decide ((97:Int)<=c.toNat)&&decide ((c.toNat:Int)<=122))||(decide ((65:Int)<=c.toNat)&&decide ((c.toNat:Int)<=90))
def zhe (c:UInt8):Bool:=decide ((48:Int)<=c.toNat)&&decide ((c.toNat:Int)<=57)
def eqB (c:UInt8) (k:Int):Bool:=decide ((c.toNat:Int)=k)
def zm3 (c:UInt8):Bool:=eqB c 61||(eqB c 43||(eqB c 45||(eqB c 94||(eqB c 38||(eqB c 124||(eqB c 33||(eqB c 40||(eqB c 41||(eqB c 58||eqB c 60)))))))))
def qb (c:UInt8):Nat :=
 bif zfL c then 3 else bif zhe c then 4 else bif eqB c 32||eqB c 9 then 1 else bif eqB c 10 then 2 else bif eqB c 95 then 5 else bif eqB c 35 then 7 else bif zm3 c then 6 else 0
def qH (c:UInt8):Bool:=decide (qb c=3)||(decide (qb c=4)||decide (qb c=5))
def jU (p:UInt8->Bool):List UInt8->Nat
 | []=>0
 | c::r=>if p c then jU p r+1 else 0
theorem zj4 (p:UInt8->Bool):∀ l,jU p l<=l.length
 | []=>UR _
 | c::r=>by
  unfold jU
  split
  ·exact Nat.succ_le_succ (zj4 p r)
  ·exact UU _
def zjy (c:UInt8):Bool:=decide (qb c=1)
def zdZ (c:UInt8):Bool := !decide (qb c=2)
def zbr (c:UInt8):Bool:=decide (qb c=4)
def zb8 (s:List UInt8) (a:Nat):Nat:=a+jU zjy (s.drop a)
def zK (s:List UInt8) (a:Nat):Nat :=
 match s[zb8 s a]? with
 | some c=>if qb c=7 then zb8 s a+jU zdZ (s.drop (zb8 s a)) else zb8 s a
 | none=>zb8 s a
structure Tok where
 kind:UInt8
 text:List UInt8
 pos:Nat
 deriving DecidableEq
def za3 (s:List UInt8) (a:Nat) (c:UInt8):Nat :=
 if qb c=3 then a+1+jU qH (s.drop (a+1)) else if qb c=4 then a+1+jU zbr (s.drop (a+1)) else
  if (eqB c 61||eqB c 33)&&decide (s[a+1]?=some 61) then a+2 else a+1
def zfK (c:UInt8):UInt8:=if qb c=3 then 1 else if qb c=4 then 2 else 3
def zjQ (s:List UInt8) (a:Nat) (c:UInt8):Tok:=⟨zfK c,(s.drop a).take (za3 s a c-a),a⟩
def zac (s:List UInt8) (a:Nat):Bool:=match s[a]? with
 | some c=>decide (qb c=2)
 | none=>true
def zar (s:List UInt8):Nat->Nat->Bool->Option (Tok×Nat×Bool)
 | 0,_,_=>none
 | f+1,a,op=>match s[zK s a]? with
  | some c=>if qb c=2 then (if op then some (⟨4,[],zK s a⟩,min (zK s a+1) s.length,false) else zar s f (min (zK s a+1) s.length) false)
   else some (zjQ s (zK s a) c,za3 s (zK s a) c,true)
  | none=>if op then some (⟨4,[],zK s a⟩,min (zK s a+1) s.length,false) else none
def zcl (s:List UInt8):Nat->Nat->Bool->List Tok
 | 0,_,_=>[]
 | f+1,a,op=>match zar s (s.length+2) a op with
  | some (t,a',op')=>t::zcl s f a' op'
  | none=>[]
def zjf (s:List UInt8):Bool:=decide (1<=s.length)&&(decide (s.length<=3)&&(!(decide (s.head?=some 48)&&decide (1<s.length))&&(s.all zbr&&decide (s.foldl (fun v c=>10*v+(c.toNat-48)) 0<=255))))
def ju (t:Tok):Int :=
 if t.kind=1 then (if 16<t.text.length then 42 else 0) else if t.kind=2 then (if zjf t.text then 0 else 41) else
 if t.kind=3 then (match t.text with | c::_=>if qb c=6 then 0 else 40 | []=>0) else 0
def q9 (s:List UInt8):List Tok:=zcl s (2*s.length+3) 0 false
def zoU (l:List Tok) (s:List UInt8):Bool:=match l with
 | [t,_]=>decide (t.kind=1)&&decide (t.text=s)
 | _=>false
def zdI (s:List UInt8):Bool:=decide (s.length<=16384)&&((q9 s).all (fun t=>decide (ju t=0))&&zoU (q9 s) s)
structure InsD where
 op:UInt8
 dst:UInt8
 loc:UInt8
 ar:Bool
 an:UInt8
 br:Bool
 bn:UInt8
 fn:UInt8
 mode:UInt8
 skip:UInt8
 deriving DecidableEq
inductive Cnd where
 | mk (kind thread n val:UInt8) (kids:List Cnd)
def Cnd.kind:Cnd->UInt8 | .mk k _ _ _ _=>k
def Cnd.thread:Cnd->UInt8 | .mk _ t _ _ _=>t
def Cnd.n:Cnd->UInt8 | .mk _ _ n _ _=>n
def Cnd.val:Cnd->UInt8 | .mk _ _ _ v _=>v
def Cnd.kids:Cnd->List Cnd | .mk _ _ _ _ l=>l
structure Prg where
 name:List UInt8
 locs:List (List UInt8)
 init:List UInt8
 threads:List (List InsD)
 ask:UInt8
 cond:Cnd
def zsA:List (List UInt8):=[[116,101,115,116],[105,110,105,116],[116,104,114,101,97,100],[115,111,109,101],[110,111,110,101],[97,108,108],[97,99,113],[114,101,108],[115,119,97,112],[102,101,116,99,104],[99,97,115],
 [102,101,110,99,101],[108,111,97,100,115],[115,116,111,114,101,115],[115,107,105,112],[105,102],[116,114,117,101]]
def zhd (s:List UInt8):Bool:=zsA.any fun k=>decide (s=k)
def qX (s:List UInt8):Nat:=(s.filter zbr).length
def zeI (s:List UInt8):Bool:=match s with
 | []=>false
 | c::r=>decide (r.length+1<=16)&&(decide (qb c=3)&&(!zhd (c::r)&&(r.all qH&&(!decide (c=114)||(decide (qX r=0)||decide (qX r<r.length))))))
def zec:List (List UInt8)->List (List UInt8)->Bool
 | _,[]=>true
 | pre,s::r=>zeI s&&(!(pre.any fun q=>decide (q=s))&&zec (pre++[s]) r)
def zd0 (p:Prg):Bool:=decide (1<=p.locs.length)&&(decide (p.locs.length<=6)&&(decide (p.init.length=p.locs.length)&&zec [] p.locs))
def zeG:List UInt8:=[0,35,38,29,7,7,15,32,92]
def jG (op bit:UInt8):Bool := !decide (zeG.getD op.toNat 0&&&bit=0)
def zgb (x:InsD):InsD where
 op:=x.op
 dst:=if jG x.op 1 then x.dst else 0
 loc:=if jG x.op 2 then x.loc else 0
 ar:=jG x.op 4&&x.ar
 an:=if jG x.op 4 then x.an else 0
 br:=jG x.op 8&&x.br
 bn:=if jG x.op 8 then x.bn else 0
 fn:=if jG x.op 16 then x.fn else 0
 mode:=if jG x.op 32 then x.mode else 0
 skip:=if jG x.op 64 then x.skip else 0
def zeJ (x:InsD):Bool:=if x.op=1 then decide (x.mode=0)||decide (x.mode=1) else if x.op=2 then decide (x.mode=0)||decide (x.mode=2) else
 if x.op=7 then decide (x.mode=3)||(decide (x.mode=4)||decide (x.mode=5)) else true
def fnL (x:InsD):Bool:=if x.op=3 then decide (x.fn=1)||(decide (x.fn=2)||decide (x.fn=3)) else if x.op=8 then decide (x.fn=4)||(decide (x.fn=5)||decide (x.fn=6)) else true
def zjA (r:Bool) (n:UInt8):Bool := !r||decide (n.toNat<8)
def qT (x:InsD) (locs after:Nat):List Bool:=[
 decide (1<=x.op.toNat)&&decide (x.op.toNat<=8),
 decide (x=zgb x),
 decide (x.dst.toNat<8),
 !jG x.op 2||decide (x.loc.toNat<locs),
 zjA x.ar x.an&&zjA x.br x.bn,
 zeJ x,
 fnL x,
 !jG x.op 64||(decide (1<=x.skip.toNat)&&decide (x.skip.toNat<=after))]
def zhU (x:InsD) (locs after:Nat):Bool:=(qT x locs after).all id
def qy (l:List InsD) (locs:Nat):Bool:=decide (l.length<=12)&&(List.range l.length).all fun i=>match l[i]? with
 | some x=>zhU x locs (l.length-1-i)
 | none=>true
def zat (threads locs:Nat):Nat->Cnd->Bool
 | 0,_=>false
 | d+1,.mk k t n v kids =>
  let bare:=decide (t=0)&&(decide (n=0)&&decide (v=0))
  if k=0 then bare&&decide (kids.length=0) else
  if k=1 then decide (t.toNat<threads)&&(decide (n.toNat<8)&&decide (kids.length=0)) else
  if k=2 then decide (n.toNat<locs)&&(decide (t=0)&&decide (kids.length=0)) else
  if k=3\/k=4 then bare&&(decide (2<=kids.length)&&kids.all (zat threads locs d)) else
  if k=5 then bare&&(decide (kids.length=1)&&kids.all (zat threads locs d)) else false
def zdf (p:Prg):Bool:=zdI p.name&&(zd0 p&&((decide (1<=p.threads.length)&&(decide (p.threads.length<=4)&&p.threads.all fun l=>decide (l.length<=12))) &&
 (p.threads.all (fun l=>qy l p.locs.length)&&((decide (p.ask=1)||(decide (p.ask=2)||decide (p.ask=3)))&&zat p.threads.length p.locs.length 20 p.cond))))
def els (s:Nat):List Nat:=(List.range 64).filter fun i=>s.testBit i
def ctz (s:Nat):Nat:=(els s).headD 64
def qp (s:Nat):Nat:=s&&&(s-1)
theorem zh7 {s:Nat} (h:s≠0):∃ k m,s=2^k*(2*m+1):=by
 induction s using Nat.strongRecOn with
 | _ s ih =>
  by_cases hp:s%2=1
  ·exact⟨0,s/2,by rw [Nat.pow_zero,UT];omega⟩
  ·obtain⟨k,m,e⟩:=ih (s/2) (by omega) (by omega);refine⟨k+1,m,?_⟩;rw [Nat.pow_succ,UJ (2^k) 2,UA,<- e];omega
theorem zdu (k a j:Nat):(2^k*a).testBit j=(decide (k<=j)&&a.testBit (j-k)):=by
 rw [Nat.testBit_two_pow_mul]
theorem zeZ (m j:Nat):(2*m+1).testBit j=match j with | 0=>true | j+1=>m.testBit j:=by
 cases j with
 | zero=>rw [Nat.testBit_zero];simp
 | succ j=>rw [Nat.testBit_succ];congr 1;omega
theorem zlb (m j:Nat):(2*m).testBit j=match j with | 0=>false | j+1=>m.testBit j:=by
 cases j with
 | zero=>rw [Nat.testBit_zero];simp
 | succ j=>rw [Nat.testBit_succ];congr 1;omega
theorem zlI (k m:Nat):qp (2^k*(2*m+1))=2^k*(2*m):=by
 unfold qp;apply Kb;intro j;have h1:=QY k;have e:2^k*(2*m+1)-1=2^k*(2*m)+(2^k-1):=by rw [Nat.mul_add,US];omega
 rw [QX,e,Nat.testBit_two_pow_mul_add _ (by omega),zdu,zdu];by_cases hj:j<k
 ·rw [Gi hj];have:¬ k<=j:=by omega
  simp [this]
 ·rw [Gh hj,zeZ,zlb];have:k<=j:=by omega
  cases h:j-k with
  | zero=>simp
  | succ i=>simp [this]
theorem zgZ {n k m:Nat} (hn:0<n) (h:2^k*(2*m+1)<2^n):(2^k*(2*m+1))&&&(2^n-2^k*(2*m+1))=2^k:=by
 have hk:k<n:=by
  apply Qw;intro hk;have h1:2^n<=2^k:=Kc (by decide) hk;have h2:2^k*1<=2^k*(2*m+1):=Nat.mul_le_mul_left _ (by omega);omega
 have h1:=QY k;have e64:2^n=2^k*2^(n-k):=by rw [<- Nat.pow_add];congr 1;omega
 have e63:2^(n-k)=2*2^(n-1-k):=by rw [<- Nat.pow_succ'];congr 1;omega
 have hm:2*m+1<2^(n-k):=by
  rw [e64] at h;exact Nat.lt_of_mul_lt_mul_left h
 have hm2:m<2^(n-1-k):=by omega
 have e:2^n-2^k*(2*m+1)=2^k*(2*(2^(n-1-k)-(m+1))+1):=by
  rw [e64,<- Nat.mul_sub];congr 1;omega
 rw [e];apply Kb;intro j;rw [QX,zdu,zdu,zeZ,zeZ,Km];by_cases hj:k<=j
 ·cases h:j-k with
  | zero =>
   have:k=j:=by omega
   simp [this]
  | succ i =>
   have:k≠j:=by omega
   show ((decide (k<=j)&&m.testBit i)&&(decide (k<=j)&&(2^(n-1-k)-(m+1)).testBit i))=decide (k=j);rw [Nat.testBit_two_pow_sub_succ hm2]
   cases m.testBit i <;> simp [this]
 ·have:k≠j:=by omega
  simp [hj,this]
theorem zio {k m:Nat} (h:2^k*(2*m+1)<2^64):(2^k*(2*m+1))&&&(2^64-2^k*(2*m+1))=2^k:=zgZ (by decide) h
theorem zfO {p:Nat->Bool} {n k:Nat} (hk:k<n) (h1:∀ i,i<k->p i=false) (h2:p k=true) :
  (List.range n).filter p=k::(List.range n).filter (fun i=>p i&&decide (i≠k)):=by
 have e:List.range n=List.range k++k::(List.range (n-k-1)).map (fun i=>k+1+i):=by
  apply List.ext_getElem
  ·simp;omega
  ·intro i h1 h2;rw [Kw];by_cases hi:i<k
   ·rw [List.getElem_append_left (by simpa using hi)];simp
   ·obtain⟨j,rfl⟩:∃ j,i=k+j:=⟨i-k,by omega⟩;rw [List.getElem_append_right (by simp)];simp only [KS,Jy]
    cases j with
    | zero=>simp
    | succ j=>simp;omega
 rw [e,Kt,Kt,Qk,Qk];have f1:(List.range k).filter p=[]:=by
  rw [JC];intro i hi;rw [h1 i (Uj.1 hi)];decide
 have f2:(List.range k).filter (fun i=>p i&&decide (i≠k))=[]:=by
  rw [JC];intro i hi;rw [h1 i (Uj.1 hi)];simp
 rw [f1,f2,h2];simp only [QO,Gg,ne_eq,KY,decide_false,Ud,Kr,Ge];congr 1;apply KN;intro x hx;obtain⟨i,_,rfl⟩:=UF.1 hx;have:k+1+i≠k:=by omega
 simp [this]
theorem jO {s:Nat} (h0:s≠0) (h:s<2^64):els s=ctz s::els (qp s)/\qp s<s/\s&&&(2^64-s)=2^ctz s/\ctz s<64:=by
 obtain⟨k,m,e⟩:=zh7 h0;subst e;have h1:=QY k;have hk:k<64:=by
  apply Qw;intro hk;have h2:2^64<=2^k:=Kc (by decide) hk;have h3:2^k*1<=2^k*(2*m+1):=Nat.mul_le_mul_left _ (by omega);omega
 have hh:els (2^k*(2*m+1))=k::els (2^k*(2*m)):=by
  unfold els;rw [zfO hk]
  ·congr 1;apply KN;intro i _;rw [zdu,zdu,zeZ,zlb]
   cases hi:i-k with
   | zero =>
    by_cases hik:k<=i
    ·have:i=k:=(by omega);simp [this]
    ·simp [hik]
   | succ j =>
    have:i≠k:=(by omega);simp [this]
  ·intro i hi;rw [zdu];have:¬ k<=i:=by omega
   simp [this]
  ·rw [zdu,zeZ];simp
 have hc:ctz (2^k*(2*m+1))=k:=by unfold ctz;rw [hh];rfl
 rw [hc,zlI];refine⟨hh,?_,zio h,hk⟩;rw [Nat.mul_add,US];omega
theorem zht {s:Nat} (h0:s≠0) (h:s<2^32):s&&&(2^32-s)=2^ctz s/\ctz s<32:=by
 obtain⟨h1,_,h2,h3⟩:=jO h0 (nL h (by decide));have hc:ctz s<32:=by
  have hm:ctz s∈els s:=by rw [h1];exact Kx
  unfold els at hm;have hb:=(QN.1 hm).2;apply Qw;intro hc;have:=JH (nL h (Kc (by decide) hc));rw [this] at hb;cases hb
 refine⟨?_,hc⟩;obtain⟨k,m,e⟩:=zh7 h0;have h4:s&&&(2^64-s)=2^k:=by rw [e] at h ⊢;exact zio (nL h (by decide))
 have h5:s&&&(2^32-s)=2^k:=by rw [e] at h ⊢;exact zgZ (by decide) h
 rw [h5,<- h4,h2]
theorem zah:els 0=[]:=by
 unfold els;rw [JC];intro i _;simp
theorem zma {s i:Nat} (h:i∈els s):i<64:=by
 unfold els at h;exact Uj.1 (QN.1 h).1
theorem qM {s i:Nat}:i∈els s↔i<64/\s.testBit i=true:=by
 unfold els;rw [QN,Uj]
structure Ev where
 th:Int
 k:UInt8
 l:UInt8
 v:UInt8
 m:UInt8
 i:UInt8
 p:UInt8
 deriving DecidableEq
def upd {α:Type} (f:Nat->α) (i:Nat) (v:α):Nat->α:=fun j=>if j=i then v else f j
theorem zQ {α:Type} (f:Nat->α) (i:Nat) (v:α):upd f i v i=v:=by unfold upd;rw [Gi rfl]
theorem qz {α:Type} (f:Nat->α) {i j:Nat} (v:α) (h:j≠i):upd f i v j=f j:=by unfold upd;rw [Gh h]
structure RunD where
 pc:Nat
 regs:Nat->UInt8
 deps:Nat->Nat
 ctl:Nat
 many:Nat
 ev:Nat->Ev
 data:Nat->Nat
 ctrl:Nat->Nat
 att:Nat->Nat
def ev0:Ev:=⟨0,0,0,0,0,0,0⟩
def zi0:RunD:=⟨0,fun _=>0,fun _=>0,0,0,fun _=>ev0,fun _=>0,fun _=>0,fun _=>0⟩
def qt (r:Bool) (n:UInt8) (R:RunD):UInt8×Nat:=if r then (R.regs n.toNat,R.deps n.toNat) else (n,0)
def ziU (R:RunD) (d v:UInt8) (s:Nat):RunD:={ R with regs:=upd R.regs d.toNat v,deps:=upd R.deps d.toNat s }
def zaz (R:RunD) (k l v m:UInt8) (d:Nat):RunD :=
 { R with ev:=upd R.ev R.many ⟨0,k,l,v,m,UInt8.ofNat R.pc,UInt8.ofNat R.many⟩,data:=upd R.data R.many d,ctrl:=upd R.ctrl R.many R.ctl,many:=R.many+1 }
def zpD (R:RunD) (x:InsD) (v:UInt8):RunD:=ziU (zaz R 1 x.loc v x.mode 0) x.dst v (2^R.many)
def zls (R:RunD) (x:InsD):RunD:=zaz R 2 x.loc (qt x.ar x.an R).1 x.mode (qt x.ar x.an R).2
def ziG (fn a b:UInt8):UInt8:=if fn=1 then a+b else if fn=2 then a-b else a ^^^ b
def zpx (R:RunD) (x:InsD):RunD:=ziU R x.dst (ziG x.fn (qt x.ar x.an R).1 (qt x.br x.bn R).1) ((qt x.ar x.an R).2|||(qt x.br x.bn R).2)
def zby (R:RunD) (x:InsD) (old v:UInt8) (d:Nat):RunD :=
 let S:=zaz (zaz R 1 x.loc old 3 0) 2 x.loc v 3 d
 ziU { S with att:=upd S.att (R.many+1) (2^R.many) } x.dst old (2^R.many)
def zo0 (R:RunD) (x:InsD) (v:UInt8):RunD:=zby R x v (qt x.ar x.an R).1 (qt x.ar x.an R).2
def zfq (R:RunD) (x:InsD) (v:UInt8):RunD :=
 let S:=zby R x v (v+(qt x.ar x.an R).1) (qt x.ar x.an R).2
 { S with data:=upd S.data (R.many+1) (S.data (R.many+1)|||S.att (R.many+1)) }
def zc4 (R:RunD) (x:InsD) (v:UInt8):RunD :=
 if v=(qt x.ar x.an R).1 then
  let S:=zby R x v (qt x.br x.bn R).1 (qt x.br x.bn R).2
  { S with ctrl:=upd S.ctrl (R.many+1) (S.ctrl (R.many+1)|||(S.att (R.many+1)|||(qt x.ar x.an R).2)) }
 else ziU (zaz R 1 x.loc v 3 0) x.dst v (2^R.many)
def zl5 (R:RunD) (x:InsD):RunD:=zaz R 3 0 0 x.mode 0
def zjT (fn a b:UInt8):Bool:=if fn=4 then decide (a=b) else if fn=5 then !decide (a=b) else decide (a.toNat<b.toNat)
def zbY (R:RunD) (x:InsD):RunD :=
 let S:={ R with ctl:=R.ctl|||((qt x.ar x.an R).2|||(qt x.br x.bn R).2) }
 if zjT x.fn (qt x.ar x.an R).1 (qt x.br x.bn R).1 then { S with pc:=R.pc+x.skip.toNat } else S
def zdo (R:RunD) (x:InsD) (v:UInt8):RunD :=
 if x.op=1 then zpD R x v else if x.op=2 then zls R x else if x.op=3 then zpx R x else if x.op=4 then zo0 R x v else
 if x.op=5 then zfq R x v else if x.op=6 then zc4 R x v else if x.op=7 then zl5 R x else zbY R x
def qh (R:RunD) (x:InsD) (v:UInt8):RunD:=let S:=zdo R x v;{ S with pc:=S.pc+1 }
def zbK (x:InsD):Bool:=decide (x.op=1)||(decide (x.op=4)||(decide (x.op=5)||decide (x.op=6)))
def goR (l:List InsD):Nat->RunD->RunD
 | 0,R=>R
 | n+1,R=>match l[R.pc]? with
  | none=>R
  | some x=>if zbK x then R else goR l n (qh R x 0)
def z8 (l:List InsD) (dom:List UInt8):Nat->RunD->List RunD
 | 0,R=>[goR l l.length R]
 | n+1,R=>match l[(goR l l.length R).pc]? with
  | none=>[goR l l.length R]
  | some x=>dom.flatMap fun v=>z8 l dom n (qh (goR l l.length R) x v)
def qA (l:List InsD) (dom:List UInt8):List RunD:=z8 l dom l.length zi0
def zcc (f:Nat->Nat) (n:Nat):List (Nat×Nat):=(List.range n).flatMap fun i=>(els (f i)).map fun a=>(a,i)
structure PathD where
 ev:List Ev
 data:List (Nat×Nat)
 ctrl:List (Nat×Nat)
 rmw:List (Nat×Nat)
 regs:Nat->UInt8
def j4 (R:RunD):PathD:=⟨(List.range R.many).map R.ev,zcc R.data R.many,zcc R.ctrl R.many,zcc R.att R.many,R.regs⟩
def z4:List UInt8:=(List.range 256).map UInt8.ofNat
def jl (l:List UInt8):List UInt8:=z4.filter fun v=>l.any fun x=>decide (x=v)
def zaD (rs:List RunD):List UInt8:=z4.filter fun v=>rs.any fun R=>(List.range R.many).any fun i=>decide ((R.ev i).k=2)&&decide ((R.ev i).v=v)
def zbx (threads:List (List InsD)) (vals:List UInt8):List UInt8:=jl (vals++threads.flatMap fun l=>zaD (qA l vals))
structure RelD where
 n:Int
 to:Nat->Nat
def zB:RelD:=⟨0,fun _=>0⟩
def j7 (n:Int):Nat:=if n<1 then 0 else if 64<=n then 18446744073709551615 else 2^n.toNat-1
def jE (a b:Nat):Nat:=a&&&(18446744073709551615-b)
def zbI (r:RelD) (a:Nat):Bool:=decide (jE (r.to a) (j7 r.n)=0)&&(decide ((a:Int)<r.n)||decide (r.to a=0))
def okR (r:RelD):Bool:=decide (0<=r.n)&&(decide (r.n<=48)&&(List.range 48).all (zbI r))
def jQ (n:Nat) (f:Nat->Nat):RelD:=⟨n,fun i=>if i<n then f i else 0⟩
def zdk (to:Nat->Nat) (s:Nat):Nat:=(els s).foldl (fun t a=>t|||to a) 0
def zaC (to:Nat->Nat) (n:Nat):Nat->Nat:=(List.range n).foldl (fun f a=>(els (to a)).foldl (fun f b=>upd f b (f b|||2^a)) f) (fun _=>0)
def zV (r:RelD):RelD:=if okR r then ⟨r.n,zaC r.to r.n.toNat⟩ else zB
def zkI (r:RelD):Nat:=if okR r then (List.range r.n.toNat).foldl (fun s a=>if r.to a=0 then s else s|||2^a) 0 else 0
def zbT (r:RelD):Bool:=okR r&&decide (zkI r=0)
def comb (a b:RelD) (f:Nat->Nat):RelD×Int:=if a.n=b.n&&(okR a&&okR b) then (jQ a.n.toNat f,0) else (zB,2)
def zaS (a b:RelD):RelD×Int:=comb a b fun i=>a.to i|||b.to i
def za5 (a b:RelD):RelD×Int:=comb a b fun i=>a.to i&&&b.to i
def jk (a b:RelD):RelD×Int:=comb a b fun i=>zdk b.to (a.to i)
def zb5 (before:Nat->Nat) (left:Nat):Option Nat:=(els left).find? fun a=>decide (before a&&&left=0)
def ziP (before:Nat->Nat):Nat->Nat->List Nat->Option (List Nat)
 | 0,left,l=>if left=0 then some l else none
 | n+1,left,l=>if left=0 then some l else match zb5 before left with
  | none=>none
  | some a=>ziP before n (jE left (2^a)) (l++[a])
def zer (r:RelD):Option (List Nat):=if okR r then ziP (zV r).to 64 (j7 r.n) [] else none
def zaw (r:RelD):Bool:=(zer r).isSome
def zhw (n:Nat) (a b:Nat):RelD:=jQ n fun x=>if a.testBit x then b&&&j7 n else 0
def idR (n:Nat) (s:Nat):RelD:=jQ n fun a=>s&&&2^a
end Go.Sei
namespace Go.Vc
open Go.RowKit
inductive Mk where
 | p
 | s (a b:Mk)
 | c (a b:Mk)
 | d (a b:Mk)
 | b (a:Mk)
 | l (a:Mk)
def zut (first:(Exit->Env->Wd->Prop)->Prop) (second:Env->Wd->(Exit->Env->Wd->Prop)->Prop) (Q:Exit->Env->Wd->Prop):Prop :=
 ∃ (σ:Type) (env:σ->Env) (inv:σ->Wd->Prop),(first fun ex E' w'=>match ex with
  | .normal=>∃ s,Cov E' (env s)/\inv s w'
  | ex=>Q ex E' w')/\∀ s w',inv s w'->second (env s) w' Q
noncomputable def wpM (S:Sig) (m:Mk):Code->Env->Wd->(Exit->Env->Wd->Prop)->Prop :=
 Mk.rec (motive:=fun _=>Code->Env->Wd->(Exit->Env->Wd->Prop)->Prop)
  (fun c E w Q=>wpE S c E w Q)
  (fun _ _ ia ib c E w Q=>match c with
   | .seq x y=>ia x E w fun ex E' w'=>match ex with
    | .normal=>ib y E' w' Q
    | ex=>Q ex E' w'
   | _=>False)
  (fun _ _ ia ib c E w Q=>match c with
   | .seq x y=>zut (fun Q=>ia x E w Q) (fun E w Q=>ib y E w Q) Q
   | _=>False)
  (fun _ _ ia ib c E w Q=>match c with
   | .cond c x y=>(match opd E c with
    | some (.bool v)=>Br v (ia x E w Q) (ib y E w Q)
    | _=>False)
   | _=>False)
  (fun _ ia c E w Q=>match c with
   | .block id x=>ia x E w fun ex E' w'=>match ex with
    | .exit id'=>(match Nat.beq id' id with
     | true=>Q .normal E' w'
     | false=>Q (.exit id') E' w')
    | ex=>Q ex E' w'
   | _=>False)
  (fun _ ia c E w Q=>match c with
   | .loop x=>zqE (fun E w Q=>ia x E w Q) E w Q
   | _=>False)
  m
section
variable {S:Sig}
theorem zak (hS:SigOk S):∀ (m:Mk) (c:Code) (E:Env) (a:Act) (w:Wd) (Q:Exit->Env->Wd->Prop),Agrees S a E->wpM S m c E w Q->c.wpIn (FR S.r) NN S.P (zhT S Q) a w
 | .p,c,E,a,w,Q,ha,h=>qV hS c E a w Q ha h
 | .s m k,.seq x y,E,a,w,Q,ha,h=>by
  replace h:(wpM S m x E w fun ex E' w'=>match ex with | .normal=>wpM S k y E' w' Q | ex=>Q ex E' w'):=h;refine wpIn_seq (Gb (zak hS m x E a w _ ha h) ?_);rintro ex a' w' ⟨E',ha',hq⟩
  cases ex with
  | normal=>exact zak hS k y E' a' w' Q ha' hq
  | _=>exact⟨E',ha',hq⟩
 | .c m k,.seq x y,E,a,w,Q,ha,h=>by
  replace h:zut (fun Q=>wpM S m x E w Q) (fun E w Q=>wpM S k y E w Q) Q:=h;obtain⟨σ,env,inv,h1,h2⟩:=h;refine wpIn_seq (Gb (zak hS m x E a w _ ha h1) ?_);rintro ex a' w' ⟨E',ha',hq⟩
  cases ex with
  | normal =>
   obtain⟨s,hc,hi⟩:=hq;exact zak hS k y (env s) a' w' Q (ha'.cov hc) (h2 s w' hi)
  | _=>exact⟨E',ha',hq⟩
 | .d m k,.cond c x y,E,a,w,Q,ha,h=>by
  replace h:(match opd E c with | some (.bool v)=>Br v (wpM S m x E w Q) (wpM S k y E w Q) | _=>False):=h
  split at h
  ·rename_i b hb;refine wpIn_cond_split (ha.eval hb) (fun e=>zak hS m x E a w Q ha (h.1 e)) (fun e=>zak hS k y E a w Q ha (h.2 e))
  ·exact h.elim
 | .b m,.block id x,E,a,w,Q,ha,h=>by
  replace h:(wpM S m x E w fun ex E' w'=>match ex with | .exit id'=>(match Nat.beq id' id with | true=>Q .normal E' w' | false=>Q (.exit id') E' w') | ex=>Q ex E' w'):=h;refine wpIn_block (Gb (zak hS m x E a w _ ha h) ?_);rintro ex a' w' ⟨E',ha',hq⟩
  cases ex with
  | exit id' =>
   simp only [Exit.inBlock];dsimp only at hq
   split at hq
   ·rename_i hb;rw [Gi (JQ hb)];exact⟨E',ha',hq⟩
   ·rename_i hb;rw [Gh (Nat.ne_of_beq_eq_false hb)];exact⟨E',ha',hq⟩
  | _=>exact⟨E',ha',hq⟩
 | .l m,.loop x,E,a,w,Q,ha,h=>by
  replace h:zqE (fun E w Q=>wpM S m x E w Q) E w Q:=h;obtain⟨σ,env,inv,μ,s0,hc,hi,hb⟩:=h;have key:∀ m s a w,μ s=m->Agrees S a (env s)->inv s w->(Code.loop x).wpIn (FR S.r) NN S.P (zhT S Q) a w:=by
   intro m' s a w hm ha hi;refine wpIn_loop (fun a w=>∃ s,Agrees S a (env s)/\inv s w) (fun a w=>leastOf (fun k=>∃ s,Agrees S a (env s)/\inv s w/\μ s=k)) ⟨s,ha,hi⟩ ?_;intro a w ⟨s1,ha1,hi1⟩;obtain⟨⟨s2,ha2,hi2,hm2⟩,_⟩:=leastOf_spec (p:=fun k=>∃ s,Agrees S a (env s)/\inv s w/\μ s=k) ⟨_,s1,ha1,hi1,rfl⟩;refine Gb (zak hS m x (env s2) a w _ ha2 (hb s2 w hi2)) ?_;rintro ex a' w' ⟨E',ha',hq⟩
   cases ex with
   | normal =>
    obtain⟨s',hc',hi',hlt⟩:=hq;refine⟨⟨s',ha'.cov hc',hi'⟩,?_⟩;have:=(leastOf_spec (p:=fun k=>∃ s,Agrees S a' (env s)/\inv s w'/\μ s=k) ⟨_,s',ha'.cov hc',hi',rfl⟩).2;rw [<- hm2];exact KC (this _ ⟨s',ha'.cov hc',hi',rfl⟩) hlt
   | _=>exact⟨E',ha',hq⟩
  exact key _ s0 a w rfl (ha.cov hc) hi
 | .s _ _,.skip,_,_,_,_,_,h=>h.elim
 | .s _ _,.region _ _ _,_,_,_,_,_,h=>h.elim
 | .s _ _,.cond _ _ _,_,_,_,_,_,h=>h.elim
 | .s _ _,.block _ _,_,_,_,_,_,h=>h.elim
 | .s _ _,.loop _,_,_,_,_,_,h=>h.elim
 | .s _ _,.rangeFunc _ _ _ _,_,_,_,_,_,h=>h.elim
 | .s _ _,.exit _,_,_,_,_,_,h=>h.elim
 | .s _ _,.scope _,_,_,_,_,_,h=>h.elim
 | .s _ _,.label _,_,_,_,_,_,h=>h.elim
 | .s _ _,.goto _,_,_,_,_,_,h=>h.elim
 | .s _ _,.ret,_,_,_,_,_,h=>h.elim
 | .s _ _,.refuse _,_,_,_,_,_,h=>h.elim
 | .c _ _,.skip,_,_,_,_,_,h=>h.elim
 | .c _ _,.region _ _ _,_,_,_,_,_,h=>h.elim
 | .c _ _,.cond _ _ _,_,_,_,_,_,h=>h.elim
 | .c _ _,.block _ _,_,_,_,_,_,h=>h.elim
 | .c _ _,.loop _,_,_,_,_,_,h=>h.elim
 | .c _ _,.rangeFunc _ _ _ _,_,_,_,_,_,h=>h.elim
 | .c _ _,.exit _,_,_,_,_,_,h=>h.elim
 | .c _ _,.scope _,_,_,_,_,_,h=>h.elim
 | .c _ _,.label _,_,_,_,_,_,h=>h.elim
 | .c _ _,.goto _,_,_,_,_,_,h=>h.elim
 | .c _ _,.ret,_,_,_,_,_,h=>h.elim
 | .c _ _,.refuse _,_,_,_,_,_,h=>h.elim
 | .d _ _,.skip,_,_,_,_,_,h=>h.elim
 | .d _ _,.region _ _ _,_,_,_,_,_,h=>h.elim
 | .d _ _,.seq _ _,_,_,_,_,_,h=>h.elim
 | .d _ _,.block _ _,_,_,_,_,_,h=>h.elim
 | .d _ _,.loop _,_,_,_,_,_,h=>h.elim
 | .d _ _,.rangeFunc _ _ _ _,_,_,_,_,_,h=>h.elim
 | .d _ _,.exit _,_,_,_,_,_,h=>h.elim
 | .d _ _,.scope _,_,_,_,_,_,h=>h.elim
 | .d _ _,.label _,_,_,_,_,_,h=>h.elim
 | .d _ _,.goto _,_,_,_,_,_,h=>h.elim
 | .d _ _,.ret,_,_,_,_,_,h=>h.elim
 | .d _ _,.refuse _,_,_,_,_,_,h=>h.elim
 | .b _,.skip,_,_,_,_,_,h=>h.elim
 | .b _,.region _ _ _,_,_,_,_,_,h=>h.elim
 | .b _,.seq _ _,_,_,_,_,_,h=>h.elim
 | .b _,.cond _ _ _,_,_,_,_,_,h=>h.elim
 | .b _,.loop _,_,_,_,_,_,h=>h.elim
 | .b _,.rangeFunc _ _ _ _,_,_,_,_,_,h=>h.elim
 | .b _,.exit _,_,_,_,_,_,h=>h.elim
 | .b _,.scope _,_,_,_,_,_,h=>h.elim
 | .b _,.label _,_,_,_,_,_,h=>h.elim
 | .b _,.goto _,_,_,_,_,_,h=>h.elim
 | .b _,.ret,_,_,_,_,_,h=>h.elim
 | .b _,.refuse _,_,_,_,_,_,h=>h.elim
 | .l _,.skip,_,_,_,_,_,h=>h.elim
 | .l _,.region _ _ _,_,_,_,_,_,h=>h.elim
 | .l _,.seq _ _,_,_,_,_,_,h=>h.elim
 | .l _,.cond _ _ _,_,_,_,_,_,h=>h.elim
 | .l _,.block _ _,_,_,_,_,_,h=>h.elim
 | .l _,.rangeFunc _ _ _ _,_,_,_,_,_,h=>h.elim
 | .l _,.exit _,_,_,_,_,_,h=>h.elim
 | .l _,.scope _,_,_,_,_,_,h=>h.elim
 | .l _,.label _,_,_,_,_,_,h=>h.elim
 | .l _,.goto _,_,_,_,_,_,h=>h.elim
 | .l _,.ret,_,_,_,_,_,h=>h.elim
 | .l _,.refuse _,_,_,_,_,_,h=>h.elim
theorem zhB (hS:SigOk S) {f:FuncId} {fn:Func} {c:Code} {args:List Value} {w:Wd} {R:Ending->Wd->Prop} (m:Mk)
  (hf:S.P.funcs[f]?=some fn) (hb:fn.body=some c) (hn:fn.ntmps=S.n) (hle:args.length<=S.n) (hr:S.r=none)
  (h:wpM S m c ⟨zd3 0 args,[]⟩ w (zmO S fn R)):Calls S.P f args.toArray w R:=by
 rw [<- callsIn_wide (n:=NN)];have hF:FR none=Fence.wide:=rfl;rw [<- hF];refine callsIn_of_wp_marks hf hb trivial ?_;have ha:Agrees S { tmps:=args.toArray++Array.replicate (fn.ntmps-args.toArray.size) undef,defers:=[] } ⟨zd3 0 args,[]⟩:=by
  refine⟨?_,rfl,fun t v hv=>?_⟩
  ·simp [hn];omega
  ·obtain⟨_,h2⟩:=zem _ _ _ _ hv;simp only [UL] at h2;have hlt:t<args.length:=(Jr.1 h2).1;simp only [Array.getElem?_append,KU,hlt,Gg];simpa using h2
 have h1:=zak hS m c _ _ w _ ha h;rw [hr] at h1;refine Gb h1 ?_;rintro ex a' w' ⟨E',ha',hq⟩
 cases ex with
 | normal=>have:=zaX hS ha' _ _ hq;rw [<- ha'.defers] at this;exact this
 | ret=>have:=zaX hS ha' _ _ hq;rw [<- ha'.defers] at this;exact this
 | panic ch =>
  obtain⟨hd,hR⟩:=hq;show LeavesInM _ _ _ _ _ _ a'.defers _ _;rw [ha'.defers,hd];exact hR
 | exit _=>exact hq.elim
 | goto _=>exact hq.elim
 | outgrown=>exact hq.elim
end
end Go.Vc
namespace Go.Proofs.YtkpaomeeknegpaaGreatDoor
open Go.Vc Go.RowKit
abbrev zU6:Value := .int .u64 0
abbrev zU8:Value := .int .u8 0
abbrev zU3:Value := .int .u32 0
abbrev zI6:Value := .int .i64 0
def zqN:List Value:=[zI6,zU6,zU6,zU6,zU6,zU6,zU6,zU6,zU6,zU6,zU6,zU6,zU6,zU6,zU6,zU6,zU6,zU6,zU6,zU6,zU6,zU6,zU6,zU6,zU6,zU6,zU6,zU6,zU6,zU6,zU6,zU6,zU6,zU6,zU6,zU6,zU6,zU6,zU6,zU6,zU6,zU6,zU6,zU6,zU6,zU6,zU6,zU6,zU6]
def zbo:List Value:=[.slice none 0 0,zI6,zU6,zU6,zU6,zU6,zU6,zU6,zU6,zU6,zU6,zU6,zU6,zU6,zU6,zU6,zU6,zU6,zU6,zU6,zU6,zU6,zU6,zU6,zU6,zU6,zU6,zU6,zU6,zU6,zU6,zU6,zU6,zU6,zU6,zU6,zU6,zU6,zU6,zU6,zU6,zU6,zU6,zU6,zU6,zU6,zU6,zU6,zU6,zU6,zI6,zU6,zU6,zU6,zU6,zU6,zU6,zU6,zU6,zU6,zU6,zU6,zU6,zU6,zU6,zU6,zU6,zU6,zU6,zU6,zU6,zU6,zU6,zU6,zU6,zU6,zU6,zU6,zU6,zU6,zU6,zU6,zU6,zU6,zU6,zU6,zU6,zU6,zU6,zU6,zU6,zU6,zU6,zU6,zU6,zU6,zU6,zU6,zU6,zI6,zU6,zU6,zU6,zU6,zU6,zU6,zU6,zU6,zU6,zU6,zU6,zU6,zU6,zU6,zU6,zU6,zU6,zU6,zU6,zU6,zU6,zU6,zU6,zU6,zU6,zU6,zU6,zU6,zU6,zU6,zU6,zU6,zU6,zU6,zU6,zU6,zU6,zU6,zU6,zU6,zU6,zU6,zU6,zU6,zU6,zU6,zU6,zU6,zI6,zU6,zU6,zU6,zU6,zU6,zU6,zU6,zU6,zU6,zU6,zU6,zU6,zU6,zU6,zU6,zU6,zU6,zU6,zU6,zU6,zU6,zU6,zU6,zU6,zU6,zU6,zU6,zU6,zU6,zU6,zU6,zU6,zU6,zU6,zU6,zU6,zU6,zU6,zU6,zU6,zU6,zU6,zU6,zU6,zU6,zU6,zU6,zU6,zI6,zU6,zU6,zU6,zU6,zU6,zU6,zU6,zU6,zU6,zU6,zU6,zU6,zU6,zU6,zU6,zU6,zU6,zU6,zU6,zU6,zU6,zU6,zU6,zU6,zU6,zU6,zU6,zU6,zU6,zU6,zU6,zU6,zU6,zU6,zU6,zU6,zU6,zU6,zU6,zU6,zU6,zU6,zU6,zU6,zU6,zU6,zU6,zU6,zI6,zU6,zU6,zU6,zU6,zU6,zU6,zU6,zU6,zU6,zU6,zU6,zU6,zU6,zU6,zU6,zU6,zU6,zU6,zU6,zU6,zU6,zU6,zU6,zU6,zU6,zU6,zU6,zU6,zU6,zU6,zU6,zU6,zU6,zU6,zU6,zU6,zU6,zU6,zU6,zU6,zU6,zU6,zU6,zU6,zU6,zU6,zU6,zU6,zU8,zU8,zU8,zU8,zU8,zU8,zU8,zU8,zU8,zU8,zU8,zU8,zU8,zU8,zU8,zU8,zU8,zU8,zU8,zU8,zU8,zU8,zU8,zU8,zU8,zU8,zU8,zU8,zU8,zU8,zU8,zU8,zU8,zU8,zU8,zU8,zU8,zU8]
def zc5:List Value:=[.slice none 0 0,zI6,zU6,zU6,zU6,zU6,zU6,zU6,zU6,zU6,zU6,zU6,zU6,zU6,zU6,zU6,zU6,zU6,zU6,zU6,zU6,zU6,zU6,zU6,zU6,zU6,zU6,zU6,zU6,zU6,zU6,zU6,zU6,zU6,zU6,zU6,zU6,zU6,zU6,zU6,zU6,zU6,zU6,zU6,zU6,zU6,zU6,zU6,zU6,zU6,zI6,zU6,zU6,zU6,zU6,zU6,zU6,zU6,zU6,zU6,zU6,zU6,zU6,zU6,zU6,zU6,zU6,zU6,zU6,zU6,zU6,zU6,zU6,zU6,zU6,zU6,zU6,zU6,zU6,zU6,zU6,zU6,zU6,zU6,zU6,zU6,zU6,zU6,zU6,zU6,zU6,zU6,zU6,zU6,zU6,zU6,zU6,zU6,zU6,zI6,zU6,zU6,zU6,zU6,zU6,zU6,zU6,zU6,zU6,zU6,zU6,zU6,zU6,zU6,zU6,zU6,zU6,zU6,zU6,zU6,zU6,zU6,zU6,zU6,zU6,zU6,zU6,zU6,zU6,zU6,zU6,zU6,zU6,zU6,zU6,zU6,zU6,zU6,zU6,zU6,zU6,zU6,zU6,zU6,zU6,zU6,zU6,zU6,zI6,zU6,zU6,zU6,zU6,zU6,zU6,zU6,zU6,zU6,zU6,zU6,zU6,zU6,zU6,zU6,zU6,zU6,zU6,zU6,zU6,zU6,zU6,zU6,zU6,zU6,zU6,zU6,zU6,zU6,zU6,zU6,zU6,zU6,zU6,zU6,zU6,zU6,zU6,zU6,zU6,zU6,zU6,zU6,zU6,zU6,zU6,zU6,zU6,zI6,zU6,zU6,zU6,zU6,zU6,zU6,zU6,zU6,zU6,zU6,zU6,zU6,zU6,zU6,zU6,zU6,zU6,zU6,zU6,zU6,zU6,zU6,zU6,zU6,zU6,zU6,zU6,zU6,zU6,zU6,zU6,zU6,zU6,zU6,zU6,zU6,zU6,zU6,zU6,zU6,zU6,zU6,zU6,zU6,zU6,zU6,zU6,zU6,zI6,zU6,zU6,zU6,zU6,zU6,zU6,zU6,zU6,zU6,zU6,zU6,zU6,zU6,zU6,zU6,zU6,zU6,zU6,zU6,zU6,zU6,zU6,zU6,zU6,zU6,zU6,zU6,zU6,zU6,zU6,zU6,zU6,zU6,zU6,zU6,zU6,zU6,zU6,zU6,zU6,zU6,zU6,zU6,zU6,zU6,zU6,zU6,zU6,zU8,zU8,zU8,zU8,zU8,zU8,zU8,zU8,zU8,zU8,zU8,zU8,zU8,zU8,zU8,zU8,zU8,zU8,zU8,zU8,zU8,zU8,zU8,zU8,zU8,zU8,zU8,zU8,zU8,zU8,zU8,zU8,zU8,zU8,zU8,zU8,zU8,zU8,.slice none 0 0,.slice none 0 0,.slice none 0 0]
def ztW:List Value:=[zI6,zU8,zU8,zU8,zU8,zU8,zU8,zI6,zU8,zU8,zU8,zU8,zU8,zU8,zI6,zU8,zU8,zU8,zU8,zU8,zU8,zI6,zU8,zU8,zU8,zU8,zU8,zU8,zI6,zU8,zU8,zU8,zU8,zU8,zU8,zI6,zU8,zU8,zU8,zU8,zU8,zU8,zI6,zU8,zU8,zU8,zU8,zU8,zU8,zI6,zU8,zU8,zU8,zU8,zU8,zU8,zI6,zU8,zU8,zU8,zU8,zU8,zU8,zI6,zU8,zU8,zU8,zU8,zU8,zU8,zI6,zU8,zU8,zU8,zU8,zU8,zU8,zI6,zU8,zU8,zU8,zU8,zU8,zU8,zI6,zU8,zU8,zU8,zU8,zU8,zU8,zI6,zU8,zU8,zU8,zU8,zU8,zU8,zI6,zU8,zU8,zU8,zU8,zU8,zU8,zI6,zU8,zU8,zU8,zU8,zU8,zU8,zI6,zU8,zU8,zU8,zU8,zU8,zU8,zI6,zU8,zU8,zU8,zU8,zU8,zU8,zI6,zU8,zU8,zU8,zU8,zU8,zU8,zI6,zU8,zU8,zU8,zU8,zU8,zU8,zI6,zU8,zU8,zU8,zU8,zU8,zU8,zI6,zU8,zU8,zU8,zU8,zU8,zU8,zI6,zU8,zU8,zU8,zU8,zU8,zU8,zI6,zU8,zU8,zU8,zU8,zU8,zU8]
def zmr:List Value:=[zI6,zU8,zU8,zU8,zU8,zU8,zU8,zU8,zU8,zU3,zU3,zU3,zU3,zU3,zU3,zU3,zU3,zU3,zI6,zI6,zU8,zU8,zU8,zU8,zU8,zU8,zI6,zU8,zU8,zU8,zU8,zU8,zU8,zI6,zU8,zU8,zU8,zU8,zU8,zU8,zI6,zU8,zU8,zU8,zU8,zU8,zU8,zI6,zU8,zU8,zU8,zU8,zU8,zU8,zI6,zU8,zU8,zU8,zU8,zU8,zU8,zI6,zU8,zU8,zU8,zU8,zU8,zU8,zI6,zU8,zU8,zU8,zU8,zU8,zU8,zI6,zU8,zU8,zU8,zU8,zU8,zU8,zI6,zU8,zU8,zU8,zU8,zU8,zU8,zI6,zU8,zU8,zU8,zU8,zU8,zU8,zI6,zU8,zU8,zU8,zU8,zU8,zU8,zI6,zU8,zU8,zU8,zU8,zU8,zU8,zI6,zU8,zU8,zU8,zU8,zU8,zU8,zI6,zU8,zU8,zU8,zU8,zU8,zU8,zI6,zU8,zU8,zU8,zU8,zU8,zU8,zI6,zU8,zU8,zU8,zU8,zU8,zU8,zI6,zU8,zU8,zU8,zU8,zU8,zU8,zI6,zU8,zU8,zU8,zU8,zU8,zU8,zI6,zU8,zU8,zU8,zU8,zU8,zU8,zI6,zU8,zU8,zU8,zU8,zU8,zU8,zI6,zU8,zU8,zU8,zU8,zU8,zU8,zI6,zU8,zU8,zU8,zU8,zU8,zU8,zI6,zU8,zU8,zU8,zU8,zU8,zU8,zU3,zU3,zU3,zU3,zU3,zU3,zU3,zU3,zU3,zU3,zU3,zU3,zU3,zU3,zU3,zU3,zU3,zU3,zU3,zU3,zU3,zU3,zU3,zU3,zU3,zU3,zU3,zU3,zU3,zU3,zU3,zU3,zU3,zU3,zU3,zU3,zU3,zU3,zU3,zU3,zU3,zU3,zU3,zU3,zU3,zU3,zU3,zU3,zU3,zU3,zU3,zU3,zU3,zU3,zU3,zU3,zU3,zU3,zU3,zU3,zU3,zU3,zU3,zU3,zU3,zU3,zU3,zU3,zU3,zU3,zU3,zU3]
def ztX:List Value:=zbo++(zqN++(zqN++zqN))
def tt:TT:=[
 (0,⟨.other,1,false,0,none⟩),
 (3,⟨.int .i64,1,false,8,some [.int .i64 0]⟩),
 (4,⟨.bool,1,false,1,some [.bool false]⟩),
 (5,⟨.int .u8,1,false,1,some [.int .u8 0]⟩),
 (9,⟨.string,1,false,16,some [.string ByteArray.empty]⟩),
 (22,⟨.slice 9 1,1,false,24,some [.slice none 0 0]⟩),
 (23,⟨.slice 5 1,1,false,24,some [.slice none 0 0]⟩),
 (24,⟨.slice 51 1,1,false,24,some [.slice none 0 0]⟩),
 (25,⟨.slice 27 5,1,false,24,some [.slice none 0 0]⟩),
 (27,⟨.struct [(0,1,false),(1,1,false),(2,1,false),(3,1,false),(4,1,false)],5,true,32,some [.int .u8 0,.int .u8 0,.int .u8 0,.int .u8 0,.slice none 0 0]⟩),
 (29,⟨.struct [(0,1,false),(1,1,false),(2,1,false),(3,1,false),(4,1,false),(5,5,true)],10,true,128,some [.string ByteArray.empty,.slice none 0 0,.slice none 0 0,.slice none 0 0,.int .u8 0,.int .u8 0,.int .u8 0,.int .u8 0,.int .u8 0,.slice none 0 0]⟩),
 (30,⟨.slice 46 333,1,false,24,some [.slice none 0 0]⟩),
 (33,⟨.other,1,false,8,some [.nilFunc]⟩),
 (34,⟨.slice 49 7,1,false,24,some [.slice none 0 0]⟩),
 (35,⟨.int .u64,1,false,8,some [.int .u64 0]⟩),
 (36,⟨.int .u64,1,false,8,some [.int .u64 0]⟩),
 (37,⟨.array 48 36 1 false,48,true,384,some (List.replicate 48 (.int .u64 0))⟩),
 (39,⟨.struct [(0,1,false),(1,48,true)],49,true,392,some zqN⟩),
 (40,⟨.array 8 5 1 false,8,true,8,some (List.replicate 8 (.int .u8 0))⟩),
 (41,⟨.array 4 40 8 true,32,true,32,some (List.replicate 32 (.int .u8 0))⟩),
 (42,⟨.array 6 5 1 false,6,true,6,some (List.replicate 6 (.int .u8 0))⟩),
 (44,⟨.struct [(0,32,true),(32,6,true)],38,true,38,some (List.replicate 38 (.int .u8 0))⟩),
 (46,⟨.struct [(0,1,false),(1,49,true),(50,49,true),(99,49,true),(148,49,true),(197,49,true),(246,49,true),(295,38,true)],333,true,2416,some zbo⟩),
 (49,⟨.struct [(0,1,false),(1,1,false),(2,1,false),(3,1,false),(4,1,false),(5,1,false),(6,1,false)],7,true,16,some [.int .i64 0,.int .u8 0,.int .u8 0,.int .u8 0,.int .u8 0,.int .u8 0,.int .u8 0]⟩),
 (51,⟨.slice 55 10,1,false,24,some [.slice none 0 0]⟩),
 (53,⟨.struct [(0,1,false),(1,1,false)],2,true,2,some [.bool false,.int .u8 0]⟩),
 (55,⟨.struct [(0,1,false),(1,1,false),(2,1,false),(3,2,true),(5,2,true),(7,1,false),(8,1,false),(9,1,false)],10,true,10,some [.int .u8 0,.int .u8 0,.int .u8 0,.bool false,.int .u8 0,.bool false,.int .u8 0,.int .u8 0,.int .u8 0,.int .u8 0]⟩),
 (56,⟨.int .i64,1,false,8,some [.int .i64 0]⟩),
 (58,⟨.other,1,false,0,none⟩),
 (62,⟨.slice 3 1,1,false,24,some [.slice none 0 0]⟩),
 (66,⟨.other,1,false,0,none⟩),
 (69,⟨.other,1,false,0,none⟩),
 (72,⟨.other,1,false,0,none⟩),
 (79,⟨.other,1,false,8,some [.nilFunc]⟩),
 (81,⟨.ptr 46,1,false,8,some [.pointer none]⟩),
 (82,⟨.other,1,false,8,some [.nilFunc]⟩),
 (83,⟨.slice 87 2,1,false,24,some [.slice none 0 0]⟩),
 (85,⟨.ptr 29,1,false,8,some [.pointer none]⟩),
 (87,⟨.struct [(0,1,false),(1,1,false)],2,true,16,some [.int .i64 0,.nilFunc]⟩),
 (88,⟨.other,1,false,0,none⟩),
 (90,⟨.slice 95 336,1,false,24,some [.slice none 0 0]⟩),
 (91,⟨.other,1,false,0,none⟩),
 (93,⟨.slice 62 1,1,false,24,some [.slice none 0 0]⟩),
 (95,⟨.struct [(0,333,true),(333,1,false),(334,1,false),(335,1,false)],336,true,2488,some zc5⟩),
 (98,⟨.other,1,false,8,some [.nilFunc]⟩),
 (99,⟨.other,1,false,8,some [.nilFunc]⟩),
 (103,⟨.ptr 39,1,false,8,some [.pointer none]⟩),
 (104,⟨.other,1,false,8,some [.nilFunc]⟩),
 (110,⟨.slice 103 1,1,false,24,some [.slice none 0 0]⟩),
 (117,⟨.other,1,false,8,some [.nilFunc]⟩),
 (121,⟨.other,1,false,8,some [.nilFunc]⟩),
 (127,⟨.other,1,false,0,none⟩),
 (129,⟨.slice 130 1,1,false,24,some [.slice none 0 0]⟩),
 (130,⟨.slice 138 12,1,false,24,some [.slice none 0 0]⟩),
 (131,⟨.other,1,false,0,none⟩),
 (133,⟨.other,1,false,8,some [.nilFunc]⟩),
 (134,⟨.other,1,false,8,some [.nilFunc]⟩),
 (136,⟨.slice 231 2,1,false,24,some [.slice none 0 0]⟩),
 (138,⟨.struct [(0,1,false),(1,1,false),(2,1,false),(3,1,false),(4,8,true)],12,true,104,some [.slice none 0 0,.slice none 0 0,.slice none 0 0,.slice none 0 0,.int .u8 0,.int .u8 0,.int .u8 0,.int .u8 0,.int .u8 0,.int .u8 0,.int .u8 0,.int .u8 0]⟩),
 (139,⟨.other,1,false,0,none⟩),
 (141,⟨.ptr 95,1,false,8,some [.pointer none]⟩),
 (142,⟨.slice 93 1,1,false,24,some [.slice none 0 0]⟩),
 (149,⟨.other,1,false,8,some [.nilFunc]⟩),
 (152,⟨.slice 39 49,1,false,24,some [.slice none 0 0]⟩),
 (155,⟨.ptr 157,1,false,8,some [.pointer none]⟩),
 (157,⟨.struct [(0,333,true),(333,49,true),(382,49,true),(431,49,true)],480,true,3592,some ztX⟩),
 (159,⟨.other,1,false,8,some [.nilFunc]⟩),
 (161,⟨.struct [(0,1,false)],1,true,8,some [.nilFunc]⟩),
 (162,⟨.array 7 161 1 true,7,true,56,some (List.replicate 7 (.nilFunc))⟩),
 (164,⟨.slice 169 3,1,false,24,some [.slice none 0 0]⟩),
 (165,⟨.other,1,false,0,none⟩),
 (167,⟨.int .u8,1,false,1,some [.int .u8 0]⟩),
 (169,⟨.struct [(0,1,false),(1,1,false),(2,1,false)],3,true,32,some [.int .u8 0,.string ByteArray.empty,.int .i64 0]⟩),
 (172,⟨.struct [(0,10,true),(10,1,false),(11,1,false)],12,true,32,some [.int .u8 0,.int .u8 0,.int .u8 0,.bool false,.int .u8 0,.bool false,.int .u8 0,.int .u8 0,.int .u8 0,.int .u8 0,.int .i64 0,.int .i64 0]⟩),
 (173,⟨.slice 33 1,1,false,24,some [.slice none 0 0]⟩),
 (176,⟨.ptr 27,1,false,8,some [.pointer none]⟩),
 (178,⟨.array 256 4 1 false,256,true,256,some (List.replicate 256 (.bool false))⟩),
 (179,⟨.other,1,false,8,some [.nilFunc]⟩),
 (180,⟨.other,1,false,8,some [.nilFunc]⟩),
 (182,⟨.ptr 189,1,false,8,some [.pointer none]⟩),
 (183,⟨.int .u32,1,false,4,some [.int .u32 0]⟩),
 (184,⟨.int .u32,1,false,4,some [.int .u32 0]⟩),
 (185,⟨.array 8 184 1 false,8,true,32,some (List.replicate 8 (.int .u32 0))⟩),
 (186,⟨.array 24 49 7 true,168,true,384,some ztW⟩),
 (187,⟨.array 24 184 1 false,24,true,96,some (List.replicate 24 (.int .u32 0))⟩),
 (189,⟨.struct [(0,1,false),(1,8,true),(9,8,true),(17,1,false),(18,1,false),(19,168,true),(187,24,true),(211,24,true),(235,24,true)],259,true,736,some zmr⟩),
 (191,⟨.other,1,false,8,some [.nilFunc]⟩),
 (196,⟨.other,1,false,0,none⟩),
 (199,⟨.other,1,false,8,some [.nilFunc]⟩),
 (200,⟨.other,1,false,8,some [.nilFunc]⟩),
 (202,⟨.other,1,false,8,some [.nilFunc]⟩),
 (203,⟨.other,1,false,8,some [.nilFunc]⟩),
 (206,⟨.other,1,false,8,some [.nilFunc]⟩),
 (207,⟨.other,1,false,0,none⟩),
 (212,⟨.struct [(0,1,false),(1,1,false)],2,true,24,some [.string ByteArray.empty,.int .i64 0]⟩),
 (214,⟨.struct [(0,2,true),(2,1,false)],3,true,32,some [.string ByteArray.empty,.int .i64 0,.bool false]⟩),
 (215,⟨.other,1,false,8,some [.nilFunc]⟩),
 (216,⟨.other,1,false,8,some [.nilFunc]⟩),
 (220,⟨.ptr 172,1,false,8,some [.pointer none]⟩),
 (225,⟨.int .u64,1,false,8,some [.int .u64 0]⟩),
 (226,⟨.other,1,false,8,some [.nilFunc]⟩),
 (229,⟨.slice 184 1,1,false,24,some [.slice none 0 0]⟩),
 (231,⟨.array 2 5 1 false,2,true,2,some [.int .u8 0,.int .u8 0]⟩),
 (238,⟨.ptr 214,1,false,8,some [.pointer none]⟩),
 (239,⟨.other,1,false,8,some [.nilFunc]⟩),
 (240,⟨.other,1,false,0,none⟩),
 (243,⟨.array 9 5 1 false,9,true,9,some (List.replicate 9 (.int .u8 0))⟩),
 (245,⟨.int .i64,1,false,8,some [.int .i64 0]⟩),
 (246,⟨.other,1,false,0,none⟩),
 (255,⟨.array 64 5 1 false,64,true,64,some (List.replicate 64 (.int .u8 0))⟩),
 (257,⟨.other,1,false,0,none⟩),
 (259,⟨.int .u64,1,false,8,some [.int .u64 0]⟩),
 (263,⟨.ptr 3,1,false,8,some [.pointer none]⟩),
 (265,⟨.other,1,false,8,some [.nilFunc]⟩),
 (266,⟨.array 9 265 1 false,9,true,72,some (List.replicate 9 (.nilFunc))⟩),
 (268,⟨.array 32 5 1 false,32,true,32,some (List.replicate 32 (.int .u8 0))⟩),
 (269,⟨.ptr 212,1,false,8,some [.pointer none]⟩),
 (270,⟨.other,1,false,8,some [.nilFunc]⟩),
 (272,⟨.ptr 259,1,false,8,some [.pointer none]⟩),
 (273,⟨.other,1,false,0,none⟩),
 (277,⟨.other,1,false,0,none⟩)]
theorem tk {P:Program} {t:Nat} {i:TI} (h1:(P.info? t).map (fun x=>(x.size,x.bytes))=some (i.size,i.bytes):=by kernel_rfl)
  (h2:∀ z,i.zero=some z->((P.info? t).bind (fun x=>x.zero)).map (fun v=>v.cells.toList)=some z:=by intro z h;cases h;first | done | kernel_rfl) (h3:zp8 P t i=true:=by kernel_rfl):TIok P t i:=zuv h1 h2 h3
theorem jS:TTok PG tt :=
 .cons tk (
 .cons tk (
 .cons tk (
 .cons tk (
 .cons tk (
 .cons tk (
 .cons tk (
 .cons tk (
 .cons tk (
 .cons tk (
 .cons tk (
 .cons tk (
 .cons tk (
 .cons tk (
 .cons tk (
 .cons tk (
 .cons tk (
 .cons tk (
 .cons tk (
 .cons tk (
 .cons tk (
 .cons tk (
 .cons tk (
 .cons tk (
 .cons tk (
 .cons tk (
 .cons tk (
 .cons tk (
 .cons tk (
 .cons tk (
 .cons tk (
 .cons tk (
 .cons tk (
 .cons tk (
 .cons tk (
 .cons tk (
 .cons tk (
 .cons tk (
 .cons tk (
 .cons tk (
 .cons tk (
 .cons tk (
 .cons tk (
 .cons tk (
 .cons tk (
 .cons tk (
 .cons tk (
 .cons tk (
 .cons tk (
 .cons tk (
 .cons tk (
 .cons tk (
 .cons tk (
 .cons tk (
 .cons tk (
 .cons tk (
 .cons tk (
 .cons tk (
 .cons tk (
 .cons tk (
 .cons tk (
 .cons tk (
 .cons tk (
 .cons tk (
 .cons tk (
 .cons tk (
 .cons tk (
 .cons tk (
 .cons tk (
 .cons tk (
 .cons tk (
 .cons tk (
 .cons tk (
 .cons tk (
 .cons tk (
 .cons tk (
 .cons tk (
 .cons tk (
 .cons tk (
 .cons tk (
 .cons tk (
 .cons tk (
 .cons tk (
 .cons tk (
 .cons tk (
 .cons tk (
 .cons tk (
 .cons tk (
 .cons tk (
 .cons tk (
 .cons tk (
 .cons tk (
 .cons tk (
 .cons tk (
 .cons tk (
 .cons tk (
 .cons tk (
 .cons tk (
 .cons tk (
 .cons tk (
 .cons tk (
 .cons tk (
 .cons tk (
 .cons tk (
 .cons tk (
 .cons tk (
 .cons tk (
 .cons tk (
 .cons tk (
 .cons tk (
 .cons tk (
 .cons tk (
 .cons tk (
 .cons tk (
 .cons tk (
 .cons tk (
 .cons tk (
 .cons tk (
 .cons tk (
 .cons tk (
 .cons tk (
 .nil)))))))))))))))))))))))))))))))))))))))))))))))))))))))))))))))))))))))))))))))))))))))))))))))))))))))))))))))))))))))))
theorem ztI:zql PG 3 233 [211,212,213,214,215,216,217,218,219,220,221,222,223,224,225,226,227,228,229,230,231]=true:=by kernel_rfl
theorem mixed:Tryz.prog.follows .mixedOrders=true:=by kernel_rfl
@[reducible] noncomputable def sg (n:Nat):Sig:=⟨PG,tt,n,3,233,none,[211,212,213,214,215,216,217,218,219,220,221,222,223,224,225,226,227,228,229,230,231]⟩
theorem ze7 (n:Nat):SigOk (sg n):=⟨fun t i h=>jS.get t i h,ztJ ztI,mixed⟩
abbrev k0:=jS.get 0 _ rfl
abbrev k3:=jS.get 3 _ rfl
abbrev k4:=jS.get 4 _ rfl
abbrev k5:=jS.get 5 _ rfl
abbrev k23:=jS.get 23 _ rfl
abbrev k24:=jS.get 24 _ rfl
abbrev k29:=jS.get 29 _ rfl
abbrev k30:=jS.get 30 _ rfl
abbrev k34:=jS.get 34 _ rfl
abbrev k36:=jS.get 36 _ rfl
abbrev k39:=jS.get 39 _ rfl
abbrev k40:=jS.get 40 _ rfl
abbrev k46:=jS.get 46 _ rfl
abbrev k49:=jS.get 49 _ rfl
abbrev k51:=jS.get 51 _ rfl
abbrev k53:=jS.get 53 _ rfl
abbrev k55:=jS.get 55 _ rfl
abbrev k56:=jS.get 56 _ rfl
abbrev k62:=jS.get 62 _ rfl
abbrev k87:=jS.get 87 _ rfl
abbrev k90:=jS.get 90 _ rfl
abbrev k93:=jS.get 93 _ rfl
abbrev k95:=jS.get 95 _ rfl
abbrev zuN:=jS.get 121 _ rfl
abbrev zuM:=jS.get 129 _ rfl
abbrev zpJ:=jS.get 130 _ rfl
abbrev zog:=jS.get 138 _ rfl
abbrev zuL:=jS.get 142 _ rfl
abbrev zuK:=jS.get 155 _ rfl
abbrev zub:=jS.get 162 _ rfl
abbrev zro:=jS.get 164 _ rfl
abbrev zkD:=jS.get 169 _ rfl
abbrev zuJ:=jS.get 172 _ rfl
abbrev zlW:=jS.get 184 _ rfl
abbrev zuI:=jS.get 189 _ rfl
abbrev zuH:=jS.get 214 _ rfl
abbrev zua:=jS.get 231 _ rfl
abbrev zrn:=jS.get 259 _ rfl
abbrev zuG:=jS.get 266 _ rfl
abbrev CB (f:FuncId) (args:Array Value) (w:Wd) (v:Value):Prop:=Calls PG f args w fun e w'=>e = .returned v/\Below w.heap.size w w'
theorem qk (n:Nat) (args:List Value) (m:Mk) {f:FuncId} {fn:Func} {c:Code} {w:Wd} {R:Ending->Wd->Prop} (hf:Tryz.prog.funcs[f]?=some fn) (h:wpM (sg n) m c ⟨zd3 0 args,[]⟩ w (zmO (sg n) fn R)) (hb:fn.body=some c:=by rfl) (hn:fn.ntmps=n:=by rfl) (hle:args.length<=n:=by exact JR rfl):Calls PG f args.toArray w R:=zhB (S:=sg n) (ze7 _) m hf hb hn hle rfl h
theorem zF (n:Nat) (args:List Value) {f:FuncId} {fn:Func} {c:Code} {w:Wd} {R:Ending->Wd->Prop} (hf:Tryz.prog.funcs[f]?=some fn) (h:wpE (sg n) c ⟨zd3 0 args,[]⟩ w (zmO (sg n) fn R)) (hb:fn.body=some c:=by rfl) (hn:fn.ntmps=n:=by rfl) (hle:args.length<=n:=by exact JR rfl):Calls PG f args.toArray w R:=zmk (S:=sg n) (ze7 _) hf hb hn hle rfl h
end Go.Proofs.YtkpaomeeknegpaaGreatDoor
namespace Go.Sei
open Go.Vc
structure Msg where
 kind:UInt8
 from_:UInt8
 to:UInt8
 line:UInt8
 asker:UInt8
 acks:UInt8
 alone:Bool
 d0:UInt8
 d1:UInt8
 d2:UInt8
 d3:UInt8
 deriving DecidableEq
def Msg.enc (m:Msg):List Value:=[u8 m.kind,u8 m.from_,u8 m.to,u8 m.line,u8 m.asker,u8 m.acks,.bool m.alone,u8 m.d0,u8 m.d1,u8 m.d2,u8 m.d3]
def Msg.val (m:Msg):Value := .agg m.enc.toArray
def zrq:Enc Int:=⟨fun n=>[.int .i64 n],1,fun _=>rfl,by decide,fun a u hu=>by
 simp only [Uy,Qs,Gf] at hu;subst hu;rfl⟩
end Go.Sei
namespace Go.Proofs.YtkpaomeeknegpaaGreatDoor
open Go.Vc Go.RowKit Go.Sei
def i64 (n:Int):Value := .int .i64 n
theorem zay {off sz:Nat} {cs:List Value} {v:Value} {K:Value->Prop} (h:cs[off]?=some v) (k:K v):zih off sz false cs K:=by
 unfold zih;rw [h];exact k
end Go.Proofs.YtkpaomeeknegpaaGreatDoor
namespace Go.Vc
open Go.RowKit
structure MapK (P:Program) (K:TypeId) {κ:Type} [DecidableEq κ] (key:κ->Value):Prop where
 check:∀ q e w,(Instr.checkKey e 10000 K (key q)).run P w = .ok () w
 eq:∀ q q' w,(Op.equal K (key q) (key q')).run P w = .ok (decide (q=q')) w
 same:∀ q,Instr.sameBits 10000 (key q) (key q)=true
 desc:∃ d,P.underlying K=some d/\∀ q q',Instr.sameNow d (key q) (key q')=none\/Instr.sameNow d (key q) (key q')=some (decide (q=q'))
section
variable {P:Program} {K:TypeId} {κ:Type} [DecidableEq κ] {key:κ->Value}
abbrev Ent (κ:Type):=κ×Value×Nat
def entry (key:κ->Value) (e:Ent κ):MapEntry:=⟨key e.1,e.2.1,e.2.2⟩
def zsB (q:κ):List (Ent κ)->Nat->Option (Nat×Value)
 | [],_=>none
 | e::r,i=>if q=e.1 then some (i,e.2.1) else zsB q r (i+1)
def asF (es:List (Ent κ)) (q:κ):Option Value:=(zsB q es 0).map (·.2)
def MapF (key:κ->Value) (w:Wd) (r:Nat) (f:κ->Option Value):Prop :=
 ∃ (es:List (Ent κ)) (clock:Nat),w.heap[r]?=some (.map (es.map (entry key)).toArray clock)/\(∀ q,asF es q=f q)/\(es.map (·.1)).Nodup/\(es.map (·.2.2)).Nodup/\(∀ e∈es,e.2.2<clock)
def MapS (key:κ->Value) (w:Wd) (r:Nat) (f:κ->Option Value) (q:κ) (born:Nat):Prop :=
 ∃ (es:List (Ent κ)) (clock:Nat),w.heap[r]?=some (.map (es.map (entry key)).toArray clock)/\(∀ q,asF es q=f q)/\(es.map (·.1)).Nodup/\(es.map (·.2.2)).Nodup/\(∀ e∈es,e.2.2<clock)/\∃ v,(q,v,born)∈es
theorem MapS.map {w:Wd} {r:Nat} {f:κ->Option Value} {q:κ} {born:Nat} (h:MapS key w r f q born):MapF key w r f:=by
 obtain⟨es,clock,h1,h2,h3,h4,h5,_⟩:=h;exact⟨es,clock,h1,h2,h3,h4,h5⟩
theorem MapF.below {w w2:Wd} {r:Nat} {f:κ->Option Value} (h:MapF key w r f) (hb:Bw w w2):MapF key w2 r f:=by
 obtain⟨es,clock,hh,qp⟩:=h;exact⟨es,clock,zb hb hh,qp⟩
theorem MapF.same {w w2:Wd} {r:Nat} {f:κ->Option Value} (h:MapF key w r f) (hb:w2.heap[r]?=w.heap[r]?):MapF key w2 r f:=by
 obtain⟨es,clock,hh,qp⟩:=h;exact⟨es,clock,hb.trans hh,qp⟩
theorem zcv {w:Wd} {r:Nat} {o o':Obj} (h:w.heap[r]?=some o):(w.putObj r o').heap[r]?=some o':=by
 have:r<w.heap.size:=hlt h;simp [World.putObj,this]
theorem zj {w:Wd} {r k:Nat} {o:Obj} (h:k≠r):(w.putObj r o).heap[k]?=w.heap[k]?:=by
 have:¬ r=k:=fun e=>h e.symm;simp [World.putObj,this]
theorem q8 {B:Nat} {a w:Wd} (h:Below B a w) {r:Nat} (hr:B<=r) (o:Obj):Below B a (w.putObj r o) :=
 h.trans ⟨rfl,rfl,rfl,by simp [World.putObj],fun k hk=>zj (by omega)⟩
end
structure Step (n0 : Nat) (Fp : Wd → Nat → Prop) (A B : Wd) : Prop where
  os : B.os = A.os
  tape : B.tape = A.tape
  output : B.output = A.output
  size : A.heap.size ≤ B.heap.size
  same : ∀ k, k < A.heap.size → (k < n0 ∨ Fp A k) → B.heap[k]? = A.heap[k]?
structure Keeps (Fp : Wd → Nat → Prop) (A B : Wd) : Prop where
  os : B.os = A.os
  tape : B.tape = A.tape
  output : B.output = A.output
  size : A.heap.size ≤ B.heap.size
  same : ∀ k, k < A.heap.size → ¬ Fp A k → B.heap[k]? = A.heap[k]?
  fp : ∀ k, Fp B k → Fp A k ∨ A.heap.size ≤ k
structure IterJ {σ : Type} (n0 : Nat) (Fp : Wd → Nat → Prop) (J : σ → Wd → Prop) : Prop where
  step : ∀ s A B, J s A → Step n0 Fp A B → J s B ∧ ∀ k, Fp B k → Fp A k
  lt : ∀ s A k, J s A → Fp A k → k < A.heap.size
theorem Step.mono {n0 n1 : Nat} {Fp : Wd → Nat → Prop} {A B : Wd} (h : Step n0 Fp A B) (hn : n1 ≤ n0) : Step n1 Fp A B :=
  ⟨h.os, h.tape, h.output, h.size, fun k hk hf => h.same k hk (hf.imp (fun h => KD h hn) id)⟩
theorem IterJ.mono {σ : Type} {n0 n1 : Nat} {Fp : Wd → Nat → Prop} {J : σ → Wd → Prop} (h : IterJ n0 Fp J) (hn : n0 ≤ n1) : IterJ n1 Fp J :=
  ⟨fun s A B hj hs => h.step s A B hj (hs.mono hn), h.lt⟩
theorem Step.of_below {n0 : Nat} {Fp : Wd → Nat → Prop} {A B : Wd} (h : Below A.heap.size A B) : Step n0 Fp A B :=
  ⟨h.os, h.tape, h.output, h.size, fun k hk _ => h.block k hk⟩
theorem Step.alloc {n0 : Nat} {Fp : Wd → Nat → Prop} (A : Wd) (o : Obj) : Step n0 Fp A (A.alloc o) := .of_below ((UW _ A).alloc (UR _) o)
theorem Step.drew {n0 : Nat} {Fp : Wd → Nat → Prop} (A : Wd) : Step n0 Fp A A.drew := .of_below (UW _ A).drew
theorem Step.put {n0 : Nat} {Fp : Wd → Nat → Prop} {A : Wd} {l : Nat} (h : n0 ≤ l) (hf : ¬ Fp A l) (o : Obj) : Step n0 Fp A (A.putObj l o) :=
  ⟨rfl, rfl, rfl, by simp [World.putObj], fun k _ hk => zj (fun e => by subst e; rcases hk with hk | hk; omega; exact hf hk)⟩
theorem Step.row {n0 : Nat} {Fp : Wd → Nat → Prop} {A : Wd} {l : Nat} (h : n0 ≤ l) (hf : ¬ Fp A l) (cs : Array Value) : Step n0 Fp A (A.setRow l cs) :=
  ⟨rfl, rfl, rfl, by simp, fun k _ hk => zq (fun e => by subst e; rcases hk with hk | hk; omega; exact hf hk)⟩
theorem YieldR.mono {P : Program} {l : Nat} {args : Array Value} {w : Wd} {K K' : Value → Wd → Prop} (h : YieldR P l args w K) (hk : ∀ v w, K v w → K' v w) : YieldR P l args w K' := by
  obtain ⟨fn, tmps, assign, body, hy, hR⟩ := h
  exact ⟨fn, tmps, assign, body, hy, hR.mono fun e w' he => by cases e <;> first | exact hk _ _ he | exact he⟩
def zgx : List Nat → List Value → VEnv → VEnv
  | p :: ps, v :: vs, E => zgx ps vs ((p, v) :: E)
  | _, _, E => E
theorem zbZ {S : Sig} : ∀ (ps : List Nat) (vs : List Value) (a : Act) (E : Env), Agrees S a E → (∀ p ∈ ps, p < S.n) →
    Agrees S { a with tmps := (ps.zip vs).foldl (fun t (p, v) => t.setIfInBounds p v) a.tmps } ⟨zgx ps vs E.vs, E.ds⟩
  | [], vs, a, E, h, _ => by simpa [zgx] using h
  | p :: ps, [], a, E, h, _ => by simpa [zgx] using h
  | p :: ps, v :: vs, a, E, h, hp => by
    have h1 := h.put (dst := some p) (by simpa [zm0] using hp p Kx) v
    have h2 := zbZ ps vs (a.put (some p) v) (zfW (some p) v E) h1 (fun q hq => hp q (JW _ hq))
    simpa [zgx, zfW, Act.put] using h2
def sr (S : Sig) (l : Nat) : Sig := { S with r := some l }
theorem zh6 {S : Sig} (h : SigOk S) (l : Nat) : SigOk (sr S l) := ⟨h.ty, h.call, h.mixed⟩
def zuh {α : Type} (Fp : Wd → Nat → Prop) (J : List α → Wd → Prop) (Jx : Exit → List α → Wd → Prop) (xs : List α) (A : Wd) : Exit → Env → Wd → Prop
  | .normal, _, B => J xs B ∧ Keeps Fp A B
  | .ret, _, B => Jx .ret xs B ∧ Keeps Fp A B
  | .exit id, _, B => Jx (.exit id) xs B ∧ Keeps Fp A B
  | _, _, _ => False
theorem Keeps.trans {Fp : Wd → Nat → Prop} {A B C : Wd} (h : Keeps Fp A B) (k : Keeps Fp B C) : Keeps Fp A C :=
  ⟨k.os.trans h.os, k.tape.trans h.tape, k.output.trans h.output, UI h.size k.size,
   fun i hi hf => (k.same i (KD hi h.size) (fun hb => by rcases h.fp i hb with h1 | h1; exact hf h1; omega)).trans (h.same i hi hf),
   fun i hi => Or.elim (k.fp i hi) (fun h1 => h.fp i h1) fun h1 => .inr (UI h.size h1)⟩
theorem Keeps.refl (Fp : Wd → Nat → Prop) (A : Wd) : Keeps Fp A A := ⟨rfl, rfl, rfl, UR _, fun _ _ _ => rfl, fun _ h => .inl h⟩
theorem Keeps.of_below {Fp : Wd → Nat → Prop} {A B : Wd} (h : Below A.heap.size A B) (hf : ∀ k, Fp B k → Fp A k ∨ A.heap.size ≤ k) : Keeps Fp A B :=
  ⟨h.os, h.tape, h.output, h.size, fun k hk _ => h.block k hk, hf⟩
theorem zo {P : Program} {X : Wd} {T : TypeId} {iT : TI} (hT : TIok P T iT) {cs : Array Value} {t : TypeId} {v : Value} (hv : v.cells.size = iT.size) (hc : cs.size = iT.size)
    (h0 : v.cells.toList.all Value.oneCell' = true) {K : Wd → Prop}
    (k : ∀ Y, Below X.heap.size X Y → Y.heap[X.heap.size]? = some (.cells v.cells t (0, 0)) → Y.heap.size = X.heap.size + 1 → K Y) :
    SatR ((storeVar T ⟨X.heap.size, 0, none⟩ v).run P (X.alloc (.cells cs t))) fun _ w' => K w' :=
  zt hT (zy X _) hv hc h0 (k _ (zl ((UW _ X).alloc (UR _) _) (UR _) _) (zn (zy X _)) (by simp))
structure StepO (n0 : Nat) (Ow : Nat → Prop) (Fp : Wd → Nat → Prop) (A B : Wd) : Prop where
  os : B.os = A.os
  tape : B.tape = A.tape
  output : B.output = A.output
  size : A.heap.size ≤ B.heap.size
  same : ∀ k, k < A.heap.size → ((k < n0 ∧ ¬ Ow k) ∨ Fp A k) → B.heap[k]? = A.heap[k]?
theorem Step.o {n0 : Nat} {Ow : Nat → Prop} {Fp : Wd → Nat → Prop} {A B : Wd} (h : Step n0 Fp A B) : StepO n0 Ow Fp A B :=
  ⟨h.os, h.tape, h.output, h.size, fun k hk hf => h.same k hk (hf.imp (fun h => h.1) id)⟩
theorem StepO.mono {n0 n1 : Nat} {Ow : Nat → Prop} {Fp : Wd → Nat → Prop} {A B : Wd} (h : StepO n0 Ow Fp A B) (hn : n1 ≤ n0) : StepO n1 Ow Fp A B :=
  ⟨h.os, h.tape, h.output, h.size, fun k hk hf => h.same k hk (hf.imp (fun h => ⟨KD h.1 hn, h.2⟩) id)⟩
structure IterJO {σ : Type} (n0 : Nat) (Ow : Nat → Prop) (Fp : Wd → Nat → Prop) (J : σ → Wd → Prop) : Prop where
  step : ∀ s A B, J s A → StepO n0 Ow Fp A B → J s B ∧ ∀ k, Fp B k → Fp A k
  lt : ∀ s A k, J s A → Fp A k → k < A.heap.size ∧ ¬ Ow k
theorem IterJO.mono {σ : Type} {n0 n1 : Nat} {Ow : Nat → Prop} {Fp : Wd → Nat → Prop} {J : σ → Wd → Prop} (h : IterJO n0 Ow Fp J) (hn : n0 ≤ n1) : IterJO n1 Ow Fp J :=
  ⟨fun s A B hj hs => h.step s A B hj (hs.mono hn), h.lt⟩
def zsK {α : Type} (P : Program) (g : Nat) (lb : List Value) (xs : List α) (W0 : Wd) (Rd Ow : Nat → Prop) (St : List α → List Value → Wd → Prop) : Prop :=
  ∀ (l : Nat) (Fp : Wd → Nat → Prop) (J Jx : List α → Wd → Prop) (W : Wd), W0.heap.size ≤ W.heap.size → (∀ k, Rd k ∨ Ow k → W.heap[k]? = W0.heap[k]?) → (∀ k, Rd k → ¬ Fp W k) →
    IterJO W.heap.size Ow Fp J → IterJO W.heap.size Ow Fp Jx →
    (∀ pre x vs W1, J pre W1 → St (pre ++ [x]) vs W1 → (pre ++ [x]) <+: xs → YieldR P l vs.toArray W1 fun v W2 =>
      (v = .bool true ∧ J (pre ++ [x]) W2 ∧ Keeps Fp W1 W2) ∨ (v = .bool false ∧ Jx (pre ++ [x]) W2)) →
    J [] W →
    Calls P g (.func (.yield l) #[] #[] :: lb).toArray W fun e W' => (∃ v, e = .returned v) ∧ (J xs W' ∨ ∃ pre, pre <+: xs ∧ Jx pre W')
theorem zsY {α : Type} {S : Sig} (hS : SigOk S) (hr : S.r = none) {f : Operand} {ps : Array Tmp} {assign body : Code} {E : Env} {w : Wd} {Q : Exit → Env → Wd → Prop}
    {gf : Nat} {lb : Array Value} (hg : opd E f = some (.func (.func gf) #[] lb)) (hok : jP S gf = true)
    {xs : List α} {W0 : Wd} {Rd Ow : Nat → Prop} {St : List α → List Value → Wd → Prop} (hI : zsK S.P gf lb.toList xs W0 Rd Ow St) (hW0 : W0.heap.size ≤ w.heap.size) (hRd : ∀ k, Rd k ∨ Ow k → k < W0.heap.size ∧ w.heap[k]? = W0.heap[k]?)
    (hps : ∀ pre vs W, St pre vs W → vs.length = ps.size) (hpn : ∀ p ∈ ps.toList, p < S.n)
    (Fp : Wd → Nat → Prop) (J : List α → Wd → Prop) (Jx : Exit → List α → Wd → Prop) (hRF : ∀ k, Rd k → ¬ Fp w k)
    (hJ : IterJO w.heap.size Ow Fp J) (hJx : ∀ ex, IterJO w.heap.size Ow Fp (Jx ex)) (h0 : J [] w)
    (hround : ∀ (l : Nat) (pre : List α) (x : α) (vs : List Value) (W : Wd), w.heap.size ≤ l → (pre ++ [x]) <+: xs → J pre W → St (pre ++ [x]) vs W → ¬ Fp W l → l < W.heap.size →
      wpE (sr S l) assign ⟨zgx ps.toList vs E.vs, []⟩ W fun ex E1 W1 => ex = .normal ∧ Keeps Fp W W1 ∧ J pre W1 ∧
        ∀ o W2, W2 = W1.putObj l o → J pre W2 → (∀ k, Fp W2 k → Fp W1 k) → wpE (sr S l) body E1 W2 (zuh Fp J Jx (pre ++ [x]) W2))
    (hdone : ∀ D W, w.heap.size ≤ D → ¬ Fp W D → J xs W → W.heap[D]? = some (.deferred (some [])) → Q .normal ⟨E.vs, { target := .collected D, args := #[] } :: E.ds⟩ W)
    (hstop : ∀ D ex pre W, w.heap.size ≤ D → ¬ Fp W D → pre <+: xs → Jx ex pre W → W.heap[D]? = some (.deferred (some [])) → Q ex ⟨E.vs, { target := .collected D, args := #[] } :: E.ds⟩ W) :
    zjE S f ps assign body E w Q := by
  intro a ha
  have hcall : ∀ args w, (callFunc gf args).run S.P w = .ok (.enter gf args) w := by
    simp only [jP, Qe, UX, UY] at hok
    exact fun args w => hS.call gf hok.1.1 hok.1.2 hok.2 args w
  refine wpIn_rangeFunc ?_
  intro fn hfn
  have hro : (FR S.r).round = none := hr
  rw [hro]
  obtain ⟨rec, hrec⟩ : ∃ rec : LoopState → Option Code → Loop, rec = fun st pe => { state := st, pending := pe, fn, tmps := a.tmps, params := ps, assign, body, defers := w.heap.size } := ⟨_, rfl⟩
  obtain ⟨W1, hW1⟩ : ∃ W1, (w.alloc (.deferred (some []))).alloc (.loop (rec .ready none)) = W1 := ⟨_, rfl⟩
  have hK0 := zy w (.deferred (some []))
  have hK1 : W1.heap[w.heap.size]? = some (.deferred (some [])) := by rw [← hW1]; exact qJ _ hK0
  have hL1 : W1.heap[w.heap.size + 1]? = some (.loop (rec .ready none)) := by
    rw [← hW1]; have := zy (w.alloc (.deferred (some []))) (.loop (rec .ready none)); rwa [World.size_alloc] at this
  have hs1 : W1.heap.size = w.heap.size + 2 := by rw [← hW1]; simp
  have hst1 : Step w.heap.size Fp w W1 := by
    rw [← hW1]; exact .of_below (((UW _ w).alloc (UR _) _).alloc (by simp) _)
  obtain ⟨hJ1, hF1⟩ := hJ.step _ _ _ h0 hst1.o
  have hOl : ∀ k, w.heap.size ≤ k → ¬ Ow k := fun k hk ho => by have := (hRd k (.inr ho)).1; omega
  have hFl : ∀ k, Fp W1 k → k < w.heap.size := fun k hk => (hJ.lt _ _ k h0 (hF1 k hk)).1
  refine ⟨w.heap.size + 1, [{ target := .collected w.heap.size, args := #[] }], W1, { target := .fn (.func gf) lb, args := #[.func (.yield (w.heap.size + 1)) #[] #[]] }, W1, gf,
    #[.func (.yield (w.heap.size + 1)) #[] #[]] ++ lb, W1, ?_, ?_, fun _ _ => trivial, ?_, fun h => by simp [FR] at h, ?_⟩
  · rw [← hW1, hrec]; exact Kn _ _ _ _ _
  · have hg' := ha.eval hg
    simp only [resolve, hg']
    simp [go_sem]
  · simp [invoke, go_sem, hcall]
  · have hargs : #[Value.func (.yield (w.heap.size + 1)) #[] #[]] ++ lb = (Value.func (.yield (w.heap.size + 1)) #[] #[] :: lb.toList).toArray := by rw [← Qb]; simp
    rw [hargs]
    have book : ∀ {σ : Type} {K : σ → Wd → Prop} (lo : Loop), IterJO w.heap.size Ow Fp K → IterJO W1.heap.size Ow Fp (fun s W => K s W ∧ W.heap[w.heap.size + 1]? = some (.loop lo) ∧ W.heap[w.heap.size]? = some (.deferred (some [])) ∧ ¬ Fp W (w.heap.size + 1) ∧ ¬ Fp W w.heap.size) := by
      intro σ K lo hK
      refine ⟨fun s A B ⟨hk, hl, hd, hf1, hf2⟩ hs => ?_, fun s A k ⟨hk, _⟩ hf => hK.lt s A k hk hf⟩
      obtain ⟨h1, h2⟩ := hK.step s A B hk (hs.mono (by omega))
      exact ⟨⟨h1, (hs.same _ (hlt hl) (.inl ⟨by omega, hOl _ (by omega)⟩)).trans hl, (hs.same _ (hlt hd) (.inl ⟨by omega, hOl _ (by omega)⟩)).trans hd, fun h => hf1 (h2 _ h), fun h => hf2 (h2 _ h)⟩, h2⟩
    have hcalls := hI (w.heap.size + 1) Fp (fun pre W => J pre W ∧ W.heap[w.heap.size + 1]? = some (.loop (rec .ready none)) ∧ W.heap[w.heap.size]? = some (.deferred (some [])) ∧ ¬ Fp W (w.heap.size + 1) ∧ ¬ Fp W w.heap.size)
      (fun pre W => ∃ ex c, ((ex = .ret ∧ c = .ret) ∨ ∃ id, ex = .exit id ∧ c = .exit id) ∧ Jx ex pre W ∧ W.heap[w.heap.size + 1]? = some (.loop (rec .done (some c))) ∧ W.heap[w.heap.size]? = some (.deferred (some [])) ∧ ¬ Fp W (w.heap.size + 1) ∧ ¬ Fp W w.heap.size)
      W1 (by omega) (fun k hk => by
        obtain ⟨h1, h2⟩ := hRd k hk
        rw [← h2]
        exact hst1.same k (by omega) (.inl (by omega))) (fun k hk hf => hRF k hk (hF1 k hf)) (book _ hJ)
      ⟨fun s A B ⟨ex, c, hc, hrest⟩ hs => by
        have := (book (rec .done (some c)) (hJx ex)).step s A B hrest hs
        exact ⟨⟨ex, c, hc, this.1⟩, this.2⟩,
       fun s A k ⟨ex, c, hc, hrest⟩ hf => (hJx ex).lt s A k hrest.1 hf⟩ ?_ ⟨hJ1, hL1, hK1, fun h => by have := hFl _ h; omega, fun h => by have := hFl _ h; omega⟩
    · refine zcU (hcalls.mono ?_)
      rintro e W2 ⟨⟨v, rfl⟩, (⟨hj, hl, hk, hf1, hf2⟩ | ⟨pre, hpre, ex, c, hc, hj, hl, hk, hf1, hf2⟩)⟩
      · have hst : Step w.heap.size Fp W2 (W2.putObj (w.heap.size + 1) (.loop (rec .exhausted none))) := .put (by omega) hf1 _
        obtain ⟨hj2, hfp2⟩ := hJ.step _ _ _ hj hst.o
        refine ⟨none, _, by have := UV (P := S.P) hl (by rw [hrec]; simp); rw [hrec] at this; exact this, ?_⟩
        rw [hrec] at hj2 hfp2
        exact ⟨⟨E.vs, { target := .collected w.heap.size, args := #[] } :: E.ds⟩, ⟨ha.size, by simp [ha.defers], ha.val⟩, hdone w.heap.size _ (UR _) (fun h => hf2 (hfp2 _ h)) hj2 ((zj (by omega)).trans hk)⟩
      · have hst : Step w.heap.size Fp W2 (W2.putObj (w.heap.size + 1) (.loop (rec .exhausted (some c)))) := .put (by omega) hf1 _
        obtain ⟨hj2, hfp2⟩ := (hJx ex).step _ _ _ hj hst.o
        refine ⟨some c, _, by have := UV (P := S.P) hl (by rw [hrec]; simp); rw [hrec] at this; exact this, ?_⟩
        rw [hrec] at hj2 hfp2
        have hq := hstop w.heap.size ex pre _ (UR _) (fun h => hf2 (hfp2 _ h)) hpre hj2 ((zj (by omega)).trans hk)
        rcases hc with ⟨rfl, rfl⟩ | ⟨id, rfl, rfl⟩
        · exact wpIn_ret ⟨⟨E.vs, { target := .collected w.heap.size, args := #[] } :: E.ds⟩, ⟨ha.size, by simp [ha.defers], ha.val⟩, hq⟩
        · exact wpIn_exit ⟨⟨E.vs, { target := .collected w.heap.size, args := #[] } :: E.ds⟩, ⟨ha.size, by simp [ha.defers], ha.val⟩, hq⟩
    ·
      rintro pre x vs W ⟨hj, hl, hk, hf1, hf2⟩ hst0 hpre
      have hy := run_yield (P := S.P) (args := vs.toArray) hl (by rw [hrec]; simpa using hps _ _ _ hst0)
      rw [hrec] at hy
      refine ⟨fn, _, assign, body, hy, zb0 (r := none) (n := NN) (roundIn_of_wpIn (F := FR none) trivial ?_)⟩
      have hag : Agrees (sr S (w.heap.size + 1)) { tmps := (ps.zip vs.toArray).foldl (fun t (p, v) => t.setIfInBounds p v) a.tmps, defers := [] } ⟨zgx ps.toList vs E.vs, []⟩ := by
        have h1 : Agrees (sr S (w.heap.size + 1)) { a with defers := [] } ⟨E.vs, []⟩ := ⟨ha.size, rfl, ha.val⟩
        have h2 := zbZ ps.toList vs _ _ h1 hpn
        have e : (ps.zip vs.toArray).foldl (fun t (p, v) => t.setIfInBounds p v) a.tmps = (ps.toList.zip vs).foldl (fun t (p, v) => t.setIfInBounds p v) a.tmps := by
          rw [← Ko]; simp
        rw [e]; exact h2
      have hw := qV (zh6 hS _) assign _ _ W _ hag (hround (w.heap.size + 1) pre x vs W (by omega) hpre hj hst0 hf1 (hlt hl))
      refine Gb hw ?_
      rintro ex a1 Wa ⟨E1, hag1, rfl, hk1, hj1, hbody⟩
      have hla := (hk1.same _ (hlt hl) hf1).trans hl
      have hka := (hk1.same _ (hlt hk) hf2).trans hk
      have hfa1 : ¬ Fp Wa (w.heap.size + 1) := fun h => by rcases hk1.fp _ h with h | h; exact hf1 h; have := hlt hl; omega
      have hfa2 : ¬ Fp Wa w.heap.size := fun h => by rcases hk1.fp _ h with h | h; exact hf2 h; have := hlt hk; omega
      refine ⟨_, run_beginRound hla (by rw [hrec]), ?_⟩
      have hst : Step w.heap.size Fp Wa (Wa.putObj (w.heap.size + 1) (.loop { rec .ready none with state := .busy })) := .put (by omega) hfa1 _
      obtain ⟨hj2, hfp2⟩ := hJ.step _ _ _ hj1 hst.o
      have hw2 := qV (zh6 hS _) body _ _ _ _ hag1 (hbody _ _ rfl hj2 hfp2)
      refine Gb hw2 ?_
      have hl2 : (Wa.putObj (w.heap.size + 1) (.loop { rec .ready none with state := .busy })).heap[w.heap.size + 1]? = some (.loop { rec .ready none with state := .busy }) := zcv hla
      have hk2 : (Wa.putObj (w.heap.size + 1) (.loop { rec .ready none with state := .busy })).heap[w.heap.size]? = some (.deferred (some [])) := (zj (by omega)).trans hka
      have hfb1 : ¬ Fp (Wa.putObj (w.heap.size + 1) (.loop { rec .ready none with state := .busy })) (w.heap.size + 1) := fun h => hfa1 (hfp2 _ h)
      have hfb2 : ¬ Fp (Wa.putObj (w.heap.size + 1) (.loop { rec .ready none with state := .busy })) w.heap.size := fun h => hfa2 (hfp2 _ h)
      have fin : ∀ (jump : Option Code) (W3 : Wd), Keeps Fp (Wa.putObj (w.heap.size + 1) (.loop { rec .ready none with state := .busy })) W3 →
          (Instr.endRound (w.heap.size + 1) jump).run S.P W3 = .ok (.bool jump.isNone) (W3.putObj (w.heap.size + 1) (.loop (rec (if jump.isNone then .ready else .done) jump))) ∧
          (W3.putObj (w.heap.size + 1) (.loop (rec (if jump.isNone then .ready else .done) jump))).heap[w.heap.size + 1]? = some (.loop (rec (if jump.isNone then .ready else .done) jump)) ∧
          (W3.putObj (w.heap.size + 1) (.loop (rec (if jump.isNone then .ready else .done) jump))).heap[w.heap.size]? = some (.deferred (some [])) ∧
          Step w.heap.size Fp W3 (W3.putObj (w.heap.size + 1) (.loop (rec (if jump.isNone then .ready else .done) jump))) ∧ ¬ Fp W3 (w.heap.size + 1) ∧ ¬ Fp W3 w.heap.size := fun jump W3 hk3 => by
        have hl3 := (hk3.same _ (hlt hl2) hfb1).trans hl2
        have hd3 := (hk3.same _ (hlt hk2) hfb2).trans hk2
        have hf31 : ¬ Fp W3 (w.heap.size + 1) := fun h => by rcases hk3.fp _ h with h | h; exact hfb1 h; have := hlt hl2; omega
        have hf32 : ¬ Fp W3 w.heap.size := fun h => by rcases hk3.fp _ h with h | h; exact hfb2 h; have := hlt hk2; omega
        have := run_endRound (P := S.P) jump hl3
        rw [hrec] at this ⊢
        exact ⟨this, zcv hl3, (zj (by omega)).trans hd3, .put (by omega) hf31 _, hf31, hf32⟩
      rintro e a3 W3 ⟨E3, _, hq⟩
      cases e with
      | normal =>
        obtain ⟨hj3, hk3⟩ := hq
        obtain ⟨hr3, hl4, hk4, hs3, hf31, hf32⟩ := fin none W3 hk3
        obtain ⟨hj4, hfp4⟩ := hJ.step _ _ _ hj3 hs3.o
        refine ⟨_, _, hr3, .inl ⟨rfl, ⟨hj4, hl4, hk4, fun h => hf31 (hfp4 _ h), fun h => hf32 (hfp4 _ h)⟩, ?_⟩⟩
        refine ⟨hs3.os.trans (hk3.os.trans hk1.os), hs3.tape.trans (hk3.tape.trans hk1.tape), hs3.output.trans (hk3.output.trans hk1.output), ?_, fun k hk5 hf5 => ?_, fun k hk5 => ?_⟩
        · have h1 := hk1.size; have h2 := hst.size; have h3 := hk3.size; have h4 := hs3.size; omega
        · by_cases hkl : k = w.heap.size + 1
          · subst hkl; rw [hl4, hl]; rfl
          · have h1 : ¬ Fp Wa k := fun h => by rcases hk1.fp _ h with h | h; exact hf5 h; omega
            have h2 := hk1.size; have h3 := hst.size
            rw [zj hkl, hk3.same k (by omega) (fun h => h1 (hfp2 _ h)), zj hkl]
            exact hk1.same k hk5 hf5
        · have h1 := hfp4 _ hk5
          rcases hk3.fp _ h1 with h2 | h2
          · exact hk1.fp _ (hfp2 _ h2)
          · have h3 := hk1.size; have h4 := hst.size; exact .inr (by omega)
      | ret =>
        obtain ⟨hj3, hk3⟩ := hq
        obtain ⟨hr3, hl4, hk4, hs3, hf31, hf32⟩ := fin (some .ret) W3 hk3
        obtain ⟨hj4, hfp4⟩ := (hJx .ret).step _ _ _ hj3 hs3.o
        exact ⟨_, _, hr3, .inr ⟨rfl, .ret, .ret, .inl ⟨rfl, rfl⟩, hj4, hl4, hk4, fun h => hf31 (hfp4 _ h), fun h => hf32 (hfp4 _ h)⟩⟩
      | exit id =>
        obtain ⟨hj3, hk3⟩ := hq
        obtain ⟨hr3, hl4, hk4, hs3, hf31, hf32⟩ := fin (some (.exit id)) W3 hk3
        obtain ⟨hj4, hfp4⟩ := (hJx (.exit id)).step _ _ _ hj3 hs3.o
        exact ⟨_, _, hr3, .inr ⟨rfl, .exit id, .exit id, .inr ⟨id, rfl, rfl⟩, hj4, hl4, hk4, fun h => hf31 (hfp4 _ h), fun h => hf32 (hfp4 _ h)⟩⟩
      | goto t => exact hq.elim
      | panic ch => exact hq.elim
      | outgrown => exact hq.elim
end Go.Vc
namespace Go.Vc
open Go.RowKit Go.Lib
theorem zoE (b o i:Nat):(⟨b,o,none⟩:Addr).add i=⟨b,o+i,none⟩:=by
 unfold Addr.add;by_cases h:i=0
 ·simp [h]
 ·simp [h]
theorem zcS (p:OA) (cap sz:Nat):ji p cap 0 sz=p:=by
 unfold ji
 split
 ·rfl
 ·cases p with
  | none=>rfl
  | some a=>simp [Addr.add]
section
variable {α:Type} {E:Enc α} {w:Wd} {p:OA} {l:List α}
theorem SlR.sub (h:SlR E w p l) {cap lo hi:Nat} (h1:lo<=hi) (h2:hi<=l.length) (h3:l.length<=cap):SlR E w (ji p cap lo E.sz) ((l.drop lo).take (hi-lo)):=by
 by_cases he:hi=lo
 ·left;subst he;simp
 ·rcases h with rfl | ⟨b,o,rfl,hb,hc⟩
  ·left;simp
  ·right;refine⟨b,o+lo*E.sz,?_,hb,fun i hi2=>?_⟩
   ·unfold ji;rw [Gh (by omega)];simp [zoE]
   ·simp only [Qr,Qq] at hi2;have:=hc (lo+i) (by omega);rw [List.getElem_take,List.getElem_drop];rw [Uz,<- UQ];exact this
theorem SlR.none (h:SlR E w none l):l=[]:=by
 rcases h with h | ⟨b,o,h,_⟩
 ·exact h
 ·cases h
theorem zgl {P:Program} {t T ty B cap m c:Nat} {a:OA} {news:List α} {iT:TI} {z:List Value} (hu:P.underlying t=some (.slice T)) (hT:TIok P T iT) (hz:iT.zero=some z)
  (hs:iT.size=E.sz) (hzl:z.length=E.sz) (ho:OwnS E T B w p cap l) (hm:news.length=m) (hn:SlR E w a news) (hc:a=none->c=0) (hB:B<=w.heap.size)
  (h1:l.length+m<=9223372036854775807) (h2:(l.length+m)*iT.bytes<=140737488355328) {K:Value->Wd->Prop}
  (k:∀ p' cap' w',OwnS E T B w' p' cap' (l++news)->w.grownBy w' (Value.slice p l.length cap).ownBlock->Below B w w'->K (.slice p' (l++news).length cap') w') :
  SatR ((Builtin.append_ #[t,t] ty #[.slice p l.length cap,.slice a m c]).run P w) K:=by
 cases a with
 | none =>
  have hn:=hn.none;have hc:=hc rfl;subst hn hc;simp at hm;subst hm;obtain⟨⟨inf,hi,hsz,hby,hzz⟩,_⟩:=hT;refine SatR.mk (run_append_owned_none (P:=P) (w:=w) B t ty T inf E.sz hu hi _ _ _ ho) ?_;have:=k p cap w (by rw [QF];exact ho) ⟨rfl,rfl,rfl,UR _,fun _ _ _=>rfl⟩ (UW _ _)
  rwa [QF] at this
 | some a =>
  by_cases h0:news=[]
  ·subst h0;simp at hm;subst hm;exact jj hu hT hz hs hzl ho (by simp) (fun i v hv=>by simp at hv) hB h1 h2 fun p' cap' w' h1 h2 h3 _=>k p' cap' w' h1 h2 h3
  ·have hn':zI w a (news.flatMap E.enc):=by
    rcases hn with h | ⟨b,o,h,hb,hcs⟩
    ·exact Gj h h0
    ·cases h
     exact SlR.cells (.inr ⟨b,o,rfl,hb,hcs⟩)
   exact jj hu hT hz hs hzl ho hm hn' hB h1 h2 fun p' cap' w' h1 h2 h3 _=>k p' cap' w' h1 h2 h3
end
end Go.Vc
namespace Go.Vc
open Go.RowKit
theorem zaQ {a:Int} (h:0<=a/\a<=18446744073709551615):IntKind.u64.wrap a=a:=by
 simp [IntKind.wrap,IntKind.signed,IntKind.bits] <;> omega
def RowS {α:Type} (E:Enc α) (T:TypeId) (w:Wd) (g:Nat) (sp:List Value) (l:List α):Prop :=
 w.heap[g]?=some (.cells (l.flatMap E.enc++sp).toArray T (0,0))
section
variable {α:Type} {E:Enc α} {T:TypeId} {w w2:Wd} {g:Nat} {sp:List Value} {l:List α}
theorem RowS.row (h:RowS E T w g sp l):SlR E w (some ⟨g,0,none⟩) l:=by
 refine SlR.of_cells (hlt h) (zaB fun i v hv=>zc (za h) ?_);rw [Jq (Jr.1 hv).1];exact hv
theorem RowS.at (h:RowS E T w g sp l) {i:Nat} (hi:i<l.length):zI w ⟨g,0+i*E.sz,none⟩ (E.enc l[i]):=by
 rcases h.row with h0 | ⟨b,o,h1,_,hc⟩
 ·subst h0;simp at hi
 ·cases h1;exact hc i hi
theorem RowS.lt (h:RowS E T w g sp l):g<w.heap.size:=hlt h
theorem RowS.same (h:RowS E T w g sp l) (hs:w2.heap[g]?=w.heap[g]?):RowS E T w2 g sp l:=hs.trans h
theorem RowS.below (h:RowS E T w g sp l) (hb:Bw w w2):RowS E T w2 g sp l:=zb hb h
theorem zkL (l:List α) {i:Nat} (hi:i<l.length) (x:α) (sp:List Value) :
  (l.flatMap E.enc++sp).take (i*E.sz)++E.enc x++(l.flatMap E.enc++sp).drop (i*E.sz+E.sz)=(l.set i x).flatMap E.enc++sp:=by
 have hl:l=l.take i++l[i]::l.drop (i+1):=by rw [JE,JP]
 have h1:((l.take i).flatMap E.enc).length=i*E.sz:=by rw [qu,Qr,QV (by omega)]
 have h2:(l.take i++l[i]::l.drop (i+1)).flatMap E.enc++sp=(l.take i).flatMap E.enc++(E.enc l[i]++((l.drop (i+1)).flatMap E.enc++sp)):=by
  rw [Ke,KO];simp only [KL]
 rw [<- hl] at h2;rw [Jb,Gi hi,h2];rw [Jf (by omega),JF (by omega),List.drop_append,JB (by omega),h1];have h3:i*E.sz+E.sz-i*E.sz=E.sz:=by omega
 rw [h3,QO,List.drop_append,JB (by rw [E.len];exact UR _),E.len,UK,Uh];simp [Ke]
theorem zh5 {P:Program} {Te:TypeId} {iT:TI} (hT:TIok P Te iT) (hs:iT.size=E.sz) (hr:RowS E T w g sp l) {i:Nat} (hi:i<l.length) (x:α) {K:Wd->Prop}
  (k:∀ w',RowS E T w' g sp (l.set i x)->w.grownBy w' (some g)->w'.heap.size=w.heap.size->K w') :
  SatR ((storeVar Te ⟨g,0+i*E.sz,none⟩ (.agg (E.enc x).toArray)).run P w) fun _ w'=>K w':=by
 obtain⟨⟨inf,hinf,hsz,_,_⟩,_⟩:=hT;have hfl:(l.flatMap E.enc).length=l.length*E.sz:=qu l;have hle:i*E.sz+E.sz<=l.length*E.sz:=by rw [<- Nat.succ_mul];exact Nat.mul_le_mul_right _ hi
 have hst:=Qa P g (0+i*E.sz) T (E.enc x) 0 _ w hr (by rw [E.len];simp only [KU,lap,hfl];omega) (E.one x);have hrun:(sizeOf Te).run P w = .ok iT.size w:=by simp [sizeOf,typeInfo,hinf,hsz]
 refine SatR.mk (v:=()) (w':=w.setRow g ((l.set i x).flatMap E.enc++sp).toArray) ?_ (k _ (zn hr) (jC w g _) (by simp));simp only [storeVar,UO,hrun,KX];have hc:(Value.agg (E.enc x).toArray).cells=(E.enc x).toArray:=rfl;rw [hc];simp only [KU,E.len,hs,ne_eq,KY,Ge];rw [hst,<- zkL l hi x sp];simp only [E.len,UM,UH]
theorem qg (w:Wd) (row:Option Nat):w.grownBy w row:=⟨rfl,rfl,rfl,UR _,fun _ _ _=>rfl⟩
theorem zd {a b c:Wd} {row:Option Nat} (h:a.grownBy b row) (k:b.grownBy c row):a.grownBy c row :=
 ⟨k.os.trans h.os,k.tape.trans h.tape,k.output.trans h.output,UI h.size k.size,fun i hi hn=>(k.block i (nL hi h.size) hn).trans (h.block i hi hn)⟩
theorem zi {a b:Wd} {row:Option Nat} (h:Bw a b):a.grownBy b row:=⟨h.os,h.tape,h.output,h.size,fun k hk _=>h.block k hk⟩
theorem ja {P:Program} {Te:TypeId} {iT:TI} (hT:TIok P Te iT) (hs:iT.size=1) {cs:Array Value} {t:TypeId} (hg:w.heap[g]?=some (.cells cs t (0,0))) {o:Nat} (ho:o<cs.size) {v:Value} (hv:v.cells = #[v]) (h1:v.oneCell'=true) {K:Wd->Prop}
  (k:∀ w',w'.heap[g]?=some (.cells (cs.toList.take o++[v]++cs.toList.drop (o+1)).toArray t (0,0))->w.grownBy w' (some g)->w'.heap.size=w.heap.size->K w') :
  SatR ((storeVar Te ⟨g,o,none⟩ v).run P w) fun _ w'=>K w':=by
 obtain⟨⟨inf,hinf,hsz,_,_⟩,_⟩:=hT;have hst:=Qa P g o t [v] 0 cs w hg (by simp;omega) (by simp [h1]);have hrun:(sizeOf Te).run P w = .ok iT.size w:=by simp [sizeOf,typeInfo,hinf,hsz]
 refine SatR.mk (v:=()) (w':=w.setRow g (cs.toList.take o++[v]++cs.toList.drop (o+1)).toArray) ?_ (k _ (zn hg) (jC w g _) (by simp));simp only [storeVar,UO,hrun,KX,hv,hs];simpa using hst
end
theorem brT {P Q:Prop} (h:P):(true=true->P)/\(true=false->Q):=⟨fun _=>h,fun h=>nomatch h⟩
theorem brF {P Q:Prop} (h:Q):(false=true->P)/\(false=false->Q):=⟨fun h=>(nomatch h),fun _=>h⟩
theorem brE {b:Bool} {P Q:Prop} (e:b=true) (h:P):(b=true->P)/\(b=false->Q):=⟨fun _=>h,fun h=>nomatch e.symm.trans h⟩
theorem brN {b:Bool} {P Q:Prop} (e:b=false) (h:Q):(b=true->P)/\(b=false->Q):=⟨fun h=>(nomatch e.symm.trans h),fun _=>h⟩
theorem js {w w2:Wd} {b o:Nat} {vs:List Value} (hs:w2.heap[b]?=w.heap[b]?) (h:zI w ⟨b,o,none⟩ vs):zI w2 ⟨b,o,none⟩ vs:=by
 refine zaB fun i v hv=>?_;have:=zc h hv;rw [<- this];unfold World.cell?;simp only [hs]
theorem zS {B:Nat} {w w2:Wd} {b o:Nat} {vs:List Value} (hb:Below B w w2) (hlt:b<B) (h:zI w ⟨b,o,none⟩ vs):zI w2 ⟨b,o,none⟩ vs :=
 js (hb.block b hlt) h
def RowB {α:Type} (E:Enc α) (B:Nat) (w:Wd) (p:OA) (l:List α):Prop :=
 l=[]\/∃ b o,p=some ⟨b,o,none⟩/\b<B/\zI w ⟨b,o,none⟩ (l.flatMap E.enc)
section
variable {α:Type} {E:Enc α} {B:Nat} {w w2:Wd} {p:OA} {l:List α}
theorem RowB.below (h:RowB E B w p l) (hb:Below B w w2):RowB E B w2 p l:=by
 rcases h with h | ⟨b,o,hp,hlt,hc⟩
 ·exact .inl h
 ·exact .inr ⟨b,o,hp,hlt,zS hb hlt hc⟩
theorem RowB.mono {B':Nat} (h:RowB E B w p l) (hB:B<=B'):RowB E B' w p l:=by
 rcases h with h | ⟨b,o,hp,hlt,hc⟩
 ·exact .inl h
 ·exact .inr ⟨b,o,hp,by omega,hc⟩
theorem RowB.slr (h:RowB E B w p l) (hB:B<=w.heap.size):SlR E w p l:=by
 rcases h with rfl | ⟨b,o,rfl,hlt,hc⟩
 ·exact .nil
 ·exact SlR.of_cells (by omega) hc
theorem RowB.of_slr (h:SlR E w p l):RowB E w.heap.size w p l:=by
 by_cases h0:l=[]
 ·exact .inl h0
 ·rcases h with h | ⟨b,o,rfl,hlt,hc⟩
  ·exact Gj h h0
  ·exact .inr ⟨b,o,rfl,hlt,SlR.cells (.inr ⟨b,o,rfl,hlt,hc⟩)⟩
theorem RowB.get (h:RowB E B w p l):∃ b o,(l.length=0\/p=some ⟨b,o,none⟩)/\∀ i (hi:i<l.length),b<B/\zI w ⟨b,o+i*E.sz,none⟩ (E.enc l[i]):=by
 rcases h with rfl | ⟨b,o,rfl,hlt,hc⟩
 ·exact⟨0,0,.inl rfl,fun i hi=>by simp at hi⟩
 ·exact⟨b,o,.inr rfl,fun i hi=>⟨hlt,by rw [<- zeP l i hi];exact zP hc⟩⟩
end
theorem zid:∀ (A B C:List Value),B.length=C.length->zgF (A++B) A.length C=A++C
 | A,B,[],h=>by
  have:B=[]:=Je h;subst this;rfl
 | A,[],c::C,h=>by simp at h
 | A,b::B,c::C,h=>by
  have e:(A++b::B).set A.length c=(A++[c])++B:=by
   rw [JO _ _ (UR _),UK];simp
  rw [zgF,e];have:=zid (A++[c]) B C (by simpa using h);rw [lap] at this;exact this.trans (by simp)
theorem zaZ {n:Nat} {x:Operand} {z cs:List Value} (hc:cs.length=n) (hz:z.length=n):zd2 (fun i=>some (i*n,n)) (zb9 z 1) (zhL [(0,x)] [.agg cs.toArray])=some cs:=by
 have e1:zb9 z 1=z:=by simp [zb9]
 have e2:(Value.agg cs.toArray).cells.size=n:=by show cs.length=n;exact hc
 simp only [zhL,zd2,e1,e2,UN,UM,hz];simp only [Nat.beq_refl,Nat.ble_self_eq_true,Bool.and_self];have:(Value.agg cs.toArray).cells.toList=cs:=rfl;rw [this];have:=zid [] z cs (by rw [hz,hc]);simp at this;rw [this]
theorem qK {α:Type} (E:Enc α) (a:α) {w:Wd} {t:TypeId}:zI (w.alloc (.cells (E.enc a).toArray t)) ⟨w.heap.size,0,none⟩ ([a].flatMap E.enc):=by
 rw [List.flatMap_singleton];exact zfA
theorem jZ {P:Program} {w:Wd} {g:Nat} {Te:TypeId} {iT:TI} (hT:TIok P Te iT) {cs:Array Value} {t:TypeId} (hg:w.heap[g]?=some (.cells cs t (0,0))) {o:Nat} {v:Value} (hv:v.cells.size=iT.size) (ho:o+v.cells.size<=cs.size)
  (h1:v.cells.toList.all Value.oneCell'=true) {K:Wd->Prop}
  (k:∀ w',w'.heap[g]?=some (.cells (cs.toList.take o++v.cells.toList++cs.toList.drop (o+v.cells.size)).toArray t (0,0))->w.grownBy w' (some g)->w'.heap.size=w.heap.size->K w') :
  SatR ((storeVar Te ⟨g,o,none⟩ v).run P w) fun _ w'=>K w':=by
 obtain⟨⟨inf,hinf,hsz,_,_⟩,_⟩:=hT;have hst:=Qa P g o t v.cells.toList 0 cs w hg (by simpa using ho) (Qg.1 h1);have hrun:(sizeOf Te).run P w = .ok v.cells.size w:=by simp [sizeOf,typeInfo,hinf,hsz,hv]
 refine SatR.mk (v:=()) (w':=w.setRow g (cs.toList.take o++v.cells.toList++cs.toList.drop (o+v.cells.size)).toArray) ?_ (k _ (zn hg) (jC w g _) (by simp));simp only [storeVar,UO,hrun,KX];simpa using hst
def zeO (ind:Nat->Nat->Bool) (ops:Array Oper) (k:Nat) (listed:Array Bool):Bool :=
 (List.range ops.size).all fun i=>Nat.beq i k||listed.getD i false||ind k i||zeq ops ops.size k i
def zqd (rec_:Array Bool->OT->Bool) (ind:Nat->Nat->Bool) (ops:Array Oper) (listed:Array Bool) (T:OT):Bool :=
 !(Region.ready .any ops listed).isEmpty&&(Region.ready .any ops listed).all fun i =>
   match OT.first ind i T with
   | some T'=>rec_ (listed.setIfInBounds i true) T'
   | none=>false
def zhx (ind:Nat->Nat->Bool) (ops:Array Oper):Nat->Array Bool->OT->Bool
 | 0,listed,T=>(Region.ready .any ops listed).isEmpty&&(match T with | .nil=>true | _=>false)
 | m+1,listed,.op k T'=>(match (Region.ready .any ops listed).contains k&&zeO ind ops k listed with
  | true=>zhx ind ops m (listed.setIfInBounds k true) T'
  | false=>zqd (zhx ind ops m) ind ops listed (.op k T'))
 | m+1,listed,.nil=>zqd (zhx ind ops m) ind ops listed .nil
 | m+1,listed,.alt x y=>zqd (zhx ind ops m) ind ops listed (.alt x y)
section
variable {ind:Nat->Nat->Bool} {ops:Array Oper}
def zeo (ops:Array Oper) (L:Array Bool):Prop:=∀ j o,L.getD j false=true->ops[j]?=some o->∀ e∈o.after,Region.binds .any e=true->L.getD e.on false=true
theorem zhk {L:Array Bool} {k j:Nat} {d:Bool} (h:j≠k):(L.setIfInBounds k true).getD j d=L.getD j d:=by
 have:¬ k=j:=fun e=>h e.symm;simp [Jh,Jg,this]
theorem zdK {L:Array Bool} {k j:Nat} (h:L.getD j false=true):(L.setIfInBounds k true).getD j false=true:=by
 by_cases e:j=k
 ·subst e;have hl:j<L.size:=by
   by_cases hl:j<L.size
   ·exact hl
   ·simp [hl] at h
  simp [Jh,hl]
 ·rw [zhk e];exact h
theorem za9 {L:Array Bool} {k i:Nat} (h:i∈Region.ready .any ops L) (hne:i≠k):i∈Region.ready .any ops (L.setIfInBounds k true):=by
 obtain⟨h1,o,ho,h2⟩:=mem_ready.1 h;exact mem_ready.2 ⟨by rw [zhk hne];exact h1,o,ho,fun e he hb=>zdK (h2 e he hb)⟩
theorem zda {L:Array Bool} {i:Nat} (h:i∈Region.ready .any ops L):L.getD i false=false/\i<L.size:=by
 obtain⟨h1,_⟩:=mem_ready.1 h;by_cases hl:i<L.size
 ·simp [Jh,hl] at h1 ⊢;exact h1
 ·simp [hl] at h1
theorem zcT {L:Array Bool} (hc:zeo ops L) {k:Nat} (hk:k∈Region.ready .any ops L):zeo ops (L.setIfInBounds k true):=by
 obtain⟨h1,o,ho,h2⟩:=mem_ready.1 hk;intro j oj hj hoj e he hb;by_cases e1:j=k
 ·subst e1;rw [ho] at hoj;cases hoj;exact zdK (h2 e he hb)
 ·rw [zhk e1] at hj;exact zdK (hc j oj hj hoj e he hb)
theorem zjV {L:Array Bool} {i k:Nat}:(L.setIfInBounds i true).setIfInBounds k true=(L.setIfInBounds k true).setIfInBounds i true:=by
 apply Array.ext_getElem?;intro j;simp only [Jg,Array.size_setIfInBounds]
 split <;> split <;> simp_all
theorem zhl {k i:Nat} {L:Array Bool} (h:zeO ind ops k L=true):zeO ind ops k (L.setIfInBounds i true)=true:=by
 simp only [zeO,Qg,QC,Uj] at h ⊢;intro j hj;rcases h j hj with ((h | h) | h) | h
 ·exact .inl (.inl (.inl h))
 ·exact .inl (.inl (.inr (zdK h)))
 ·exact .inl (.inr h)
 ·exact .inr h
theorem zkK {k i:Nat} {L:Array Bool} (hc:zeo ops L) (hf:zeO ind ops k L=true) (hk:k∈Region.ready .any ops L) (hi:i∈Region.ready .any ops L) (hne:i≠k):ind k i=true:=by
 obtain⟨h1,o,ho,h2⟩:=mem_ready.1 hi;simp only [zeO,Qg,QC,Uj] at hf;rcases hf i (Jj.1 ho).1 with ((h | h) | h) | h
 ·exact Gj (JQ h) hne
 ·rw [(zda hi).1] at h;cases h
 ·exact h
 ·have:=zcG hc _ k i o ho h2 h;rw [(zda hk).1] at this;cases this
theorem zbD {rec_:Array Bool->OT->Bool} {L:Array Bool} {T:OT} (h:zqd rec_ ind ops L T=true):(Region.ready .any ops L).isEmpty=false/\∀ i∈Region.ready .any ops L,∃ T',OT.first ind i T=some T'/\rec_ (L.setIfInBounds i true) T'=true:=by
 simp only [zqd,bAT,KG,Qg] at h;refine⟨h.1,fun i hi=>?_⟩;have:=h.2 i hi
 split at this
 ·rename_i T' hT;exact⟨T',hT,this⟩
 ·cases this
theorem zor:∀ (m:Nat) (L:Array Bool) (T:OT),zeo ops L->zhx ind ops (m+1) L T=true ->
  (Region.ready .any ops L).isEmpty=false/\∀ i∈Region.ready .any ops L,∃ T',OT.first ind i T=some T'/\zhx ind ops m (L.setIfInBounds i true) T'=true:=by
 intro m
 induction m with
 | zero =>
  intro L T hc h
  cases T with
  | nil=>exact zbD h
  | alt x y=>exact zbD h
  | op k T' =>
   simp only [zhx] at h
   split at h
   ·rename_i hf;simp only [bAT,JT,dE] at hf;refine⟨Js.2 (Kz hf.1),fun i hi=>?_⟩;by_cases e:i=k
    ·subst e;exact⟨T',by simp [OT.first],h⟩
    ·have:=za9 hi e;simp only [bAT,Qo] at h;rw [h.1] at this;cases this
   ·exact zbD h
 | succ m ih =>
  intro L T hc h
  cases T with
  | nil=>exact zbD h
  | alt x y=>exact zbD h
  | op k T' =>
   unfold zhx at h
   split at h
   ·rename_i hf;simp only [bAT,JT,dE] at hf;refine⟨Js.2 (Kz hf.1),fun i hi=>?_⟩;by_cases e:i=k
    ·subst e;exact⟨T',by simp [OT.first],h⟩
    ·obtain⟨T'',h1,h2⟩:=(ih _ T' (zcT hc hf.1) h).2 i (za9 hi e);refine⟨.op k T'',?_,?_⟩
     ·have:¬ k=i:=fun e2=>e e2.symm;rw [OT.first,Gh this,Gi (zkK hc hf.2 hf.1 hi e),h1];rfl
     ·have hk2:k∈Region.ready .any ops (L.setIfInBounds i true):=za9 hf.1 (fun e2=>e e2.symm);have hb:((Region.ready .any ops (L.setIfInBounds i true)).contains k&&zeO ind ops k (L.setIfInBounds i true))=true:=by
       simp only [bAT,JT,dE];exact⟨hk2,zhl hf.2⟩
      unfold zhx;rw [hb];rw [zjV];exact h2
   ·exact zbD h
theorem ziD:∀ (m:Nat) (L:Array Bool) (T:OT),zeo ops L->zhx ind ops m L T=true->zmc ind ops m L T=true
 | 0,L,T,_,h=>h
 | m+1,L,T,hc,h=>by
  obtain⟨h1,h2⟩:=zor m L T hc h;simp only [zmc,bAT,KG,Qg];refine⟨h1,fun i hi=>?_⟩;obtain⟨T',h3,h4⟩:=h2 i hi;rw [h3];exact ziD m _ T' (zcT hc hi) h4
theorem DrawE.treeQ {S:Sig} {ops:Array Oper} {E:Env} {w:Wd} {K:Env->Wd->Prop} {QP:List PanicEntry->Wd->Prop} (X:List Nat) (T:OT)
  (h:(zhx (zcO S.τ X ops) ops ops.size (Array.replicate ops.size false) T&&ops.all (fun o=>jM o.op))=true) (k:zgQ S ops.toList X QP T E w.drew K):DrawE S ops E w K QP :=
 .inr (.inl ⟨X,T,by
  simp only [bAT] at h ⊢;refine⟨ziD _ _ _ (fun j o hj=>?_) h.1,h.2⟩;by_cases hl:j<ops.size <;> simp [hl] at hj,k⟩)
end
end Go.Vc
