/- Contracts of functions, and plain facts, for the law that the last text of this claim proves. -/
import Derived.CallsIn
import Derived.OrdersIn
import Derived.Below
import Derived.RangeFuncLeaves
import Derived.Laws.StructEq
import Derived.Laws.Rows
import Derived.RangeFuncSeq
import Derived.Deep.LoopGhost
import Derived.Laws.AppendOwn
import Derived.Maps.AppendAt
import Derived.Laws.AppendOwnNone
import GoSem.Instr.MapEntry
import Derived.ChangeKeysEq
import Derived.Lib.AppendZerosOnto
import Derived.Laws.OwnMore
import Derived.KernelRfl
import Derived.Test.YtlkofpbdpplfkaaGreatDoorProg
set_option linter.unusedSimpArgs false
set_option linter.unusedVariables false
namespace Go
open Go.RowKit
abbrev At0 (b:Nat):Value := .pointer (some ⟨b,0,none⟩)
theorem gE {α:Type _} {l:List α} {i:Nat} (h:i<l.length):l[i]?=some l[i]:=List.getElem?_eq_getElem h
theorem bAT (a b:Bool):((a&&b)=true)=(a=true/\b=true):=Bool.and_eq_true a b
theorem dE {p:Prop} [Decidable p]:(decide p=true)=p:=decide_eq_true_eq
theorem cmo {P:Program} {f:FuncId} {args:Array Value} {w:World} {R R':Ending->World->Prop} (h:Calls P f args w R) (k:∀ e w',R e w'->R' e w'):Calls P f args w R':=h.mono k
theorem nL {a b c:Nat} (h:a<b) (k:b<=c):a<c:=Nat.lt_of_lt_of_le h k
theorem wz (w:World) (o:Obj):(w.alloc o).heap.size=w.heap.size+1:=World.size_alloc w o
theorem lap {α:Type _} {a b:List α}:(a++b).length=a.length+b.length:=List.length_append
theorem tsg {α:Type _} {i:Nat} {l:List α} (h:i<l.length):l.take (i+1)=l.take i++[l[i]]:=List.take_succ_eq_append_getElem h
theorem gDe {α:Type _} {l:List α} {i:Nat} {a:α}:l.getD i a=(l[i]?).getD a:=List.getD_eq_getElem?_getD
theorem gM {α:Type _} {l:List α} {i:Nat} (h:i<l.length):l[i]∈l:=List.getElem_mem h
theorem zdc {n k:Nat} (h:k<n):n-(k+1)<n-k:=by omega
abbrev Bw (w X:World):Prop:=Below w.heap.size w X
theorem zst {w X Y:World} (a:Below w.heap.size w X) (b:Below X.heap.size X Y):Below w.heap.size w Y:=a.trans (b.mono a.size)
theorem zba (w:World) (o:Obj):Below w.heap.size w (w.alloc o):=(Below.refl _ w).alloc (Nat.le_refl _) _
theorem dT {p:Prop} [Decidable p] (h:decide p=true):p:=of_decide_eq_true h
theorem dF {p:Prop} [Decidable p] (h:decide p=false):¬ p:=of_decide_eq_false h
end Go
namespace Go.Vc
open Go.RowKit
def FR (r:Option Nat):Fence:={ fn:=fun _=>True,depth:=none,alive:=false,round:=r }
abbrev VEnv:=List (Nat×Value)
def VEnv.find:VEnv->Nat->Option Value
 | [],_=>none
 | (k,v)::r,t=>match Nat.beq k t with
  | true=>some v
  | false=>VEnv.find r t
structure Env where
 vs:VEnv
 ds:List Deferred:=[]
def Env.find (E:Env) (t:Nat):Option Value:=VEnv.find E.vs t
inductive TK where
 | other | bool | string | int (k:IntKind) | slice (e esz:Nat) | array (n e esz:Nat) (eagg:Bool) | struct (fs:List (Nat×Nat×Bool)) | map (k v:Nat) | ptr (e:Nat)
structure TI where
 kind:TK
 size:Nat
 agg:Bool
 bytes:Nat
 zero:Option (List Value)
abbrev TT:=List (Nat×TI)
def TT.get:TT->Nat->Option TI
 | [],_=>none
 | (k,v)::r,t=>match Nat.beq k t with
  | true=>some v
  | false=>TT.get r t
def zhn (d:TypeDesc):Bool:=match d with | .struct _ | .array _ _=>true | _=>false
def zid (P:Program) (t:Nat):Prop:=(∃ i,P.info? t=some i)/\∃ d,P.underlying t=some d
structure TIok (P:Program) (t:Nat) (i:TI):Prop where
 info:∃ inf,P.info? t=some inf/\inf.size=i.size/\inf.bytes=i.bytes/\∀ z,i.zero=some z->∃ v,inf.zero=some v/\v.cells.toList=z
 desc:∃ d,P.underlying t=some d/\zhn d=i.agg /\
  match i.kind with
  | .other=>True
  | .bool=>d = .bool
  | .string=>d = .string
  | .int k=>d = .int k
  | .slice e esz=>d = .slice e/\P.cellsOf e=esz/\zid P e
  | .array n e esz eagg=>d = .array n e/\P.cellsOf e=esz/\((P.underlying e).map zhn).getD false=eagg/\zid P e
  | .struct fs=>∃ F:Array Field,d = .struct F/\fs=F.toList.map (fun f=>(f.offset,P.cellsOf f.type,((P.underlying f.type).map zhn).getD false))/\∀ f∈F.toList,zid P f.type
  | .map k v=>d = .map k v
  | .ptr e=>d = .pointer e
def zlV (g:Nat):List Nat->Bool
 | []=>true
 | x::r=>match Nat.beq x g with
  | true=>false
  | false=>zlV g r
structure Sig where
 P:Program
 τ:TT
 n:Nat
 lo:Nat
 hi:Nat
 r:Option Nat:=none
 no:List Nat:=[]
structure SigOk (S:Sig):Prop where
 ty:∀ t i,TT.get S.τ t=some i->TIok S.P t i
 call:∀ g,S.lo<=g->g<S.hi->zlV g S.no=true->∀ args w,(callFunc g args).run S.P w = .ok (.enter g args) w
 mixed:S.P.follows .mixedOrders=true
structure Agrees (S:Sig) (a:Act) (E:Env):Prop where
 size:a.tmps.size=S.n
 defers:a.defers=E.ds
 val:∀ t v,Env.find E t=some v->a.tmps[t]?=some v
def opd (E:Env):Operand->Option Value
 | .tmp t=>Env.find E t
 | .const v=>some v
 | .global g=>some (.pointer (some ⟨g,0,none⟩))
 | .func f=>some (.func (.func f) #[] #[])
theorem Agrees.eval {S:Sig} {a:Act} {E:Env} (h:Agrees S a E) {x:Operand} {v:Value} (hx:opd E x=some v):a.eval x=v:=by
 cases x with
 | tmp t =>
  have:=h.val t v hx;simp [Act.eval,this]
 | const u=>simpa [opd,Act.eval] using hx
 | global g=>simpa [opd,Act.eval] using hx
 | func f=>simpa [opd,Act.eval] using hx
inductive CovL (E:VEnv):VEnv->Prop
 | nil:CovL E []
 | cons {t:Nat} {v:Value} {r:VEnv} (h:VEnv.find E t=some v) (k:CovL E r):CovL E ((t,v)::r)
structure Cov (E E0:Env):Prop where
 c:CovL E.vs E0.vs
 d:E.ds=E0.ds
theorem CovL.find {E E0:VEnv} (h:CovL E E0):∀ t v,VEnv.find E0 t=some v->VEnv.find E t=some v:=by
 induction h with
 | nil=>intro t v h;simp [VEnv.find] at h
 | @cons t u r h _ ih =>
  intro t' v hf;simp only [VEnv.find] at hf
  cases hb:Nat.beq t t' with
  | true =>
   rw [hb] at hf;have:t=t':=Nat.eq_of_beq_eq_true hb;subst this;simp only [Option.some.injEq] at hf;subst hf;exact h
  | false=>rw [hb] at hf;exact ih t' v hf
theorem Agrees.cov {S:Sig} {a:Act} {E E0:Env} (h:Agrees S a E) (c:Cov E E0):Agrees S a E0 :=
 ⟨h.size,h.defers.trans c.d,fun t v hf=>h.val t v (c.c.find t v hf)⟩
def setE (dst:Option Nat) (v:Value) (E:Env):Env:=match dst with | some d=>⟨(d,v)::E.vs,E.ds⟩ | none=>E
def znF (n:Nat):Option Nat->Bool
 | none=>true
 | some d=>Nat.blt d n
theorem Agrees.put {S:Sig} {a:Act} {E:Env} (h:Agrees S a E) {dst:Option Nat} (hd:znF S.n dst=true) (v:Value):Agrees S (a.put dst v) (setE dst v E):=by
 cases dst with
 | none=>exact h
 | some d =>
  have hd':d<S.n:=by simpa [znF,Nat.blt_eq] using hd
  refine⟨by simp [Act.put,h.size],h.defers,fun t u hf=>?_⟩;simp only [setE,Env.find,VEnv.find] at hf
  cases hb:Nat.beq d t with
  | true =>
   rw [hb] at hf;have e:d=t:=Nat.eq_of_beq_eq_true hb;subst e;simp only [Option.some.injEq] at hf;subst hf;simp [Act.put,h.size,hd']
  | false =>
   rw [hb] at hf;have e:d≠t:=fun e=>by subst e;simp at hb
   have:=h.val t u hf;simp [Act.put,e,this]
def Ar (k:IntKind) (e:Int) (K:Value->Prop):Prop:=∃ r,k.wrap e=r/\K (.int k r)
def zax (w:World) (p:Addr) (vs:List Value):Prop:=∀ i v,vs[i]?=some v->w.cell? (p.add i)=some v
def SatR {α:Type} (r:Result α) (K:α->World->Prop):Prop:=∃ v w',r = .ok v w'/\K v w'
theorem SatR.mk {α:Type} {r:Result α} {K:α->World->Prop} {v:α} {w':World} (h:r = .ok v w') (k:K v w'):SatR r K:=⟨v,w',h,k⟩
def Br (b:Bool) (A B:Prop):Prop:=(b=true->A)/\(b=false->B)
def zqZ (P:Program) (d:TypeDesc):TK->Bool
 | .other=>true
 | .bool=>(match d with | .bool=>true | _=>false)
 | .string=>(match d with | .string=>true | _=>false)
 | .int k=>(match d with | .int k'=>decide (k'=k) | _=>false)
 | .slice e esz=>(match d with | .slice e'=>Nat.beq e' e&&Nat.beq (P.cellsOf e) esz&&(P.info? e).isSome&&(P.underlying e).isSome | _=>false)
 | .array n e esz eagg=>(match d with | .array n' e'=>Nat.beq n' n&&Nat.beq e' e&&Nat.beq (P.cellsOf e) esz&&(((P.underlying e).map zhn).getD false == eagg)&&(P.info? e).isSome&&(P.underlying e).isSome | _=>false)
 | .struct fs=>(match d with
  | .struct F=>decide (fs=F.toList.map (fun f=>(f.offset,P.cellsOf f.type,((P.underlying f.type).map zhn).getD false)))&&F.toList.all fun f=>(P.info? f.type).isSome&&(P.underlying f.type).isSome
  | _=>false)
 | .map k v=>(match d with | .map k' v'=>Nat.beq k' k&&Nat.beq v' v | _=>false)
 | .ptr e=>(match d with | .pointer e'=>Nat.beq e' e | _=>false)
def zp0 (P:Program) (t:Nat) (i:TI):Bool :=
 match P.underlying t with
 | some d=>(zhn d == i.agg)&&zqZ P d i.kind
 | none=>false
theorem zaU {P:Program} {t:Nat} (h1:(P.info? t).isSome=true) (h2:(P.underlying t).isSome=true):zid P t :=
 ⟨Option.isSome_iff_exists.1 h1,Option.isSome_iff_exists.1 h2⟩
theorem tiOk {P:Program} {t:Nat} {i:TI} (h1:(P.info? t).map (fun x=>(x.size,x.bytes))=some (i.size,i.bytes))
  (h2:∀ z,i.zero=some z->((P.info? t).bind (fun x=>x.zero)).map (fun v=>v.cells.toList)=some z) (h3:zp0 P t i=true):TIok P t i:=by
 obtain⟨inf,hi,he⟩:=Option.map_eq_some_iff.1 h1;simp only [Prod.mk.injEq] at he;refine⟨⟨inf,hi,he.1,he.2,fun z hz=>?_⟩,?_⟩
 ·have:=h2 z hz;rw [hi] at this;obtain⟨v,hv,hc⟩:=Option.map_eq_some_iff.1 this;exact⟨v,hv,hc⟩
 ·unfold zp0 at h3
  split at h3
  ·rename_i d hd;simp only [bAT,beq_iff_eq] at h3;refine⟨d,hd,h3.1,?_⟩;have h4:=h3.2;generalize i.kind=k at h4
   cases k <;> simp only [zqZ] at h4
   case other=>trivial
   case bool=>split at h4 <;> simp_all
   case string=>split at h4 <;> simp_all
   case int k=>split at h4 <;> simp_all
   case slice e esz =>
    split at h4
    ·simp only [bAT] at h4;obtain⟨⟨⟨a,b⟩,c⟩,e⟩:=h4;exact⟨by rw [Nat.eq_of_beq_eq_true a],Nat.eq_of_beq_eq_true b,zaU c e⟩
    ·cases h4
   case array n e esz eagg =>
    split at h4
    ·simp only [bAT,beq_iff_eq] at h4;obtain⟨⟨⟨⟨⟨a,b⟩,c⟩,e⟩,f⟩,g⟩:=h4;have a':=Nat.eq_of_beq_eq_true a;have b':=Nat.eq_of_beq_eq_true b;subst a' b';exact⟨rfl,Nat.eq_of_beq_eq_true c,e,zaU f g⟩
    ·cases h4
   case struct fs =>
    split at h4
    ·rename_i F;simp only [bAT,dE,List.all_eq_true] at h4;exact⟨F,rfl,h4.1,fun f hf=>zaU (h4.2 f hf).1 (h4.2 f hf).2⟩
    ·cases h4
   case map k v =>
    split at h4
    ·simp only [bAT] at h4;rw [Nat.eq_of_beq_eq_true h4.1,Nat.eq_of_beq_eq_true h4.2]
    ·cases h4
   case ptr e =>
    split at h4
    ·rw [Nat.eq_of_beq_eq_true h4]
    ·cases h4
  ·cases h3
inductive TTok (P:Program):TT->Prop
 | nil:TTok P []
 | cons {t:Nat} {i:TI} {r:TT} (h:TIok P t i) (k:TTok P r):TTok P ((t,i)::r)
theorem TTok.get {P:Program}:∀ {τ:TT},TTok P τ->∀ t i,TT.get τ t=some i->TIok P t i
 | [],_,t,i,h=>by simp [TT.get] at h
 | (u,j)::r,.cons hj hr,t,i,h=>by
  simp only [TT.get] at h
  cases hb:Nat.beq u t with
  | true =>
   rw [hb] at h;simp only [Option.some.injEq] at h;have e:=Nat.eq_of_beq_eq_true hb;subst e h;exact hj
  | false=>rw [hb] at h;exact hr.get t i h
def zqh (P:Program) (lo hi:Nat) (no:List Nat):Bool :=
 (List.range (hi-lo)).all fun k=>match zlV (lo+k) no with
  | false=>true
  | true=>match P.funcs[lo+k]? with
   | some fn => fn.name != "runtime.NumGoroutine" && fn.body.isSome
   | none=>false
theorem zrt {P:Program} {lo hi:Nat} {no:List Nat} (h:zqh P lo hi no=true):∀ g,lo<=g->g<hi->zlV g no=true->∀ args w,(callFunc g args).run P w = .ok (.enter g args) w:=by
 intro g h1 h2 hn args w;simp only [zqh,List.all_eq_true,List.mem_range] at h;have h3:=h (g-lo) (by omega);rw [show lo+(g-lo)=g by omega,hn] at h3;dsimp only at h3
 split at h3
 ·rename_i fn hf;simp only [bAT,bne_iff_ne,ne_eq] at h3;simp [callFunc,hf,h3.1,Option.isSome_iff_ne_none.1 h3.2]
 ·cases h3
theorem nm {α:Sort _} (a:α):∃ x,x=a:=⟨a,rfl⟩
def cvFx (E:VEnv):VEnv->List (Option Value)
 | []=>[]
 | (t,_)::r=>VEnv.find E t::cvFx E r
def cvGx:VEnv->List (Option Value)
 | []=>[]
 | (_,v)::r=>some v::cvGx r
theorem cvLx {E:VEnv}:∀ {E0:VEnv},cvFx E E0=cvGx E0->CovL E E0
 | [],_ => .nil
 | (t,v)::r,h => .cons (List.head_eq_of_cons_eq h) (cvLx (List.tail_eq_of_cons_eq h))
theorem cvE {E E0:Env} (h:cvFx E.vs E0.vs=cvGx E0.vs) (d:E.ds=E0.ds):Cov E E0:=⟨cvLx h,d⟩
theorem biE {b:Bool} {A B:Prop} (h:b=true->A) (k:b=false->B):(b=true->A)/\(b=false->B):=⟨h,k⟩
end Go.Vc
namespace Go.Vc
open Go.RowKit
def zaN (E:Env) (x:Operand) (f:Value->Prop):Prop:=match opd E x with | some v=>f v | none=>False
def zih (E:Env):List Operand->(List Value->Prop)->Prop
 | [],f=>f []
 | x::r,f=>zaN E x fun v=>zih E r fun vs=>f (v::vs)
theorem zan {E:Env} {x:Operand} {f:Value->Prop} (h:zaN E x f):∃ v,opd E x=some v/\f v:=by
 unfold zaN at h
 split at h
 ·exact⟨_,by assumption,h⟩
 ·exact h.elim
theorem zcf {S:Sig} {E:Env}:∀ {l:List Operand} {f:List Value->Prop},zih E l f->∃ vs,f vs/\∀ a,Agrees S a E->l.map a.eval=vs
 | [],f,h=>⟨[],h,fun _ _=>rfl⟩
 | x::r,f,h=>by
  obtain⟨v,hv,h⟩:=zan h;obtain⟨vs,hf,ha⟩:=zcf (S:=S) h;exact⟨v::vs,hf,fun a hag=>by simp only [List.map_cons,hag.eval hv,ha a hag]⟩
def zm0 (P:Program) (m:Sem Value) (K:Value->Prop):Prop:=∃ v,(∀ w,m.run P w = .ok v w)/\K v
def zib (P:Program) (w:World) (m:Sem Value) (K:Value->Prop):Prop:=∃ v,(∀ w2,Bw w w2->m.run P w2 = .ok v w2)/\K v
def kEq (k k':IntKind):Bool:=decide (k=k')
def intE (op:BinOp) (k:IntKind) (a b:Int) (K:Value->Prop):Prop :=
 match op with
 | .lss=>K (.bool (decide (a<b)))
 | .leq=>K (.bool (decide (a<=b)))
 | .gtr=>K (.bool (decide (b<a)))
 | .geq=>K (.bool (decide (b<=a)))
 | .eql=>K (.bool (decide (a=b)))
 | .neq=>K (.bool (!decide (a=b)))
 | .add=>Ar k (a+b) K
 | .sub=>Ar k (a-b) K
 | .mul=>Ar k (a*b) K
 | .quo=>b≠0/\Ar k (a.tdiv b) K
 | .rem=>b≠0/\∃ r,a.tmod b=r/\K (.int k r)
 | .and=>∃ r,k.wrap ((BitVec.ofInt k.bits a&&&BitVec.ofInt k.bits b).toNat)=r/\K (.int k r)
 | .or=>∃ r,k.wrap ((BitVec.ofInt k.bits a|||BitVec.ofInt k.bits b).toNat)=r/\K (.int k r)
 | .xor=>∃ r,k.wrap ((BitVec.ofInt k.bits a ^^^ BitVec.ofInt k.bits b).toNat)=r/\K (.int k r)
 | .andNot=>∃ r,k.wrap ((BitVec.ofInt k.bits a &&& ~~~ BitVec.ofInt k.bits b).toNat)=r/\K (.int k r)
 | _=>False
def binE (P:Program) (op:BinOp) (T:TypeId) (x y:Operand) (vx vy:Value) (K:Value->Prop):Prop :=
 match vx,vy with
 | .int k a,.int k' b =>
  match op with
  | .shl=>0<=b/\Ar k (a*2^(min b.toNat k.bits)) K
  | .shr=>0<=b/\∃ r,a.fdiv (2^(min b.toNat k.bits))=r/\K (.int k r)
  | op=>match kEq k k' with
   | true=>intE op k a b K
   | false=>False
 | vx,vy=>zm0 P (do eqGuard op T x y vx vy;binOp op T vx vy) K
def zjM (o:Option TI) (f:Nat) (g:Nat->Nat->Bool->Prop):Prop :=
 match o with
 | some { kind := .struct fs,.. }=>(match fs[f]? with
  | some (off,sz,agg)=>g off sz agg
  | none=>False)
 | _=>False
def zgR (off sz:Nat) (agg:Bool) (cs:List Value) (K:Value->Prop):Prop :=
 match agg with
 | true=>K (.agg ((cs.drop off).take sz).toArray)
 | false=>match cs[off]? with
  | some v=>K v
  | none=>False
def idx (vi:Value) (n:Nat) (g:Nat->Prop):Prop :=
 match vi with
 | .int _ i=>∃ j:Nat,(j:Int)=i/\j<n/\g j
 | _=>False
def zeD (o:Option TI) (vx vi:Value) (K:Value->Prop):Prop :=
 match o with
 | some { kind := .slice _ esz,.. }=>(match vx with
  | .slice (some ⟨b,o,none⟩) len _=>idx vi len fun j=>K (.pointer (some ⟨b,o+j*esz,none⟩))
  | _=>False)
 | some { kind := .array n _ esz _,.. }=>(match vx with
  | .pointer (some ⟨b,o,none⟩)=>idx vi n fun j=>K (.pointer (some ⟨b,o+j*esz,none⟩))
  | _=>False)
 | _=>False
def bnd (o:Option Value) (dflt top:Nat) (g:Nat->Prop):Prop :=
 match o with
 | none=>g dflt
 | some (.int _ i)=>∃ j:Nat,(j:Int)=i/\j<=top/\g j
 | some _=>False
def zaI (base:Option Addr) (m l esz:Nat):Option Addr:=if m=l then base else base.map (·.add (l*esz))
def zll (o:Option TI) (vx:Value) (lo hi:Option Value) (K:Value->Prop):Prop :=
 match o with
 | some { kind := .slice _ esz,.. }=>(match vx with
  | .slice base len cap=>bnd hi len cap fun h=>bnd lo 0 h fun l=>K (.slice (zaI base cap l esz) (h-l) (cap-l))
  | _=>False)
 | some { kind := .array n _ esz _,.. }=>(match vx with
  | .pointer (some a)=>bnd hi n n fun h=>bnd lo 0 h fun l=>K (.slice (zaI (some a) n l esz) (h-l) (n-l))
  | _=>False)
 | some { kind := .string,.. }=>(match vx with
  | .string s=>bnd hi s.size s.size fun h=>bnd lo 0 h fun l=>K (.string (s.extract l h))
  | _=>False)
 | _=>False
def zk7 (E:Env) (o:Option Operand) (f:Option Value->Prop):Prop :=
 match o with
 | none=>f none
 | some x=>zaN E x fun v=>f (some v)
def zix (l:List Value) (off:Nat):List Value->List Value
 | []=>l
 | v::r=>zix (l.set off v) (off+1) r
def zgf (place:Nat->Option (Nat×Nat)) (cells:List Value):List (Nat×Value)->Option (List Value)
 | []=>some cells
 | (i,v)::rest=>match place i with
  | none=>none
  | some (off,sz)=>match Nat.beq v.cells.size sz&&Nat.ble (off+sz) cells.length with
   | true=>zgf place (zix cells off v.cells.toList) rest
   | false=>none
def zipN:List (Nat×Operand)->List Value->List (Nat×Value)
 | (i,_)::r,v::vs=>(i,v)::zipN r vs
 | _,_=>[]
def zjx (fs:List (Nat×Nat×Bool)) (i:Nat):Option (Nat×Nat) :=
 match fs[i]? with
 | some (off,sz,_)=>some (off,sz)
 | none=>none
def zoP (o:Option TI) (ps:List (Nat×Operand)) (vs:List Value) (K:Value->Prop):Prop :=
 match o with
 | some { kind := .struct fs,zero:=some z,.. }=>∃ cells,zgf (zjx fs) z (zipN ps vs)=some cells/\K (.agg cells.toArray)
 | some { kind := .array _ _ esz _,zero:=some z,.. }=>∃ cells,zgf (fun i=>some (i*esz,esz)) z (zipN ps vs)=some cells/\K (.agg cells.toArray)
 | _=>False
def zrep (z:List Value):Nat->List Value
 | 0=>[]
 | n+1=>z++zrep z n
def isN (op:Op):Bool :=
 match op with
 | .move _ | .assign _ | .pick .. | .binOp .. | .unOp .. | .field .. | .index .. | .fieldAddr .. | .indexAddr .. | .slice .. | .extract .. | .makeFunc .. | .nilCheck _ | .build .. => true
 | _=>false
def zpk (S:Sig) (E:Env) (op:Op) (w:World) (K:Value->Prop):Prop :=
 match op with
 | .move x=>zaN E x K
 | .assign x=>zaN E x K
 | .pick c a b=>zaN E c fun vc=>zaN E a fun va=>zaN E b fun vb=>(match vc with
  | .bool t=>K (match t with | true=>va | false=>vb)
  | _=>False)
 | .binOp op T x y _=>zaN E x fun vx=>zaN E y fun vy=>binE S.P op T x y vx vy K
 | .unOp op _ x=>zaN E x fun v=>(match op,v with
  | .not,.bool b=>K (.bool (!b))
  | .neg,.int k n=>Ar k (0-n) K
  | op,v=>zm0 S.P (Op.unary op v) K)
 | .convert s d x=>zaN E x fun v=>(match TT.get S.τ s,TT.get S.τ d,v with
  | some _,some { kind := .int k,.. },.int _ n=>Ar k n K
  | _,_,v=>zib S.P w (convert s d v) K)
 | .field T x f=>zaN E x fun v=>zjM (TT.get S.τ T) f fun off sz agg=>(match v with
  | .agg cs=>zgR off sz agg cs.toList K
  | _=>False)
 | .index T x i=>zaN E x fun vx=>zaN E i fun vi=>(match TT.get S.τ T,vx with
  | some { kind := .array n _ esz eagg,.. },.agg cs=>idx vi n fun j=>zgR (j*esz) esz eagg cs.toList K
  | some { kind := .string,.. },.string s=>idx vi s.size fun j=>∃ u,s.data.toList[j]?=some u/\K (.int .u8 u.toNat)
  | _,_=>False)
 | .fieldAddr T x f=>zaN E x fun v=>zjM (TT.get S.τ T) f fun off sz _=>(match Nat.beq sz 0 with
  | true=>False
  | false=>(match v with
   | .pointer (some ⟨b,o,none⟩)=>K (.pointer (some ⟨b,o+off,none⟩))
   | _=>False))
 | .indexAddr T x i=>zaN E x fun vx=>zaN E i fun vi=>zeD (TT.get S.τ T) vx vi K
 | .slice T x lo hi mx=>zaN E x fun vx=>zk7 E lo fun l=>zk7 E hi fun h=>(match mx with
  | none=>zll (TT.get S.τ T) vx l h K
  | some _=>False)
 | .lookup T x i ok=>zaN E x fun vx=>zaN E i fun vi=>zib S.P w (Instr.lookup T vx vi ok) K
 | .build T ps=>zih E (ps.toList.map (·.2)) fun vs=>zoP (TT.get S.τ T) ps.toList vs K
 | .extract t i=>zaN E t fun v=>(match v with
  | .tuple vs=>(match vs.toList[i]? with
   | some u=>K u
   | none=>False)
  | _=>False)
 | .makeFunc fn first captured=>zih E first.toList fun fs=>zih E captured.toList fun cs=>K (.func fn fs.toArray cs.toArray)
 | .nilCheck x=>zaN E x fun v=>(match v with
  | .pointer (some a)=>K (.pointer (some a))
  | .func (.func f) a b=>K (.func (.func f) a b)
  | _=>False)
 | .load T a=>zaN E a fun v=>(match v with
  | .pointer (some p)=>(match TT.get S.τ T with
   | some { agg:=true,size:=sz,.. }=>∃ vs:List Value,vs.length=sz/\zax w p vs/\(p.block<w.heap.size)/\K (.agg vs.toArray)
   | some { agg:=false,.. }=>∃ u,w.cell? p=some u/\K u
   | none=>False)
  | _=>False)
 | .call c=>(match c.callee with
  | .builtin .len=>(match c.args.toList,c.argTypes.toList with
   | [x],[T]=>zaN E x fun v=>(match TT.get S.τ T,v with
    | some { kind := .slice _ _,.. },.slice _ n _=>K (.int .i64 n)
    | some { kind := .string,.. },.string s=>K (.int .i64 s.size)
    | some { kind := .array n _ _ _,.. },_=>K (.int .i64 n)
    | _,_=>False)
   | _,_=>False)
  | _=>False)
 | _=>False
section
variable {P:Program} {w:World}
theorem zb1 (b o:Nat) (j:Nat):(⟨b,o,none⟩:Addr).add j=⟨b,o+j,none⟩:=by
 unfold Addr.add;split <;> simp_all
theorem znV {op:BinOp} {k:IntKind} {a b:Int} {K:Value->Prop} (T:TypeId) (x y:Operand) (h1:op ≠ .shl) (h2:op ≠ .shr) (h:intE op k a b K) :
  ∃ v,K v/\∀ w,(do eqGuard op T x y (.int k a) (.int k b);binOp op T (.int k a) (.int k b):Sem Value).run P w = .ok v w:=by
 have hg:∀ w,(eqGuard op T x y (.int k a) (.int k b)).run P w = .ok () w:=by
  intro w;unfold eqGuard;cases op <;> simp
 have hb:∀ v,(∀ w,(binOp op T (.int k a) (.int k b)).run P w = .ok v w)->∀ w,(do eqGuard op T x y (.int k a) (.int k b);binOp op T (.int k a) (.int k b):Sem Value).run P w = .ok v w:=by
  intro v hv w;rw [Sem.run_bind,hg w,Result.andThen_ok,hv w]
 cases op <;> simp only [intE] at h
 case lss=>exact⟨_,h,hb _ fun w=>by simp [binOp,Op.intCmp]⟩
 case leq=>exact⟨_,h,hb _ fun w=>by simp [binOp,Op.intCmp]⟩
 case gtr=>exact⟨_,h,hb _ fun w=>by simp [binOp,Op.intCmp]⟩
 case geq=>exact⟨_,h,hb _ fun w=>by simp [binOp,Op.intCmp]⟩
 case eql=>exact⟨_,h,hb _ fun w=>by simp [binOp,Op.intCmp];rfl⟩
 case neq=>exact⟨_,h,hb _ fun w=>by simp [binOp,Op.intCmp];rfl⟩
 case add=>obtain⟨r,e,hk⟩:=h;exact⟨_,hk,hb _ fun w=>by simp [binOp,Op.intArith,e]⟩
 case sub=>obtain⟨r,e,hk⟩:=h;exact⟨_,hk,hb _ fun w=>by simp [binOp,Op.intArith,e]⟩
 case mul=>obtain⟨r,e,hk⟩:=h;exact⟨_,hk,hb _ fun w=>by simp [binOp,Op.intArith,e]⟩
 case quo=>obtain⟨h0,r,e,hk⟩:=h;exact⟨_,hk,hb _ fun w=>by simp [binOp,Op.intDiv,e,h0]⟩
 case rem=>obtain⟨h0,r,e,hk⟩:=h;exact⟨_,hk,hb _ fun w=>by simp [binOp,Op.intDiv,e,h0]⟩
 case and=>obtain⟨r,e,hk⟩:=h;exact⟨_,hk,hb _ fun w=>by simp only [binOp,ne_eq,not_true_eq_false,if_false,Op.intBits,Sem.run_pure,e]⟩
 case or=>obtain⟨r,e,hk⟩:=h;exact⟨_,hk,hb _ fun w=>by simp only [binOp,ne_eq,not_true_eq_false,if_false,Op.intBits,Sem.run_pure,e]⟩
 case xor=>obtain⟨r,e,hk⟩:=h;exact⟨_,hk,hb _ fun w=>by simp only [binOp,ne_eq,not_true_eq_false,if_false,Op.intBits,Sem.run_pure,e]⟩
 case andNot=>obtain⟨r,e,hk⟩:=h;exact⟨_,hk,hb _ fun w=>by simp only [binOp,ne_eq,not_true_eq_false,if_false,Op.intBits,Sem.run_pure,e]⟩
theorem zof {op:BinOp} {T:TypeId} {x y:Operand} {vx vy:Value} {K:Value->Prop} (h:binE P op T x y vx vy K) :
  ∃ v,K v/\∀ w,(do eqGuard op T x y vx vy;binOp op T vx vy:Sem Value).run P w = .ok v w:=by
 unfold binE at h
 split at h
 ·rename_i k a k' b
  split at h
  ·obtain⟨h0,r,e,hk⟩:=h;exact⟨_,hk,fun w=>by simp [eqGuard,binOp,Op.shift,e,Int.not_lt.2 h0]⟩
  ·obtain⟨h0,r,e,hk⟩:=h;exact⟨_,hk,fun w=>by simp [eqGuard,binOp,Op.shift,e,Int.not_lt.2 h0]⟩
  ·rename_i n1 n2
   split at h
   ·rename_i hk;have:k=k':=(by simpa [kEq] using hk);subst this;exact znV T x y n1 n2 h
   ·exact h.elim
 ·obtain⟨v,hv,hk⟩:=h;exact⟨v,hk,hv⟩
theorem zhG {off sz:Nat} {agg:Bool} {cs:Array Value} {K:Value->Prop} {t:TypeId} (h:zgR off sz agg cs.toList K)
  (ha:((P.underlying t).map zhn).getD false=agg) (hs:P.cellsOf t=sz) (hn:zid P t) :
  ∃ v,K v/\∀ w,(part t cs off).run P w = .ok v w:=by
 obtain⟨⟨i,hi⟩,d,hd⟩:=hn;have hagg:∀ w,(isAgg t).run P w = .ok agg w:=by
  intro w;rw [hd] at ha;simp only [Option.map_some,Option.getD_some] at ha;simp only [isAgg,Sem.run_bind,run_underlying hd,Result.andThen_ok];rw [<- ha]
  cases d <;> rfl
 have hsz:∀ w,(sizeOf t).run P w = .ok sz w:=by
  intro w;rw [<- hs];simp [sizeOf,typeInfo,hi,Program.cellsOf]
 unfold zgR at h
 split at h
 ·refine⟨_,h,fun w=>?_⟩;simp only [part,Sem.run_bind,hagg w,Result.andThen_ok,if_true,hsz w,Sem.run_pure];congr 2;apply Array.toList_inj.1;simp [Array.toList_extract,List.extract_eq_take_drop]
 ·split at h
  ·rename_i v hv;refine⟨_,h,fun w=>?_⟩;have hv':cs[off]?=some v:=by simpa using hv
   simp only [part,Sem.run_bind,hagg w,Result.andThen_ok,hv',Bool.false_eq_true,if_false,Sem.run_pure]
  ·exact h.elim
theorem zbY {t:TypeId} {sz:Nat} (hn:zid P t) (hs:P.cellsOf t=sz):∀ w,(sizeOf t).run P w = .ok sz w:=by
 intro w;obtain⟨⟨i,hi⟩,_⟩:=hn;rw [<- hs];simp [sizeOf,typeInfo,hi,Program.cellsOf]
theorem zmQ {o:Option Value} {top dflt:Nat} {code:BoundsCode} {g:Nat->Prop} (h:bnd o dflt top g) :
  ∃ j,g j/\j<=(match o with | none=>dflt | some _=>top)/\∀ w,(match o with | some v=>Instr.sliceBound v top code | none=>pure dflt:Sem Nat).run P w = .ok j w:=by
 unfold bnd at h
 split at h
 ·exact⟨dflt,h,Nat.le_refl _,fun w=>rfl⟩
 ·rename_i k i;obtain⟨j,rfl,hj,hg⟩:=h;refine⟨j,hg,hj,fun w=>?_⟩;have h1:(0:Int)<=(j:Int)/\(j:Int)<=(top:Int):=⟨by omega,by omega⟩;simp [Instr.sliceBound,asIntOf,h1]
 ·exact h.elim
theorem zcn {isSlice:Bool} {len cap:Nat} {lo hi:Option Value} {g:Nat->Nat->Prop} (h:bnd hi len cap fun h=>bnd lo 0 h fun l=>g h l) :
  ∃ l h,g h l/\∀ w,(Instr.sliceBounds isSlice len cap lo hi none).run P w = .ok (l,h,cap) w:=by
 obtain⟨hh,h2,_,r1⟩:=zmQ (P:=P) (code:=if isSlice then .sliceAcap else .sliceAlen) h;obtain⟨l,h3,_,r2⟩:=zmQ (P:=P) (code := .sliceB) h2;refine⟨l,hh,h3,fun w=>?_⟩;have e1:=r1 w;have e2:=r2 w;unfold Instr.sliceBounds
 cases hi <;> cases lo <;> simp_all
theorem zjt (off:Nat):∀ (vs:List Value) (j:Nat) (l:List Value),((vs.toArray.zipIdx j).foldl (fun cs (c,j)=>cs.setIfInBounds (off+j) c) l.toArray)=(zix l (off+j) vs).toArray
 | [],j,l=>by rw [<- Array.foldl_toList];simp [zix]
 | v::r,j,l=>by
  have ih:=zjt off r (j+1) (l.set (off+j) v);simp only [zix];rw [<- Nat.add_assoc] at ih;rw [<- ih,<- Array.foldl_toList,<- Array.foldl_toList];simp
theorem zfc {place:Nat->Option (Nat×Nat)}:∀ (parts:List (Nat×Value)) (cells out:List Value),zgf place cells parts=some out->Instr.fill place cells.toArray parts=some out.toArray
 | [],cells,out,h=>by simp only [zgf,Option.some.injEq] at h;subst h;rfl
 | (i,v)::r,cells,out,h=>by
  simp only [zgf] at h
  split at h
  ·cases h
  ·rename_i off sz hp
   split at h
   ·rename_i hc;simp only [bAT,Nat.ble_eq] at hc;have h1:=Nat.eq_of_beq_eq_true hc.1;have ih:=zfc r _ out h;have e:=zjt off v.cells.toList 0 cells;simp only [Nat.add_zero] at e;simp only [Instr.fill,hp,h1,ne_eq,not_true_eq_false,decide_false,Bool.false_or,List.size_toArray,dE,gt_iff_lt];rw [if_neg (by omega),<- ih];congr 1
   ·cases h
theorem zgJ (z:List Value):∀ n,(zrep z n).length=n*z.length
 | 0=>by simp [zrep]
 | n+1=>by simp only [zrep,lap,zgJ z n,Nat.add_mul];omega
theorem zje (z:List Value) (hz:0<z.length):∀ (n i:Nat),i<n*z.length->(zrep z n)[i]?=z[i%z.length]?
 | 0,i,h=>by omega
 | n+1,i,h=>by
  simp only [zrep,List.getElem?_append]
  split
  ·rename_i hi;rw [Nat.mod_eq_of_lt hi]
  ·rename_i hi;rw [Nat.add_mul] at h;rw [zje z hz n (i-z.length) (by omega)];rw [show i%z.length=(i-z.length)%z.length from Nat.mod_eq_sub_mod (by omega)]
theorem zk1 (z:List Value) (hz:0<z.length) (n:Nat):((Array.range (n*z.length)).map (z.toArray[· % z.toArray.size]!))=(zrep z n).toArray:=by
 apply Array.ext
 ·simp [zgJ]
 ·intro i h1 h2;have h1':i<n*z.length:=by simpa using h1
  have hm:i%z.length<z.length:=Nat.mod_lt _ hz;have:=zje z hz n i h1';rw [gE hm] at this;simp only [Array.getElem_map,Array.getElem_range,List.size_toArray,List.getElem_toArray];have h3:(zrep z n)[i]?=some (zrep z n)[i]:=gE (by simpa using h2);rw [h3] at this;simp only [Option.some.injEq] at this;rw [this,getElem!_pos _ _ (by simpa using hm)];rfl
end
theorem zdv {w w2:World} (hb:Bw w w2) {p:Addr} {u:Value} (h:w.cell? p=some u):w2.cell? p=some u :=
 (hb.cell (World.block_lt_of_cell? w p h)).trans h
theorem zfb {vi:Value} {n:Nat} {g:Nat->Prop} (h:idx vi n g):∃ k j,vi = .int k (j:Nat)/\j<n/\g j:=by
 unfold idx at h
 split at h
 ·rename_i k i;obtain⟨j,rfl,hj,hg⟩:=h;exact⟨k,j,rfl,hj,hg⟩
 ·exact h.elim
theorem zfH {P:Program} {w:World} {T:Nat} {i:TI} (ht:TIok P T i) (ha:i.agg=true) {p:Addr} {vs:List Value} (hl:vs.length=i.size) (hc:zax w p vs) :
  (loadVar T p).run P w = .ok (.agg vs.toArray) w:=by
 obtain⟨⟨inf,hi,hs,_,_⟩,d,hd,hda,_⟩:=ht;have hagg:(isAgg T).run P w = .ok true w:=by
  simp only [isAgg,Sem.run_bind,run_underlying hd,Result.andThen_ok];rw [<- ha,<- hda];cases d <;> rfl
 have hsz:(sizeOf T).run P w = .ok vs.length w:=by
  rw [hl,<- hs];simp [sizeOf,typeInfo,hi]
 have hld:=run_loadCells_list (P:=P) w p vs hc;simp only [loadVar,Sem.run_bind,hagg,Result.andThen_ok,if_true,hsz,hld,Sem.run_pure]
theorem zfG {P:Program} {w:World} {T:Nat} {i:TI} (ht:TIok P T i) (ha:i.agg=false) {p:Addr} {u:Value} (hc:w.cell? p=some u) :
  (loadVar T p).run P w = .ok u w:=by
 obtain⟨_,d,hd,hda,_⟩:=ht;have hagg:(isAgg T).run P w = .ok false w:=by
  simp only [isAgg,Sem.run_bind,run_underlying hd,Result.andThen_ok];rw [<- ha,<- hda];cases d <;> rfl
 simp only [loadVar,Sem.run_bind,hagg,Result.andThen_ok,Bool.false_eq_true,if_false,run_load,hc]
theorem zaq {w w2:World} (hb:Bw w w2) {p:Addr} {vs:List Value} (h:zax w p vs):zax w2 p vs :=
 fun i v hv=>zdv hb (h i v hv)
def zrD (S:Sig) (E:Env) (o:Oper) (w:World) (v:Value):Prop :=
 ∀ a,Agrees S a E->∀ w2,(isN o.op=true\/Bw w w2)->(execOp a.eval o).run S.P w2 = .ok (.value v) w2
theorem zgd {S:Sig} (hS:SigOk S) {T:Nat} {vx vi:Value} {K:Value->Prop} (h:zeD (TT.get S.τ T) vx vi K) :
  ∃ v,K v/\∀ w,(Instr.indexAt T vx vi).run S.P w = .ok v w:=by
 unfold zeD at h
 split at h
 ·rename_i e esz _ _ _ _ ht;obtain⟨_,d,hd,_,hk⟩:=hS.ty _ _ ht;obtain⟨rfl,he,hn⟩:=hk
  split at h
  ·rename_i b o len cap;obtain⟨k,j,rfl,hj,hg⟩:=zfb h;refine⟨_,hg,fun w=>?_⟩;simp [Instr.indexAt,asIntOf,run_underlying hd,zbY hn he,hj,zb1]
  ·exact h.elim
 ·rename_i n e esz eagg _ _ _ _ ht;obtain⟨_,d,hd,_,hk⟩:=hS.ty _ _ ht;obtain⟨rfl,he,_,hn⟩:=hk
  split at h
  ·rename_i b o;obtain⟨k,j,rfl,hj,hg⟩:=zfb h;refine⟨_,hg,fun w=>?_⟩;simp [Instr.indexAt,asIntOf,run_underlying hd,zbY hn he,hj,zb1,Instr.sureAddr]
  ·exact h.elim
 ·exact h.elim
theorem zkl {S:Sig} (hS:SigOk S) {T:Nat} {vx:Value} {lo hi:Option Value} {K:Value->Prop} (h:zll (TT.get S.τ T) vx lo hi K) :
  ∃ v,K v/\∀ w,(Instr.sliceAt T vx lo hi none).run S.P w = .ok v w:=by
 unfold zll at h
 split at h
 ·rename_i e esz _ _ _ _ ht;obtain⟨_,d,hd,_,hk⟩:=hS.ty _ _ ht;obtain⟨rfl,he,hn⟩:=hk
  split at h
  ·rename_i base len cap;obtain⟨l,hh,hg,hr⟩:=zcn (P:=S.P) (isSlice:=true) h;refine⟨_,hg,fun w=>?_⟩;simp only [Instr.sliceAt,Sem.run_bind,run_underlying hd,Result.andThen_ok,Instr.slice,hr w,zbY hn he w,Sem.run_pure,zaI]
  ·exact h.elim
 ·rename_i n e esz eagg _ _ _ _ ht;obtain⟨_,d,hd,_,hk⟩:=hS.ty _ _ ht;obtain⟨rfl,he,_,hn⟩:=hk
  split at h
  ·rename_i a;obtain⟨l,hh,hg,hr⟩:=zcn (P:=S.P) (isSlice:=false) h;refine⟨_,hg,fun w=>?_⟩;simp only [Instr.sliceAt,Sem.run_bind,run_underlying hd,Result.andThen_ok,hr w,zbY hn he w,Sem.run_pure,Instr.sureAddr,zaI]
   split <;> simp_all
  ·exact h.elim
 ·rename_i _ _ _ _ ht;obtain⟨_,d,hd,_,hk⟩:=hS.ty _ _ ht;obtain rfl:=hk
  split at h
  ·rename_i s;obtain⟨l,hh,hg,hr⟩:=zcn (P:=S.P) (isSlice:=false) h;refine⟨_,hg,fun w=>?_⟩;simp only [Instr.sliceAt,Sem.run_bind,run_underlying hd,Result.andThen_ok,Instr.slice,hr w,Sem.run_pure,Option.isSome_none,Bool.false_eq_true,if_false]
  ·exact h.elim
 ·exact h.elim
theorem zfR {S:Sig} (hS:SigOk S) {T f:Nat} {g:Nat->Nat->Bool->Prop} (h:zjM (TT.get S.τ T) f g) :
  ∃ (F:Array Field) (fd:Field),S.P.underlying T=some (.struct F)/\F[f]?=some fd/\g fd.offset (S.P.cellsOf fd.type) (((S.P.underlying fd.type).map zhn).getD false)/\zid S.P fd.type:=by
 unfold zjM at h
 split at h
 ·rename_i fs _ _ _ _ ht;obtain⟨_,d,hd,_,hk⟩:=hS.ty _ _ ht;obtain⟨F,rfl,rfl,hn⟩:=hk
  split at h
  ·rename_i off sz agg hf;rw [List.getElem?_map] at hf
   cases hF:F.toList[f]? with
   | none=>rw [hF] at hf;simp at hf
   | some fd =>
    rw [hF] at hf;simp only [Option.map_some,Option.some.injEq,Prod.mk.injEq] at hf;obtain⟨rfl,rfl,rfl⟩:=hf;exact⟨F,fd,hd,by simpa using hF,h,hn fd (List.mem_of_getElem? hF)⟩
  ·exact h.elim
 ·exact h.elim
theorem zft {S:Sig} (hS:SigOk S) {E:Env} {o:Oper} {w:World} {K:Value->Prop} (h:zpk S E o.op w K):∃ v,K v/\zrD S E o w v:=by
 obtain⟨dst,op,type,pos,after,guard⟩:=o
 cases op <;> simp only [zpk] at h
 case move x =>
  obtain⟨v,hv,hk⟩:=zan h;exact⟨v,hk,fun a ha w2 _=>by simp [execOp,ha.eval hv]⟩
 case assign x =>
  obtain⟨v,hv,hk⟩:=zan h;exact⟨v,hk,fun a ha w2 _=>by simp [execOp,ha.eval hv]⟩
 case pick c x y =>
  replace h:=zan h;obtain⟨vc,hc,h⟩:=h;replace h:=zan h;obtain⟨va,hx,h⟩:=h;replace h:=zan h;obtain⟨vb,hy,h⟩:=h
  split at h
  ·rename_i t;refine⟨_,h,fun a ha w2 _=>?_⟩;simp only [execOp,ha.eval hc,ha.eval hx,ha.eval hy,asBool,Sem.run_bind,Sem.run_pure,Result.andThen_ok]
   cases t <;> rfl
  ·exact h.elim
 case binOp op T x y yt =>
  replace h:=zan h;obtain⟨vx,hx,h⟩:=h;replace h:=zan h;obtain⟨vy,hy,h⟩:=h;obtain⟨v,hk,hr⟩:=zof h;refine⟨v,hk,fun a ha w2 _=>?_⟩;simp only [execOp,ha.eval hx,ha.eval hy];rw [Sem.run_bind,hr w2];rfl
 case unOp op T x =>
  replace h:=zan h;obtain⟨v,hv,h⟩:=h
  split at h
  ·exact⟨_,h,fun a ha w2 _=>by simp [execOp,ha.eval hv,Op.unary]⟩
  ·obtain⟨r,e,hk⟩:=h;exact⟨_,hk,fun a ha w2 _=>by simp only [Int.zero_sub] at e;simp [execOp,ha.eval hv,Op.unary,Op.intArith,e]⟩
  ·obtain⟨u,hu,hk⟩:=h;exact⟨u,hk,fun a ha w2 _=>by simp only [execOp,ha.eval hv];rw [Sem.run_bind,hu w2];rfl⟩
 case convert s d x =>
  replace h:=zan h;obtain⟨v,hv,h⟩:=h
  split at h
  ·rename_i hs hd;obtain⟨_,ds,hds,_⟩:=hS.ty _ _ hs;obtain⟨_,dd,hdd,_,hk⟩:=hS.ty _ _ hd;obtain rfl:=hk;obtain⟨r,e,hk⟩:=h;refine⟨_,hk,fun a ha w2 _=>?_⟩;simp only [execOp,ha.eval hv,Sem.run_bind,convert,run_underlying hds,run_underlying hdd,Result.andThen_ok,Conv.intToInt,Sem.run_pure,e]
  ·obtain⟨u,hu,hk⟩:=h;exact⟨u,hk,fun a ha w2 hb=>by simp only [execOp,ha.eval hv];rw [Sem.run_bind,hu w2 (hb.resolve_left (by simp [isN]))];rfl⟩
 case field T x f =>
  replace h:=zan h;obtain⟨v,hv,h⟩:=h;obtain⟨F,fd,hu,hf,h,hn⟩:=zfR hS h
  split at h
  ·rename_i cs;obtain⟨v',hk,hr⟩:=zhG h rfl rfl hn;refine⟨v',hk,fun a ha w2 _=>?_⟩;simp only [execOp,ha.eval hv,Sem.run_bind,Instr.field,run_underlying hu,Result.andThen_ok,hf,asAgg,Sem.run_pure,hr w2]
  ·exact h.elim
 case index T x i =>
  replace h:=zan h;obtain⟨vx,hx,h⟩:=h;replace h:=zan h;obtain⟨vi,hi,h⟩:=h
  split at h
  ·rename_i n e esz eagg _ _ _ _ cs ht;obtain⟨_,d,hd,_,hk⟩:=hS.ty _ _ ht;obtain⟨rfl,he,hag,hn⟩:=hk;obtain⟨k,j,rfl,hj,hg⟩:=zfb h;obtain⟨v',hk,hr⟩:=zhG hg hag he hn;refine⟨v',hk,fun a ha w2 _=>?_⟩;have h1:(0:Int)<=(j:Int)/\(j:Int)<(n:Int):=⟨by omega,by omega⟩;simp only [execOp,ha.eval hx,ha.eval hi,Sem.run_bind,Instr.index,asIntOf,Sem.run_pure,run_underlying hd,Result.andThen_ok,h1,and_self,if_true,zbY hn he,Int.toNat_natCast,hr w2]
  ·rename_i s ht;obtain⟨_,d,hd,_,hk⟩:=hS.ty _ _ ht;obtain rfl:=hk;obtain⟨k,j,rfl,hj,u,hu,hg⟩:=zfb h;refine⟨_,hg,fun a ha w2 _=>?_⟩;have hu':s[j]?=some u:=by
    have h2:s.data[j]?=some u:=(by simpa using hu);obtain⟨hlt,e⟩:=Array.getElem?_eq_some_iff.1 h2;rw [getElem?_pos s j hj];exact congrArg some e
   simp [execOp,ha.eval hx,ha.eval hi,Instr.index,asIntOf,run_underlying hd,hu']
  ·exact h.elim
 case fieldAddr T x f =>
  replace h:=zan h;obtain⟨v,hv,h⟩:=h;obtain⟨F,fd,hu,hf,h,hn⟩:=zfR hS h
  split at h
  ·exact h.elim
  ·rename_i hz;have hz':S.P.cellsOf fd.type≠0:=fun e=>by rw [e] at hz;simp at hz
   split at h
   ·rename_i b o;refine⟨_,h,fun a ha w2 _=>?_⟩;simp only [execOp,ha.eval hv,Sem.run_bind,Instr.fieldAt,run_underlying hu,Result.andThen_ok,hf,Sem.run_pure,Instr.sureAddr,fieldPlace,zbY hn rfl w2,hz',if_false,zb1]
   ·exact h.elim
 case indexAddr T x i =>
  replace h:=zan h;obtain⟨vx,hx,h⟩:=h;replace h:=zan h;obtain⟨vi,hi,h⟩:=h;obtain⟨v,hk,hr⟩:=zgd hS h;exact⟨v,hk,fun a ha w2 _=>by simp only [execOp,ha.eval hx,ha.eval hi];rw [Sem.run_bind,hr w2];rfl⟩
 case slice T x lo hi mx =>
  replace h:=zan h;obtain⟨vx,hx,h⟩:=h;have oe:∀ {o:Option Operand} {f:Option Value->Prop},zk7 E o f->∃ ov,f ov/\∀ a,Agrees S a E->o.map a.eval=ov:=by
   intro o f h
   cases o with
   | none=>exact⟨none,h,fun _ _=>rfl⟩
   | some x=>obtain⟨v,hv,hf⟩:=zan h;exact⟨some v,hf,fun a ha=>by simp [ha.eval hv]⟩
  obtain⟨l,h,hl⟩:=oe h;obtain⟨hh,h,hhh⟩:=oe h
  split at h
  ·obtain⟨v,hk,hr⟩:=zkl hS h;exact⟨v,hk,fun a ha w2 _=>by simp only [execOp,ha.eval hx,hl a ha,hhh a ha,Option.map_none];rw [Sem.run_bind,hr w2];rfl⟩
  ·exact h.elim
 case lookup T x i ok =>
  replace h:=zan h;obtain⟨vx,hx,h⟩:=h;replace h:=zan h;obtain⟨vi,hi,u,hu,hk⟩:=h;exact⟨u,hk,fun a ha w2 hb=>by simp only [execOp,ha.eval hx,ha.eval hi];rw [Sem.run_bind,hu w2 (hb.resolve_left (by simp [isN]))];rfl⟩
 case build T ps =>
  obtain⟨vs,h,hvs⟩:=zcf (S:=S) h;have e:∀ a,Agrees S a E->(ps.map fun (i,x)=>(i,a.eval x)).toList=zipN ps.toList vs:=fun a ha=>by
   rw [<- hvs a ha];simp only [Array.toList_map,List.map_map];generalize ps.toList=l
   induction l with
   | nil=>rfl
   | cons p r ih=>obtain⟨i,x⟩:=p;simp only [List.map_cons,Function.comp_apply,zipN,ih]
  unfold zoP at h
  split at h
  ·rename_i fs _ _ _ z ht;obtain⟨⟨inf,hi,_,_,hzz⟩,d,hd,_,hk⟩:=hS.ty _ _ ht;obtain⟨F,rfl,rfl,hkn⟩:=hk;obtain⟨zv,hzv,hzc⟩:=hzz z rfl;obtain⟨cells,hf,hk⟩:=h;refine⟨_,hk,fun a ha w2 _=>?_⟩;have hzr:(zeroValue T).run S.P w2 = .ok zv w2:=by simp [zeroValue,typeInfo,hi,hzv]
   have hpl:(F.mapM fun f=>do pure (f.offset,<- sizeOf f.type):Sem (Array (Nat×Nat))).run S.P w2 = .ok (F.map fun f=>(f.offset,S.P.cellsOf f.type)) w2:=by
    rw [Array.mapM_eq_mapM_toList,Sem.run_map];have key:∀ l:List Field,(∀ f∈l,zid S.P f.type)->(l.mapM fun f=>do pure (f.offset,<- sizeOf f.type):Sem (List (Nat×Nat))).run S.P w2 = .ok (l.map fun f=>(f.offset,S.P.cellsOf f.type)) w2:=by
     intro l
     induction l with
     | nil=>intro _;rfl
     | cons f r ih =>
      intro hl;simp only [List.mapM_cons,Sem.run_bind,zbY (hl f List.mem_cons_self) rfl w2,Result.andThen_ok,Sem.run_pure,ih (fun g hg=>hl g (List.mem_cons_of_mem _ hg)),List.map_cons]
    rw [key F.toList hkn];simp only [Result.andThen_ok];congr 1;rw [<- Array.toList_inj];simp
   have hfl:=zfc _ _ _ hf;have hplace:(fun i=>(F.map fun f=>(f.offset,S.P.cellsOf f.type))[i]?)=zjx (F.toList.map fun f=>(f.offset,S.P.cellsOf f.type,((S.P.underlying f.type).map zhn).getD false)):=by
    funext i;simp only [zjx,List.getElem?_map,Array.getElem?_map,Array.getElem?_toList]
    cases F[i]? <;> rfl
   simp only [execOp,Sem.run_bind,Instr.build,hzr,Result.andThen_ok,run_underlying hd,hpl];rw [hplace,e a ha];have hz2:zv.cells=z.toArray:=by rw [<- hzc]
   rw [hz2,hfl];rfl
  ·rename_i n e0 esz eagg _ _ _ z ht;obtain⟨⟨inf,hi,_,_,hzz⟩,d,hd,_,hk⟩:=hS.ty _ _ ht;obtain⟨rfl,he,_,hkn⟩:=hk;obtain⟨zv,hzv,hzc⟩:=hzz z rfl;obtain⟨cells,hf,hk⟩:=h;refine⟨_,hk,fun a ha w2 _=>?_⟩;have hzr:(zeroValue T).run S.P w2 = .ok zv w2:=by simp [zeroValue,typeInfo,hi,hzv]
   have hfl:=zfc _ _ _ hf;simp only [execOp,Sem.run_bind,Instr.build,hzr,Result.andThen_ok,run_underlying hd,zbY hkn he w2];rw [e a ha];have hz2:zv.cells=z.toArray:=by rw [<- hzc]
   rw [hz2,hfl];rfl
  ·exact h.elim
 case extract t i =>
  replace h:=zan h;obtain⟨v,hv,h⟩:=h
  split at h
  ·rename_i vs
   split at h
   ·rename_i u hu;refine⟨_,h,fun a ha w2 _=>?_⟩;have hu':vs[i]?=some u:=(by simpa using hu);simp [execOp,ha.eval hv,Instr.extract,hu']
   ·exact h.elim
  ·exact h.elim
 case makeFunc fn first captured =>
  obtain⟨fs,h,hf⟩:=zcf (S:=S) h;obtain⟨cs,h,hc⟩:=zcf (S:=S) h;refine⟨_,h,fun a ha w2 _=>?_⟩;have e1:first.map a.eval=fs.toArray:=by rw [<- hf a ha,<- Array.toList_map]
  have e2:captured.map a.eval=cs.toArray:=by rw [<- hc a ha,<- Array.toList_map]
  simp [execOp,Instr.makeFunc,e1,e2]
 case nilCheck x =>
  replace h:=zan h;obtain⟨v,hv,h⟩:=h
  split at h
  ·exact⟨_,h,fun a ha w2 _=>by simp [execOp,ha.eval hv]⟩
  ·exact⟨_,h,fun a ha w2 _=>by simp [execOp,ha.eval hv]⟩
  ·exact h.elim
 case load T x =>
  replace h:=zan h;obtain⟨v,hv,h⟩:=h
  split at h
  ·split at h
   ·rename_i sz _ _ ht;obtain⟨vs,hl,hc,_,hk⟩:=h;refine⟨_,hk,fun a ha w2 hb=>?_⟩;replace hb:=hb.resolve_left (by simp [isN]);simp only [execOp,ha.eval hv,Sem.run_bind,Instr.loadAt,Instr.sureAddr,Sem.run_pure,Result.andThen_ok,zfH (hS.ty _ _ ht) rfl hl (zaq hb hc)]
   ·rename_i _ _ _ _ ht;obtain⟨u,hc,hk⟩:=h;refine⟨_,hk,fun a ha w2 hb=>?_⟩;replace hb:=hb.resolve_left (by simp [isN]);simp only [execOp,ha.eval hv,Sem.run_bind,Instr.loadAt,Instr.sureAddr,Sem.run_pure,Result.andThen_ok,zfG (hS.ty _ _ ht) rfl (zdv hb hc)]
   ·exact h.elim
  ·exact h.elim
 case call c =>
  obtain⟨callee,args,argTypes⟩:=c
  split at h
  ·rename_i hc;dsimp only at hc;subst hc
   split at h
   ·rename_i x T hx hT;have ex:args = #[x]:=(by rw [<- Array.toList_inj];simpa using hx);have eT:argTypes = #[T]:=(by rw [<- Array.toList_inj];simpa using hT);subst ex eT;replace h:=zan h;obtain⟨v,hv,h⟩:=h
    split at h
    ·rename_i e esz _ _ _ _ a n c ht;obtain⟨_,d,hd,_,hk⟩:=hS.ty _ _ ht;obtain⟨rfl,_⟩:=hk;exact⟨_,h,fun a ha w2 _=>by simp [execOp,resolve,invoke,builtin,Builtin.len_,ha.eval hv,run_underlying hd,goInt]⟩
    ·rename_i _ _ _ _ s ht;obtain⟨_,d,hd,_,hk⟩:=hS.ty _ _ ht;obtain rfl:=hk;exact⟨_,h,fun a ha w2 _=>by simp [execOp,resolve,invoke,builtin,Builtin.len_,ha.eval hv,run_underlying hd,goInt]⟩
    ·rename_i n e esz eagg _ _ _ _ ht;obtain⟨_,d,hd,_,hk⟩:=hS.ty _ _ ht;obtain⟨rfl,_⟩:=hk;refine⟨_,h,fun a ha w2 _=>?_⟩;simp [execOp,resolve,invoke,builtin,Builtin.len_,ha.eval hv,run_underlying hd,goInt]
    ·exact h.elim
   ·exact h.elim
  ·exact h.elim
def NN:Nat:=1000
def CallR (P:Program) (g:Nat) (args:Array Value) (w:World) (K:Value->World->Prop) (KP:List PanicEntry->World->Prop):Prop :=
 Calls P g args w fun e w'=>match e with
  | .returned v=>K v w'
  | .panicked ch=>KP ch w'
  | .outgrown=>False
theorem CallR.mk {P:Program} {g:Nat} {args:Array Value} {w:World} {K:Value->World->Prop} {KP:List PanicEntry->World->Prop} {R:Ending->World->Prop}
  (h:Calls P g args w R) (k:∀ e w',R e w'->∃ v,e = .returned v/\K v w'):CallR P g args w K KP :=
 h.mono fun e w' r=>by obtain⟨v,rfl,hk⟩:=k e w' r;exact hk
def YieldR (P:Program) (l:Nat) (args:Array Value) (w:World) (K:Value->World->Prop):Prop :=
 YieldAt (FR none) (NN-1) P l args w fun e w'=>match e with
  | .returned v=>K v w'
  | _=>False
def zbr (S:Sig) (g:Nat):Bool:=Nat.ble S.lo g&&Nat.blt g S.hi&&zlV g S.no
def zoa (S:Sig) (vf:Value) (vs:List Value) (w:World) (K:Value->World->Prop) (KP:List PanicEntry->World->Prop):Prop :=
 match vf with
 | .func (.func g) first captured=>(match zbr S g with
  | true=>CallR S.P g (first.toList++vs++captured.toList).toArray w K KP
  | false=>False)
 | .func (.yield l) first _=>YieldR S.P l (first.toList++vs).toArray w K
 | .func fn first captured=>∃ g args,(invoke (.fn fn captured) (first.toList++vs).toArray).run S.P w = .ok (.enter g args) w/\CallR S.P g args w K KP
 | _=>False
def zj0 (S:Sig) (b:Builtin) (argTypes:Array TypeId) (type:TypeId) (vs:List Value) (w:World) (K:Value->World->Prop) (KP:List PanicEntry->World->Prop):Prop :=
 match b with
 | .append=>SatR ((Builtin.append_ argTypes type vs.toArray).run S.P w) K
 | .copy=>SatR ((Builtin.copy_ argTypes type vs.toArray).run S.P w) K
 | .cap=>SatR ((Builtin.cap_ argTypes type vs.toArray).run S.P w) K
 | .len=>SatR ((Builtin.len_ argTypes type vs.toArray).run S.P w) K
 | .min=>SatR ((Builtin.min_ argTypes type vs.toArray).run S.P w) K
 | .max=>SatR ((Builtin.max_ argTypes type vs.toArray).run S.P w) K
 | .delete=>SatR ((Builtin.delete_ argTypes type vs.toArray).run S.P w) K
 | .clear=>SatR ((Builtin.clear_ argTypes type vs.toArray).run S.P w) K
 | .panic=>∃ v w',(Instr.panic (vs.toArray.getD 0 .nilIface)).run S.P w = .halt (.panic v) w'/\KP [{ v,recovered:=false }] w'
 | _=>False
def effE (S:Sig) (E:Env) (o:Oper) (w:World) (K:Value->World->Prop) (KP:List PanicEntry->World->Prop):Prop :=
 match o.op with
 | .alloc T=>(match TT.get S.τ T with
  | some { zero:=some z,.. }=>K (.pointer (some ⟨w.heap.size,0,none⟩)) (w.alloc (.cells z.toArray T))
  | _=>False)
 | .box T x=>zaN E x fun v=>K (.pointer (some ⟨w.heap.size,0,none⟩)) (w.alloc (.cells v.cells T))
 | .buildSlice T n ps=>zih E (ps.toList.map (·.2)) fun vs=>(match TT.get S.τ T with
  | some { kind := .slice e esz,.. }=>(match TT.get S.τ e with
   | some { zero:=some z,.. }=>(n*esz<=16777216/\0<esz/\z.length=esz)/\∃ cells:List Value,
     zgf (fun i=>some (i*esz,esz)) (zrep z n) (zipN ps.toList vs)=some cells /\
     K (.slice (some ⟨w.heap.size,0,none⟩) n n) (w.alloc (.cells cells.toArray e))
   | _=>False)
  | _=>False)
 | .store T a x=>zaN E a fun va=>zaN E x fun vx=>(match va with
  | .pointer (some p)=>SatR ((storeVar T p vx).run S.P w) fun _ w'=>K undef w'
  | _=>False)
 | .makeSlice T l c=>zaN E l fun vl=>zaN E c fun vc=>SatR ((Instr.makeSlice T vl vc).run S.P w) K
 | .makeMap T r=>zk7 E r fun vr=>SatR ((Instr.makeMap T vr).run S.P w) K
 | .makeInterface T x=>zaN E x fun v=>SatR ((Instr.makeInterface T v).run S.P w) K
 | .mapUpdate T m k x=>zaN E m fun vm=>zaN E k fun vk=>zaN E x fun vx=>SatR ((Instr.mapUpdate T vm vk vx).run S.P w) fun _ w'=>K undef w'
 | .insert T m k x=>zaN E m fun vm=>zaN E k fun vk=>zaN E x fun vx=>SatR ((Instr.mapUpdate T vm vk vx).run S.P w) fun _ w'=>K undef w'
 | .mapEntry T m k=>zaN E m fun vm=>zaN E k fun vk=>SatR ((Instr.mapEntry T vm vk).run S.P w) K
 | .entryStore T m s x=>zaN E m fun vm=>zaN E s fun vs=>zaN E x fun vx=>SatR ((Instr.entryStore T vm vs vx).run S.P w) fun _ w'=>K undef w'
 | .range T x=>zaN E x fun v=>SatR ((Instr.range T v).run S.P w) K
 | .next it s=>zaN E it fun v=>SatR ((Instr.next v s o.type).run S.P w) K
 | .entry it=>zaN E it fun v=>SatR ((Instr.entry v).run S.P w) K
 | .typeAssert x T a ok=>zaN E x fun v=>SatR ((Instr.typeAssert v T a ok).run S.P w) K
 | .nilCheck x=>zaN E x fun v=>SatR ((execOp (fun _=>v) { o with op := .nilCheck (.tmp 0) }).run S.P w) fun nx w'=>(match nx with
  | .value u=>K u w'
  | _=>False)
 | .panic x=>zaN E x fun v=>∃ u w',(Instr.panic v).run S.P w = .halt (.panic u) w'/\KP [{ v:=u,recovered:=false }] w'
 | .call c=>zih E c.args.toList fun vs=>(match c.callee with
  | .value f=>zaN E f fun vf=>zoa S vf vs w K KP
  | .builtin b=>zj0 S b c.argTypes o.type vs w K KP
  | .invoke r m=>zaN E r fun vr=>∃ g args,(callMethod vr m vs.toArray).run S.P w = .ok (.enter g args) w/\CallR S.P g args w K KP)
 | _=>False
theorem zdu {P:Program} {r:Option Nat} {n g:Nat} {args:Array Value} {w:World} {R:Ending->World->Prop} (h:Calls P g args w R):CallsIn (FR r) n P g args w R:=by
 have h1:CallsIn Fence.wide n P g args w R:=callsIn_wide.2 h;exact⟨trivial,fun cs _=>h1.2 cs (room_wide _)⟩
theorem SatR.elim {α:Type} {r:Result α} {K:α->World->Prop} (h:SatR r K):∃ v w',r = .ok v w'/\K v w':=h
section
variable {S:Sig} {E:Env} {o:Oper} {w:World} {K:Value->World->Prop} {KP:List PanicEntry->World->Prop} {a:Act} {n:Nat}
 {next:Act->World->Prop} {Q:Exit->Act->World->Prop}
def UponE (S:Sig) (n:Nat) (o:Oper) (a:Act) (w:World) (next:Act->World->Prop) (Q:Exit->Act->World->Prop):Prop :=
 match (execOp a.eval o).run S.P w with
 | .ok (.value v) w'=>next (a.put o.dst v) w'
 | .ok .skip w'=>next (a.put o.dst undef) w'
 | .ok (.enter f args) w'=>CallsIn (FR S.r) (n-1) S.P f args w' fun
   | .returned v,w''=>next (a.put o.dst v) w''
   | .panicked chain,w''=>Q (.panic chain) a w''
   | .outgrown,_=>False
 | .ok (.round l f tmps assign body) w'=>RoundIn (FR S.r) (n-1) S.P l f tmps assign body w' fun
   | .returned v,w''=>next (a.put o.dst v) w''
   | .panicked chain,w''=>Q (.panic chain) a w''
   | .outgrown,_=>False
 | .halt (.panic v) w'=>Q (.panic [{ v,recovered:=false }]) a w'
 | _=>False
theorem UponE.wpIn (hd:∀ c,o.op ≠ .defer c) (h:UponE S n o a w next Q):o.wpIn (FR S.r) n S.P a w next Q:=by
 refine⟨fun _ _=>trivial,?_⟩;rw [Oper.semAt_eq _ _ _ hd];unfold UponE at h
 split at h
 case h_1 hr=>rw [hr];exact h
 case h_2 hr=>rw [hr];exact h
 case h_3 hr =>
  rw [hr,Oper.uponIn_enter];exact⟨fun h=>by simp [FR] at h,h.mono fun e w'' he=>by cases e <;> first | exact he | exact he.elim⟩
 case h_4 hr =>
  rw [hr,Oper.uponIn_round];exact⟨fun h=>by simp [FR] at h,h.mono fun e w'' he=>by cases e <;> first | exact he | exact he.elim⟩
 case h_5 hr=>rw [hr];exact h
 case h_6=>exact h.elim
theorem zaJ {v:Value} {w':World} (_hd:∀ c,o.op ≠ .defer c) (hr:(execOp a.eval o).run S.P w = .ok (.value v) w') (hk:next (a.put o.dst v) w') :
  UponE S n o a w next Q:=by unfold UponE;rw [hr];exact hk
theorem zdm {w':World} (_hd:∀ c,o.op ≠ .defer c) (hr:(execOp a.eval o).run S.P w = .ok .skip w') (hk:next (a.put o.dst undef) w') :
  UponE S n o a w next Q:=by unfold UponE;rw [hr];exact hk
theorem zgh {v:Value} {w':World} (_hd:∀ c,o.op ≠ .defer c) (hr:(execOp a.eval o).run S.P w = .halt (.panic v) w') (hk:Q (.panic [{ v,recovered:=false }]) a w') :
  UponE S n o a w next Q:=by unfold UponE;rw [hr];exact hk
theorem zel {g:Nat} {args:Array Value} {w':World} (_hd:∀ c,o.op ≠ .defer c) (hr:(execOp a.eval o).run S.P w = .ok (.enter g args) w') (hc:CallR S.P g args w' K KP)
  (hn:∀ v w',K v w'->next (a.put o.dst v) w') (hp:∀ ch w',KP ch w'->Q (.panic ch) a w') :
  UponE S n o a w next Q:=by
 unfold UponE;rw [hr];refine zdu (hc.mono fun e w'' he=>?_)
 cases e with
 | returned v=>exact hn _ _ he
 | panicked ch=>exact hp _ _ he
 | outgrown=>exact he.elim
theorem zcT {P:Program} {r r':Option Nat} {n n' l g:Nat} {tmps:Array Value} {assign body:Code} {w:World} {R:Ending->World->Prop} (h:RoundIn (FR r) n P l g tmps assign body w R) :
  RoundIn (FR r') n' P l g tmps assign body w R :=
 ⟨trivial,fun c cs _=>h.2 c cs (fun d hd=>by simp [FR] at hd)⟩
theorem zeH (hS:SigOk S) (h:effE S E o w K KP) (ha:Agrees S a E)
  (hn:∀ v w',K v w'->next (a.put o.dst v) w') (hp:∀ ch w',KP ch w'->Q (.panic ch) a w'):UponE S n o a w next Q:=by
 obtain⟨dst,op,type,pos,after,guard⟩:=o;have oe:∀ {o:Option Operand} {f:Option Value->Prop},zk7 E o f->∃ ov,f ov/\o.map a.eval=ov:=by
  intro o f h
  cases o with
  | none=>exact⟨none,h,rfl⟩
  | some x=>obtain⟨v,hv,hf⟩:=zan h;exact⟨some v,hf,by simp [ha.eval hv]⟩
 cases op <;> simp only [effE] at h
 case alloc T =>
  split at h
  ·rename_i z ht;obtain⟨⟨inf,hi,_,_,hzz⟩,_⟩:=hS.ty _ _ ht;obtain⟨v,hz,hc⟩:=hzz z rfl;refine zaJ (fun c=>by simp) ?_ (hn _ _ h);have hzv:(zeroValue T).run S.P w = .ok v w:=by simp [zeroValue,typeInfo,hi,hz]
   have e:v.cells=z.toArray:=by rw [<- hc]
   simp [execOp,Instr.alloc,hzv,newVar,newRow,newObj,Sem.run,e]
  ·exact h.elim
 case box T x =>
  obtain⟨v,hv,h'⟩:=zan h;refine zaJ (fun c=>by simp) ?_ (hn _ _ h');simp [execOp,Instr.box,ha.eval hv,newVar,newRow,newObj,Sem.run]
 case buildSlice T k ps =>
  obtain⟨vs,h',hvs⟩:=zcf (S:=S) h;have e:(ps.map fun (i,x)=>(i,a.eval x)).toList=zipN ps.toList vs:=by
   rw [<- hvs a ha];simp only [Array.toList_map,List.map_map];generalize ps.toList=l
   induction l with
   | nil=>rfl
   | cons p r ih=>obtain⟨i,x⟩:=p;simp only [List.map_cons,Function.comp_apply,zipN,ih]
  split at h'
  ·rename_i e1 esz _ _ _ _ ht
   split at h'
   ·rename_i z hte;obtain⟨_,d,hd,_,hk⟩:=hS.ty _ _ ht;obtain⟨rfl,he,hkn⟩:=hk;obtain⟨⟨inf,hi,_,_,hzz⟩,_⟩:=hS.ty _ _ hte;obtain⟨v,hz,hc⟩:=hzz z rfl;obtain⟨⟨hle,hpos,hlen⟩,cells,hf,hk⟩:=h';have hf:=zfc _ _ _ hf;subst hlen;rw [<- zk1 z hpos k] at hf;refine zaJ (fun c=>by simp) ?_ (hn _ _ hk);have hzv:∀ w,(zeroValue e1).run S.P w = .ok v w:=(by intro w;simp [zeroValue,typeInfo,hi,hz]);have ec:v.cells=z.toArray:=(by rw [<- hc]);have hle':¬ (k*z.length > 2^24):=(by omega);simp only [execOp,Instr.buildSlice,Sem.run_bind,run_underlying hd,Result.andThen_ok,zbY hkn he w,hle',if_false];by_cases h0:k*z.length=0
    ·rw [e];simp only [h0,if_true,Sem.run_bind,Sem.run_pure,Result.andThen_ok];rw [h0] at hf;have e0:(Array.map (fun x=>(#[]:Array Value)[x%(#[]:Array Value).size]!) (Array.range 0))=(Array.map (fun x=>z.toArray[x%z.toArray.size]!) (Array.range 0)):=(by simp);rw [e0,hf];simp [newRow,newObj,Sem.run]
    ·rw [e];simp only [h0,if_false,Sem.run_bind,hzv,Result.andThen_ok,Sem.run_pure,ec,hf];simp [newRow,newObj,Sem.run]
   ·exact h'.elim
  ·exact h'.elim
 case store T x y =>
  obtain⟨va,hva,h'⟩:=zan h;obtain⟨vx,hvx,h'⟩:=zan h'
  split at h'
  ·obtain⟨_,w',hr,hk⟩:=SatR.elim h';refine zdm (fun c=>by simp) ?_ (hn _ _ hk);simp only [execOp,ha.eval hva,ha.eval hvx,Instr.storeAt,Instr.sureAddr,Sem.run_bind,Sem.run_pure,Result.andThen_ok,hr]
  ·exact h'.elim
 case makeSlice T l c =>
  obtain⟨vl,hl,h'⟩:=zan h;obtain⟨vc,hc,h'⟩:=zan h';obtain⟨v,w',hr,hk⟩:=SatR.elim h';refine zaJ (fun c=>by simp) ?_ (hn _ _ hk);simp only [execOp,ha.eval hl,ha.eval hc];rw [Sem.run_bind,hr];rfl
 case makeMap T r =>
  obtain⟨vr,h',hvr⟩:=oe h;obtain⟨v,w',hr,hk⟩:=SatR.elim h';refine zaJ (fun c=>by simp) ?_ (hn _ _ hk);simp only [execOp,hvr];rw [Sem.run_bind,hr];rfl
 case makeInterface T x =>
  obtain⟨vx,hx,h'⟩:=zan h;obtain⟨v,w',hr,hk⟩:=SatR.elim h';refine zaJ (fun c=>by simp) ?_ (hn _ _ hk);simp only [execOp,ha.eval hx];rw [Sem.run_bind,hr];rfl
 case mapUpdate T m k x =>
  obtain⟨vm,hm,h'⟩:=zan h;obtain⟨vk,hk,h'⟩:=zan h';obtain⟨vx,hx,h'⟩:=zan h';obtain⟨v,w',hr,hkk⟩:=SatR.elim h';refine zdm (fun c=>by simp) ?_ (hn _ _ hkk);simp only [execOp,ha.eval hm,ha.eval hk,ha.eval hx];rw [Sem.run_bind,hr];rfl
 case insert T m k x =>
  obtain⟨vm,hm,h'⟩:=zan h;obtain⟨vk,hk,h'⟩:=zan h';obtain⟨vx,hx,h'⟩:=zan h';obtain⟨v,w',hr,hkk⟩:=SatR.elim h';refine zdm (fun c=>by simp) ?_ (hn _ _ hkk);simp only [execOp,ha.eval hm,ha.eval hk,ha.eval hx];rw [Sem.run_bind,hr];rfl
 case mapEntry T m k =>
  obtain⟨vm,hm,h'⟩:=zan h;obtain⟨vk,hk,h'⟩:=zan h';obtain⟨v,w',hr,hkk⟩:=SatR.elim h';refine zaJ (fun c=>by simp) ?_ (hn _ _ hkk);simp only [execOp,ha.eval hm,ha.eval hk];rw [Sem.run_bind,hr];rfl
 case entryStore T m k x =>
  obtain⟨vm,hm,h'⟩:=zan h;obtain⟨vk,hk,h'⟩:=zan h';obtain⟨vx,hx,h'⟩:=zan h';obtain⟨v,w',hr,hkk⟩:=SatR.elim h';refine zdm (fun c=>by simp) ?_ (hn _ _ hkk);simp only [execOp,ha.eval hm,ha.eval hk,ha.eval hx];rw [Sem.run_bind,hr];rfl
 case range T x =>
  obtain⟨vx,hx,h'⟩:=zan h;obtain⟨v,w',hr,hk⟩:=SatR.elim h';refine zaJ (fun c=>by simp) ?_ (hn _ _ hk);simp only [execOp,ha.eval hx];rw [Sem.run_bind,hr];rfl
 case next it s =>
  obtain⟨vx,hx,h'⟩:=zan h;obtain⟨v,w',hr,hk⟩:=SatR.elim h';refine zaJ (fun c=>by simp) ?_ (hn _ _ hk);simp only [execOp,ha.eval hx];rw [Sem.run_bind,hr];rfl
 case entry it =>
  obtain⟨vx,hx,h'⟩:=zan h;obtain⟨v,w',hr,hk⟩:=SatR.elim h';refine zaJ (fun c=>by simp) ?_ (hn _ _ hk);simp only [execOp,ha.eval hx];rw [Sem.run_bind,hr];rfl
 case typeAssert x T y ok =>
  obtain⟨vx,hx,h'⟩:=zan h;obtain⟨v,w',hr,hk⟩:=SatR.elim h';refine zaJ (fun c=>by simp) ?_ (hn _ _ hk);simp only [execOp,ha.eval hx];rw [Sem.run_bind,hr];rfl
 case nilCheck x =>
  obtain⟨vx,hx,h'⟩:=zan h;obtain⟨nx,w',hr,hk⟩:=SatR.elim h'
  split at hk
  ·refine zaJ (fun c=>by simp) ?_ (hn _ _ hk);simp only [execOp,ha.eval hx];simpa only [execOp] using hr
  ·exact hk.elim
 case panic x =>
  obtain⟨vx,hx,u,w',hr,hk⟩:=zan h;refine zgh (fun c=>by simp) ?_ (hp _ _ hk);simp only [execOp,ha.eval hx];rw [Sem.run_bind,hr];rfl
 case call c =>
  obtain⟨callee,args,argTypes⟩:=c;obtain⟨vs,h',hvs⟩:=zcf (S:=S) h;have ev:args.map a.eval=vs.toArray:=by rw [<- hvs a ha,<- Array.toList_map]
  dsimp only at h'
  split at h'
  ·rename_i f;obtain⟨vf,hf,h'⟩:=zan h';unfold zoa at h'
   split at h'
   ·rename_i g first captured
    split at h'
    ·rename_i hok;simp only [zbr,bAT,Nat.ble_eq,Nat.blt_eq] at hok;refine zel (fun c=>by simp) ?_ h' hn hp;have e2:first++vs.toArray++captured=(first.toList++vs++captured.toList).toArray:=by
      rw [<- Array.toList_inj];simp
     simp only [execOp,resolve,ev,ha.eval hf,Deferred.ofValue,Sem.run_bind,Sem.run_pure,Result.andThen_ok,invoke,e2];exact hS.call g hok.1.1 hok.1.2 hok.2 _ _
    ·exact h'.elim
   ·rename_i l first captured
    obtain⟨fn,tmps,assign,body,hy,hR⟩:=h';have e2:first++vs.toArray=(first.toList++vs).toArray:=by
     rw [<- Array.toList_inj];simp
    have hr:(execOp a.eval ⟨dst,.call ⟨.value f,args,argTypes⟩,type,pos,after,guard⟩).run S.P w = .ok (.round l fn tmps assign body) w:=by
     simp only [execOp,resolve,ev,ha.eval hf,Deferred.ofValue,Sem.run_bind,Sem.run_pure,Result.andThen_ok,invoke,e2];exact hy
    unfold UponE;rw [hr];refine zcT (hR.mono fun e w'' he=>?_)
    cases e with
    | returned v=>exact hn _ _ he
    | panicked ch=>exact he.elim
    | outgrown=>exact he.elim
   ·rename_i fn first captured _ _
    obtain⟨g,args',hi,hc⟩:=h';refine zel (fun c=>by simp) ?_ hc hn hp;have e2:first++vs.toArray=(first.toList++vs).toArray:=by
     rw [<- Array.toList_inj];simp
    simp only [execOp,resolve,ev,ha.eval hf,Deferred.ofValue,Sem.run_bind,Sem.run_pure,Result.andThen_ok,e2];exact hi
   ·exact h'.elim
  ·rename_i b;unfold zj0 at h'
   split at h'
   case h_9 =>
    obtain⟨u,w',hr,hk⟩:=h';refine zgh (fun c=>by simp) ?_ (hp _ _ hk);simp only [execOp,resolve,ev,invoke,builtin,Sem.run_bind,Sem.run_pure,Result.andThen_ok,hr,Result.andThen_halt]
   case h_10=>exact h'.elim
   all_goals
    obtain⟨v,w',hr,hk⟩:=SatR.elim h';refine zaJ (fun c=>by simp) ?_ (hn _ _ hk);simp only [execOp,resolve,ev,invoke,builtin,Sem.run_bind,Sem.run_pure,Result.andThen_ok,hr]
  ·rename_i r m;obtain⟨vr,hvr,g,args',hi,hc⟩:=zan h';refine zel (fun c=>by simp) ?_ hc hn hp;have hx:(#[vr]++vs.toArray).extract 1 (#[vr]++vs.toArray).size=vs.toArray:=by
    rw [<- Array.toList_inj];simp
   have h0:(#[vr]++vs.toArray)[0]?=some vr:=by simp
   simp only [execOp,resolve,ev,ha.eval hvr,Sem.run_bind,Sem.run_pure,Result.andThen_ok,invoke,h0,hx];exact hi
end
def zfM (τ : TT) (op : Op) : Bool :=
  match op with
  | .move _ | .assign _ | .pick .. | .binOp .. | .unOp .. | .convert .. | .field .. | .index .. | .fieldAddr .. | .indexAddr .. | .slice .. | .extract .. | .makeFunc .. | .nilCheck _ | .load .. | .lookup .. | .build .. => true
  | .call c => (match c.callee with
    | .builtin .len => (match c.argTypes.toList with
      | [T] => (match TT.get τ T with
        | some { kind := .map _ _, .. } => false
        | _ => true)
      | _ => true)
    | _ => false)
  | _ => false
def memN (i : Nat) : List Nat → Bool
  | [] => false
  | k :: r => match Nat.beq k i with
    | true => true
    | false => memN i r
def zbS (op : Op) : Bool := match op with | .select .. | .defer .. | .go .. => false | _ => true
def PV (P : Program) (o : Oper) (a : Act) (w : World) (v : Value) : Prop := ∀ w2, (isN o.op = true ∨ Below w.heap.size w w2) → (execOp a.eval o).run P w2 = .ok (.value v) w2
def PQ (QP : List PanicEntry → World → Prop) : Exit → Act → World → Prop := fun ex _ w => match ex with
  | .panic ch => QP ch w
  | _ => False
def zbE (S : Sig) (X : List Nat) (n : Nat) (QP : List PanicEntry → World → Prop) (ops : Array Oper) (i : Nat) (K : Act → World → Prop) (a : Act) (w : World) : Prop :=
  match ops[i]? with
  | none => K a w
  | some o => if Region.wanted o (yielded ops a.tmps) then
      (if zfM S.τ o.op then ∃ v, PV S.P o a w v ∧ K (a.put o.dst v) w
       else UponE S n o a w (fun a' w' => (memN i X = false → Below w.heap.size w w') ∧ K a' w') (PQ QP))
    else K (a.put o.dst undef) w
def ziK (S : Sig) (X : List Nat) (n : Nat) (QP : List PanicEntry → World → Prop) (ops : Array Oper) (K : Act → World → Prop) : List Nat → Act → World → Prop
  | [], a, w => K a w
  | i :: r, a, w => zbE S X n QP ops i (ziK S X n QP ops K r) a w
section
variable {S : Sig} {X : List Nat} {n : Nat} {QP : List PanicEntry → World → Prop} {ops : Array Oper}
theorem zem {o : Oper} {a a' : Act} {w : World} {next next' : Act → World → Prop} (he : execOp a'.eval o = execOp a.eval o)
    (hn : ∀ u w', next (a'.put o.dst u) w' → next' (a.put o.dst u) w') (h : UponE S n o a' w next (PQ QP)) : UponE S n o a w next' (PQ QP) := by
  unfold UponE at *
  rw [he] at h
  split at h
  · exact hn _ _ h
  · exact hn _ _ h
  · exact CallsIn.mono h fun e w'' he => by cases e <;> first | exact hn _ _ he | exact he
  · exact RoundIn.mono h fun e w'' he => by cases e <;> first | exact hn _ _ he | exact he
  · exact h
  · exact h
theorem zeq {i : Nat} {K K' : Act → World → Prop} {a : Act} {w : World} (h : ∀ a w, K a w → K' a w) (hh : zbE S X n QP ops i K a w) : zbE S X n QP ops i K' a w := by
  unfold zbE at *
  split
  · rename_i ho; simp only [ho] at hh; exact h _ _ hh
  · rename_i o ho
    simp only [ho] at hh
    split
    · rename_i hw
      simp only [hw, if_true] at hh
      split
      · rename_i hp; simp only [hp, if_true] at hh; obtain ⟨v, h1, h2⟩ := hh; exact ⟨v, h1, h _ _ h2⟩
      · rename_i hp; simp only [hp, Bool.false_eq_true, if_false] at hh; exact zem rfl (fun u w' hk => ⟨hk.1, h _ _ hk.2⟩) hh
    · rename_i hw; simp only [hw] at hh; exact h _ _ hh
structure Indep (S : Sig) (X : List Nat) (ops : Array Oper) (k i : Nat) : Prop where
  h : ∀ ok oi, ops[k]? = some ok → ops[i]? = some oi → ok.apart ops oi = true ∧ zfM S.τ ok.op = true ∧ zbS ok.op = true ∧ zbS oi.op = true ∧ (zfM S.τ oi.op = true ∨ memN i X = false ∨ isN ok.op = true)
theorem zfz {op : Op} (h : zbS op = true) : ∀ cs b, op ≠ .select cs b := fun cs b e => by subst e; simp [zbS] at h
theorem zbR {op : Op} (h : zbS op = true) : ∀ c, op ≠ .defer c := fun c e => by subst e; simp [zbS] at h
theorem PV.below {P : Program} {o : Oper} {a : Act} {w w' : World} {v : Value} (h : PV P o a w v) (hb : isN o.op = true ∨ Below w.heap.size w w') : PV P o a w' v :=
  fun w2 h2 => h w2 (by rcases hb with hb | hb
                        · exact .inl hb
                        · exact h2.imp id (fun h2 => hb.trans (h2.mono hb.size)))
theorem zep {k i : Nat} (hk : Indep S X ops k i) {K : Act → World → Prop} {a : Act} {w : World} (h : zbE S X n QP ops k (zbE S X n QP ops i K) a w) : zbE S X n QP ops i (zbE S X n QP ops k K) a w := by
  cases hok : ops[k]? with
  | none =>
    have e : ∀ K', zbE S X n QP ops k K' = K' := fun K' => by funext a w; simp [zbE, hok]
    rw [e] at h ⊢; exact h
  | some ok =>
    cases hoi : ops[i]? with
    | none =>
      have e : ∀ K', zbE S X n QP ops i K' = K' := fun K' => by funext a w; simp [zbE, hoi]
      rw [e] at h; rw [e]; exact h
    | some oi =>
      obtain ⟨hap, hp, hsk, hsi, hx⟩ := hk.h ok oi hok hoi
      obtain ⟨h1, h2, h3⟩ := Oper.apart_spec hap
      have core : ∀ v, ((Region.wanted ok (yielded ops a.tmps) = true ∧ PV S.P ok a w v) ∨ (Region.wanted ok (yielded ops a.tmps) = false ∧ v = undef)) →
          zbE S X n QP ops i K (a.put ok.dst v) w → zbE S X n QP ops i (zbE S X n QP ops k K) a w := by
        intro v hv h
        have after : ∀ u w', (isN ok.op = true ∨ Below w.heap.size w w') → K ((a.put ok.dst v).put oi.dst u) w' → zbE S X n QP ops k K (a.put oi.dst u) w' := by
          intro u w' hb hK
          unfold zbE
          simp only [hok, hp, if_true]
          rw [wanted_put ok a oi.dst u h3]
          rw [Act.put_comm a v u h2] at hK
          rcases hv with ⟨hw, hpv⟩ | ⟨hw, rfl⟩
          · simp only [hw, if_true]
            refine ⟨v, fun w2 h2 => ?_, hK⟩
            rw [execOp_put ok (zfz hsk) a oi.dst u h3]
            exact (hpv.below hb) w2 h2
          · simp only [hw]; exact hK
        unfold zbE at h ⊢
        simp only [hoi] at h ⊢
        rw [wanted_put oi a ok.dst v h1] at h
        split
        · rename_i hwi
          simp only [hwi, if_true] at h
          split
          · rename_i hpi
            simp only [hpi, if_true] at h
            obtain ⟨u, hu, hK⟩ := h
            refine ⟨u, fun w2 hb => ?_, after u w (.inr (Below.refl _ _)) hK⟩
            have := hu w2 hb
            rwa [execOp_put oi (zfz hsi) a ok.dst v h1] at this
          · rename_i hpi
            simp only [hpi, Bool.false_eq_true, if_false] at h
            exact zem (execOp_put oi (zfz hsi) a ok.dst v h1) (fun u w' hh => ⟨hh.1, after u w' ((hx.resolve_left hpi).elim (fun hm => .inr (hh.1 hm)) .inl) hh.2⟩) h
        · rename_i hwi
          simp only [hwi] at h
          exact after undef w (.inr (Below.refl _ _)) h
      have h' := h
      unfold zbE at h
      simp only [hok, hp, if_true] at h
      cases hw : Region.wanted ok (yielded ops a.tmps) with
      | true =>
        simp only [hw, if_true] at h
        obtain ⟨v, hv, hK⟩ := h
        exact core v (.inl ⟨hw, hv⟩) hK
      | false =>
        simp only [hw] at h
        exact core undef (.inr ⟨hw, rfl⟩) h
theorem zfI {K : Act → World → Prop} {i : Nat} : ∀ (L : List Nat), L.Nodup → i ∈ L → (∀ k, [k, i].Sublist L → Indep S X ops k i) → ∀ (a : Act) (w : World), ziK S X n QP ops K L a w →
    zbE S X n QP ops i (ziK S X n QP ops K (L.filter (· ≠ i))) a w
  | [], _, hi, _, _, _, _ => by simp at hi
  | k :: r, hn, hi, hind, a, w, h => by
    obtain ⟨hkr, hr⟩ := List.nodup_cons.1 hn
    by_cases hki : k = i
    · subst hki
      have e : (k :: r).filter (· ≠ k) = r := by
        rw [List.filter_cons]
        simp only [ne_eq, not_true_eq_false, decide_false, Bool.false_eq_true, if_false]
        exact List.filter_eq_self.2 fun x hx => by simp; rintro rfl; exact hkr hx
      rw [e]
      exact h
    · have hir : i ∈ r := by
        cases hi with
        | head => exact absurd rfl hki
        | tail _ h => exact h
      have e : (k :: r).filter (· ≠ i) = k :: r.filter (· ≠ i) := by
        rw [List.filter_cons]; simp [hki]
      rw [e]
      have hik : Indep S X ops k i := hind k (List.Sublist.cons_cons k (List.singleton_sublist.2 hir))
      have h2 : zbE S X n QP ops k (zbE S X n QP ops i (ziK S X n QP ops K (r.filter (· ≠ i)))) a w :=
        zeq (fun a w hh => zfI r hr hir (fun k' hs => hind k' (hs.cons k)) a w hh) h
      exact zep hik h2
def zgL (ops : Array Oper) : Nat → Nat → Nat → Bool
  | 0, _, _ => false
  | f + 1, k, i => match ops[i]? with
    | some o => o.after.toList.any fun e => Region.binds .any e && (Nat.beq e.on k || (Nat.blt k e.on && zgL ops f k e.on))
    | none => false
theorem zc6 {L : Array Bool} (hc : ∀ j o, L.getD j false = true → ops[j]? = some o → ∀ e ∈ o.after, Region.binds .any e = true → L.getD e.on false = true) :
    ∀ (f k i : Nat) (o : Oper), ops[i]? = some o → (∀ e ∈ o.after, Region.binds .any e = true → L.getD e.on false = true) → zgL ops f k i = true → L.getD k false = true
  | 0, _, _, _, _, _, h => by simp [zgL] at h
  | f + 1, k, i, o, ho, hl, h => by
    simp only [zgL, ho, List.any_eq_true, Bool.and_eq_true, Bool.or_eq_true, Array.mem_toList_iff] at h
    obtain ⟨e, he, hb, h⟩ := h
    rcases h with h | ⟨_, h⟩
    · have := Nat.eq_of_beq_eq_true h
      subst this
      exact hl e he hb
    · cases hj : ops[e.on]? with
      | none => cases f <;> simp [zgL, hj] at h
      | some oj => exact zc6 hc f k e.on oj hj (fun e' he' hb' => hc e.on oj (hl e he hb) hj e' he' hb') h
structure OrdOk (S : Sig) (X : List Nat) (ops : Array Oper) (L : List Nat) : Prop where
  nodup : L.Nodup
  mem : ∀ i, i ∈ L ↔ i < ops.size
  pair : ∀ k i, [k, i].Sublist L → (∃ f, zgL ops f k i = true) ∨ Indep S X ops k i
  topo : ∀ i o e, ops[i]? = some o → e ∈ o.after → Region.binds .any e = true → [e.on, i].Sublist L
theorem zjB {x y : Nat} (hne : x ≠ y) : ∀ {L : List Nat}, L.Nodup → [x, y].Sublist L → [y, x].Sublist L → False
  | [], _, h, _ => by cases h
  | z :: r, hn, h, h' => by
    obtain ⟨hz, hr⟩ := List.nodup_cons.1 hn
    cases h with
    | cons _ h =>
      cases h' with
      | cons _ h' => exact zjB hne hr h h'
      | cons_cons _ h' => exact hz (h.subset (by simp))
    | cons_cons _ h =>
      cases h' with
      | cons _ h' => exact hz (h'.subset (by simp))
      | cons_cons _ h' => exact hne rfl
theorem zoX {o : Oper} {a : Act} {w : World} {next : Act → World → Prop} {Q : Exit → Act → World → Prop} (hQ : ∀ ch w, QP ch w → Q (.panic ch) a w) (h : UponE S n o a w next (PQ QP)) : UponE S n o a w next Q := by
  unfold UponE at *
  split at h
  · exact h
  · exact h
  · exact CallsIn.mono h fun e w'' he => by cases e <;> first | exact hQ _ _ he | exact he
  · exact RoundIn.mono h fun e w'' he => by cases e <;> first | exact hQ _ _ he | exact he
  · exact hQ _ _ h
  · exact h
theorem zcM {Q : Exit → Act → World → Prop} {i : Nat} {o : Oper} {K K' : Act → World → Prop} {a : Act} {w : World} (hsel : zbS o.op = true) (ho : ops[i]? = some o)
    (hQ : ∀ ch w, QP ch w → Q (.panic ch) a w) (hnext : ∀ u w, K (a.put o.dst u) w → K' (a.put o.dst u) w) (h2 : zbE S X n QP ops i K a w) : wpOpIn (FR S.r) n S.P ops Q i K' a w := by
  unfold wpOpIn
  unfold zbE at h2
  simp only [ho] at h2 ⊢
  split
  · rename_i hw
    simp only [hw, if_true] at h2
    split at h2
    · obtain ⟨v, hv, hK⟩ := h2
      exact (zaJ (S := S) (Q := Q) (zbR hsel) (hv w (.inr (Below.refl _ _))) (hnext _ _ hK)).wpIn (zbR hsel)
    · have h3 : UponE S n o a w K' (PQ QP) := zem rfl (fun u w' hh => hnext _ _ hh.2) h2
      exact (zoX hQ h3).wpIn (zbR hsel)
  · rename_i hw
    simp only [hw] at h2
    exact ⟨fun _ _ => trivial, hnext _ _ h2⟩
theorem zf3 {Q : Exit → Act → World → Prop} {I : Act → Prop} (hI : ∀ a dst v, I a → I (a.put dst v)) (hQ : ∀ ch a w, I a → QP ch w → Q (.panic ch) a w) (hS : ∀ o, o ∈ ops → zbS o.op = true) {L0 : List Nat} (hO : OrdOk S X ops L0) :
    ∀ (m : Nat) (L : List Nat) (listed : Array Bool) (a : Act) (w : World), L.length = m → L.Sublist L0 → listed.size = ops.size → (∀ i, i ∈ L ↔ (i < ops.size ∧ listed.getD i false = false)) →
      (∀ j o, listed.getD j false = true → ops[j]? = some o → ∀ e ∈ o.after, Region.binds .any e = true → listed.getD e.on false = true) →
      I a → ziK S X n QP ops (fun a w => Q .normal a w) L a w → wpAnyIn (FR S.r) n S.P .any ops Q m listed a w
  | 0, L, listed, a, w, hm, _, hsz, hmem, _, _, h => by
    have hL : L = [] := List.eq_nil_of_length_eq_zero hm
    subst hL
    refine ⟨?_, h⟩
    rw [List.eq_nil_iff_forall_not_mem]
    intro i hi
    obtain ⟨hl, o, ho, _⟩ := mem_ready.1 hi
    have hlt : i < ops.size := (Array.getElem?_eq_some_iff.1 ho).1
    have : i ∈ ([] : List Nat) := (hmem i).2 ⟨hlt, by
      have hls : i < listed.size := by omega
      simp [hls] at hl ⊢; exact hl⟩
    simp at this
  | m + 1, L, listed, a, w, hm, hsub, hsz, hmem, hcl, hia, h => by
    have hnd : L.Nodup := hO.nodup.sublist hsub
    have hget : ∀ i, i < ops.size → (listed.getD i true = false ↔ listed.getD i false = false) := fun i hi => by
      have hls : i < listed.size := by omega
      simp [hls]
    have hready : ∀ i, i ∈ Region.ready .any ops listed → i ∈ L := fun i hi => by
      obtain ⟨hl, o, ho, _⟩ := mem_ready.1 hi
      have hlt : i < ops.size := (Array.getElem?_eq_some_iff.1 ho).1
      exact (hmem i).2 ⟨hlt, (hget i hlt).1 hl⟩
    refine ⟨fun h0 => ?_, fun i hi => ?_⟩
    ·
      exfalso
      cases L with
      | nil => simp at hm
      | cons i r =>
        have hil := (hmem i).1 List.mem_cons_self
        have : i ∈ Region.ready .any ops listed := by
          refine mem_ready.2 ⟨(hget i hil.1).2 hil.2, ops[i], Array.getElem?_eq_getElem hil.1, fun e he hb => ?_⟩
          have ht := hO.topo i _ e (Array.getElem?_eq_getElem hil.1) he hb
          cases hle : listed.getD e.on false with
          | true => rfl
          | false =>
            exfalso
            have heo : e.on < ops.size := (hO.mem e.on).1 (ht.subset (by simp))
            have hel : e.on ∈ i :: r := (hmem e.on).2 ⟨heo, hle⟩
            have hne : e.on ≠ i := fun he => by
              have := hO.nodup.sublist ht
              simp [he] at this
            have hir : e.on ∈ r := by
              cases hel with
              | head => exact absurd rfl hne
              | tail _ h => exact h
            have h1 : [i, e.on].Sublist L0 := (List.Sublist.cons_cons i (List.singleton_sublist.2 hir)).trans hsub
            exact (zjB hne hO.nodup ht h1).elim
        rw [h0] at this
        simp at this
    · have hiL := hready i hi
      obtain ⟨hl, o, ho, hall⟩ := mem_ready.1 hi
      have hlt : i < ops.size := (Array.getElem?_eq_some_iff.1 ho).1
      have hind : ∀ k, [k, i].Sublist L → Indep S X ops k i := fun k hs => by
        rcases hO.pair k i (hs.trans hsub) with ⟨f, hf⟩ | hind
        · exfalso
          have hk : k ∈ L := hs.subset (by simp)
          have h1 := ((hmem k).1 hk).2
          have h2 := zc6 hcl f k i o ho hall hf
          rw [h1] at h2; simp at h2
        · exact hind
      have h2 := zfI L hnd hiL hind a w h
      have hnext : ∀ a w, I a → ziK S X n QP ops (fun a w => Q .normal a w) (L.filter (· ≠ i)) a w → wpAnyIn (FR S.r) n S.P .any ops Q m (listed.setIfInBounds i true) a w := fun a w hia hh => by
        refine zf3 hI hQ hS hO m _ _ a w ?_ (List.filter_sublist.trans hsub) (by simpa using hsz) ?_ ?_ hia hh
        · have : (L.filter (· ≠ i)) = L.erase i := by rw [hnd.erase_eq_filter]; exact List.filter_congr fun x _ => by by_cases h : x = i <;> simp [h]
          rw [this, List.length_erase_of_mem hiL]; omega
        · intro j
          rw [List.mem_filter, hmem j]
          by_cases hji : j = i
          · subst hji
            simp [hsz, hlt]
          · have hij : ¬ i = j := fun e => hji e.symm
            simp [hji, hij]
        · intro j oj hj hoj e he hb
          by_cases hji : j = i
          · subst hji
            rw [ho] at hoj; cases hoj
            have := hall e he hb
            by_cases hei : e.on = j
            · simp [hei, hsz, hlt]
            · have hei' : ¬ j = e.on := fun e => hei e.symm
              simpa [Array.getElem?_setIfInBounds, hei'] using this
          · have hij : ¬ i = j := fun e => hji e.symm
            have hj' : listed.getD j false = true := by simpa [Array.getElem?_setIfInBounds, hij] using hj
            have := hcl j oj hj' hoj e he hb
            by_cases hei : e.on = i
            · simp [hei, hsz, hlt]
            · have hei' : ¬ i = e.on := fun e => hei e.symm
              simpa [Array.getElem?_setIfInBounds, hei'] using this
      exact zcM (hS o (Array.mem_of_getElem? ho)) ho (fun ch w => hQ ch a w hia) (fun u w => hnext _ w (hI _ _ _ hia)) h2
inductive OT where
  | nil
  | op (i : Nat) (t : OT)
  | alt (a b : OT)
def zeZ (S : Sig) (X : List Nat) (n : Nat) (QP : List PanicEntry → World → Prop) (ops : Array Oper) (K : Act → World → Prop) : OT → Act → World → Prop
  | .nil, a, w => K a w
  | .op i t, a, w => zbE S X n QP ops i (zeZ S X n QP ops K t) a w
  | .alt x y, a, w => zeZ S X n QP ops K x a w ∧ zeZ S X n QP ops K y a w
def OT.first (ind : Nat → Nat → Bool) (i : Nat) : OT → Option OT
  | .nil => none
  | .op k t => if k = i then some t else if ind k i = true then (OT.first ind i t).map (.op k) else none
  | .alt x y => match OT.first ind i x with
    | some x' => some x'
    | none => OT.first ind i y
theorem zcN {K : Act → World → Prop} {i : Nat} {ind : Nat → Nat → Bool} (hind : ∀ k, ind k i = true → Indep S X ops k i) : ∀ (T T' : OT), OT.first ind i T = some T' → ∀ (a : Act) (w : World), zeZ S X n QP ops K T a w →
    zbE S X n QP ops i (zeZ S X n QP ops K T') a w
  | .nil, _, h, _, _, _ => by simp [OT.first] at h
  | .op k t, T', h, a, w, hh => by
    simp only [OT.first] at h
    split at h
    · rename_i e
      subst e
      cases h
      exact hh
    · split at h
      · rename_i hk
        obtain ⟨t', ht', rfl⟩ := Option.map_eq_some_iff.1 h
        exact zep (hind k hk) (zeq (fun a w hh => zcN hind t t' ht' a w hh) hh)
      · cases h
  | .alt x y, T', h, a, w, hh => by
    simp only [OT.first] at h
    split at h
    · rename_i u hx
      simp only [Option.some.injEq] at h
      subst h
      exact zcN hind x u hx a w hh.1
    · exact zcN hind y T' h a w hh.2
def covT (ind : Nat → Nat → Bool) (ops : Array Oper) : Nat → Array Bool → OT → Bool
  | 0, listed, T => (Region.ready .any ops listed).isEmpty && (match T with | .nil => true | _ => false)
  | m + 1, listed, T => !(Region.ready .any ops listed).isEmpty && (Region.ready .any ops listed).all fun i =>
      match OT.first ind i T with
      | some T' => covT ind ops m (listed.setIfInBounds i true) T'
      | none => false
theorem zf2 {Q : Exit → Act → World → Prop} {I : Act → Prop} (hI : ∀ a dst v, I a → I (a.put dst v)) (hQ : ∀ ch a w, I a → QP ch w → Q (.panic ch) a w) (hS : ∀ o, o ∈ ops → zbS o.op = true) {ind : Nat → Nat → Bool} (hind : ∀ k i, ind k i = true → Indep S X ops k i) :
    ∀ (m : Nat) (listed : Array Bool) (T : OT) (a : Act) (w : World), covT ind ops m listed T = true →
      I a → zeZ S X n QP ops (fun a w => Q .normal a w) T a w → wpAnyIn (FR S.r) n S.P .any ops Q m listed a w
  | 0, listed, T, a, w, hc, _, h => by
    simp only [covT, Bool.and_eq_true, List.isEmpty_iff] at hc
    obtain ⟨h1, h2⟩ := hc
    split at h2
    · exact ⟨h1, h⟩
    · cases h2
  | m + 1, listed, T, a, w, hc, hia, h => by
    simp only [covT, Bool.and_eq_true, Bool.not_eq_true', List.isEmpty_eq_false_iff, List.all_eq_true] at hc
    refine ⟨fun h0 => absurd h0 hc.1, fun i hi => ?_⟩
    obtain ⟨_, o, ho, _⟩ := mem_ready.1 hi
    have hc' := hc.2 i hi
    split at hc'
    · rename_i T' hT'
      have h2 := zcN (fun k hk => hind k i hk) T T' hT' a w h
      have hnext : ∀ a w, I a → zeZ S X n QP ops (fun a w => Q .normal a w) T' a w → wpAnyIn (FR S.r) n S.P .any ops Q m (listed.setIfInBounds i true) a w := fun a w hia hh =>
        zf2 hI hQ hS hind m _ T' a w hc' hia hh
      exact zcM (hS o (Array.mem_of_getElem? ho)) ho (fun ch w => hQ ch a w hia) (fun u w => hnext _ w (hI _ _ _ hia)) h2
    · cases hc'
end
def OT.firsts (ind : Nat → Nat → Bool) (i : Nat) : OT → List OT
  | .nil => []
  | .op k t => if k = i then [t] else if ind k i = true then (OT.firsts ind i t).map (.op k) else []
  | .alt x y => OT.firsts ind i x ++ OT.firsts ind i y
def covA (ind : Nat → Nat → Bool) (ops : Array Oper) : Nat → Array Bool → OT → Bool
  | 0, listed, T => (Region.ready .any ops listed).isEmpty && (match T with | .nil => true | _ => false)
  | m + 1, listed, T => !(Region.ready .any ops listed).isEmpty && (Region.ready .any ops listed).all fun i =>
      (OT.firsts ind i T).any fun T' => covA ind ops m (listed.setIfInBounds i true) T'
section
variable {S : Sig} {X : List Nat} {n : Nat} {QP : List PanicEntry → World → Prop} {ops : Array Oper}
theorem zcy {K : Act → World → Prop} {i : Nat} {ind : Nat → Nat → Bool} (hind : ∀ k, ind k i = true → Indep S X ops k i) : ∀ (T T' : OT), T' ∈ OT.firsts ind i T → ∀ (a : Act) (w : World), zeZ S X n QP ops K T a w →
    zbE S X n QP ops i (zeZ S X n QP ops K T') a w
  | .nil, _, h, _, _, _ => by simp [OT.firsts] at h
  | .op k t, T', h, a, w, hh => by
    simp only [OT.firsts] at h
    split at h
    · rename_i e
      subst e
      rw [List.mem_singleton] at h
      subst h
      exact hh
    · split at h
      · rename_i hk
        obtain ⟨t', ht', rfl⟩ := List.mem_map.1 h
        exact zep (hind k hk) (zeq (fun a w hh => zcy hind t t' ht' a w hh) hh)
      · cases h
  | .alt x y, T', h, a, w, hh => by
    simp only [OT.firsts, List.mem_append] at h
    rcases h with h | h
    · exact zcy hind x T' h a w hh.1
    · exact zcy hind y T' h a w hh.2
theorem zeT {Q : Exit → Act → World → Prop} {I : Act → Prop} (hI : ∀ a dst v, I a → I (a.put dst v)) (hQ : ∀ ch a w, I a → QP ch w → Q (.panic ch) a w) (hS : ∀ o, o ∈ ops → zbS o.op = true) {ind : Nat → Nat → Bool} (hind : ∀ k i, ind k i = true → Indep S X ops k i) :
    ∀ (m : Nat) (listed : Array Bool) (T : OT) (a : Act) (w : World), covA ind ops m listed T = true →
      I a → zeZ S X n QP ops (fun a w => Q .normal a w) T a w → wpAnyIn (FR S.r) n S.P .any ops Q m listed a w
  | 0, listed, T, a, w, hc, _, h => by
    simp only [covA, Bool.and_eq_true, List.isEmpty_iff] at hc
    obtain ⟨h1, h2⟩ := hc
    split at h2
    · exact ⟨h1, h⟩
    · cases h2
  | m + 1, listed, T, a, w, hc, hia, h => by
    simp only [covA, Bool.and_eq_true, Bool.not_eq_true', List.isEmpty_eq_false_iff, List.all_eq_true] at hc
    refine ⟨fun h0 => absurd h0 hc.1, fun i hi => ?_⟩
    obtain ⟨_, o, ho, _⟩ := mem_ready.1 hi
    have hc' := hc.2 i hi
    rw [List.any_eq_true] at hc'
    obtain ⟨T', hT', hc'⟩ := hc'
    have h2 := zcy (fun k hk => hind k i hk) T T' hT' a w h
    have hnext : ∀ a w, I a → zeZ S X n QP ops (fun a w => Q .normal a w) T' a w → wpAnyIn (FR S.r) n S.P .any ops Q m (listed.setIfInBounds i true) a w := fun a w hia hh =>
      zeT hI hQ hS hind m _ T' a w hc' hia hh
    exact zcM (hS o (Array.mem_of_getElem? ho)) ho (fun ch w => hQ ch a w hia) (fun u w => hnext _ w (hI _ _ _ hia)) h2
end
def zpE (all : List Oper) (i : Nat) : Bool := all.any fun o => match o.guard with | some (j, _) => Nat.beq j i | none => false
def splB (g : Bool) (v : Value) (K : Value → Prop) : Prop :=
  match g with
  | true => (match v with
    | .bool b => Br b (K (.bool true)) (K (.bool false))
    | v => K v)
  | false => K v
def ziE : List Oper → Nat → Option Oper
  | [], _ => none
  | o :: _, 0 => some o
  | _ :: r, i + 1 => ziE r i
def gval (all : List Oper) (E : Env) (j : Nat) : Option (Option Bool) :=
  match ziE all j with
  | some o => (match o.dst with
    | some d => (match Env.find E d with
      | some (.bool b) => some (some b)
      | some (.tuple _) => some none
      | _ => none)
    | none => none)
  | none => none
def zpH (all : List Oper) (i : Nat) (op : Op) : Bool := match op with | .move _ => zpE all i | _ => false
def ziV (S : Sig) (all : List Oper) (dr : Bool) (i : Nat) (o : Oper) (E : Env) (w : World) (K : Env → World → Prop) (KP : Env → List PanicEntry → World → Prop) : Prop :=
  match zfM S.τ o.op with
  | true => zpk S E o.op w fun v => splB (zpH all i o.op) v fun v => K (setE o.dst v E) w
  | false => (match dr with
    | false => effE S E o w (fun v w' => K (setE o.dst v E) w') (KP E)
    | true => effE S E o w (fun v w' => Below w.heap.size w w' ∧ K (setE o.dst v E) w') (KP E))
def zcr (S : Sig) (all : List Oper) (dr : Bool) (i : Nat) (o : Oper) (E : Env) (w : World) (K : Env → World → Prop) (KP : Env → List PanicEntry → World → Prop) : Prop :=
  match znF S.n o.dst with
  | false => False
  | true => (match o.guard with
    | none => ziV S all dr i o E w K KP
    | some (j, want) => (match gval all E j with
      | some (some b) => (match b, want with
        | true, true => ziV S all dr i o E w K KP
        | false, false => ziV S all dr i o E w K KP
        | true, false => K (setE o.dst undef E) w
        | false, true => K (setE o.dst undef E) w)
      | some none => K (setE o.dst undef E) w
      | none => False))
def opsE (S : Sig) (all : List Oper) : Nat → List Oper → Env → World → (Env → World → Prop) → (Env → List PanicEntry → World → Prop) → Prop
  | _, [], E, w, K, _ => K E w
  | i, o :: r, E, w, K, KP => zcr S all false i o E w (fun E' w' => opsE S all (i + 1) r E' w' K KP) KP
def opsO (S : Sig) (all : List Oper) (X : List Nat) (QP : List PanicEntry → World → Prop) : List Nat → Env → World → (Env → World → Prop) → Prop
  | [], E, w, K => K E w
  | i :: r, E, w, K => (match ziE all i with
    | some o => zcr S all (!memN i X) i o E w (fun E' w' => opsO S all X QP r E' w' K) (fun _ ch w => QP ch w)
    | none => False)
def opsT (S : Sig) (all : List Oper) (X : List Nat) (QP : List PanicEntry → World → Prop) : OT → Env → World → (Env → World → Prop) → Prop
  | .nil, E, w, K => K E w
  | .op i t, E, w, K => (match ziE all i with
    | some o => zcr S all (!memN i X) i o E w (fun E' w' => opsT S all X QP t E' w' K) (fun _ ch w => QP ch w)
    | none => False)
  | .alt x y, E, w, K => opsT S all X QP x E w K ∧ opsT S all X QP y E w K
def zec (τ : TT) (X : List Nat) (ops : Array Oper) (k i : Nat) : Bool :=
  match ops[k]?, ops[i]? with
  | some ok, some oi => ok.apart ops oi && zfM τ ok.op && zbS ok.op && zbS oi.op && (zfM τ oi.op || !memN i X || isN ok.op)
  | _, _ => false
def zjz (τ : TT) (X : List Nat) (ops : Array Oper) : List Nat → Bool
  | [] => true
  | k :: r => r.all (fun i => zgL ops ops.size k i || zec τ X ops k i) && !r.contains k && zjz τ X ops r
def ordB (τ : TT) (X : List Nat) (ops : Array Oper) (L : List Nat) : Bool :=
  Nat.beq L.length ops.size && zjz τ X ops L && L.all (fun i => Nat.blt i ops.size) && (List.range ops.size).all (fun i => L.contains i) &&
  (List.range ops.size).all (fun i => match ops[i]? with
    | some o => o.after.all fun e => !Region.binds .any e || [e.on, i].isSublist L
    | none => true) && ops.all (fun o => zbS o.op)
theorem zdS {S : Sig} {X : List Nat} {ops : Array Oper} {k i : Nat} (hd : zec S.τ X ops k i = true) : Indep S X ops k i := by
  refine ⟨fun ok oi hk ho => ?_⟩
  simp only [zec, hk, ho, Bool.and_eq_true, Bool.or_eq_true, Bool.not_eq_true'] at hd
  exact ⟨hd.1.1.1.1, hd.1.1.1.2, hd.1.1.2, hd.1.2, by rcases hd.2 with (h | h) | h; exact .inl h; exact .inr (.inl h); exact .inr (.inr h)⟩
theorem zfv {S : Sig} {X : List Nat} {ops : Array Oper} : ∀ {L : List Nat}, zjz S.τ X ops L = true → L.Nodup ∧ ∀ k i, [k, i].Sublist L → (∃ f, zgL ops f k i = true) ∨ Indep S X ops k i
  | [], _ => ⟨List.nodup_nil, fun _ _ h => by cases h⟩
  | x :: r, h => by
    simp only [zjz, Bool.and_eq_true, List.all_eq_true, Bool.or_eq_true, Bool.not_eq_true', List.contains_eq_mem, decide_eq_false_iff_not] at h
    obtain ⟨⟨h1, h2⟩, h3⟩ := h
    obtain ⟨hn, hp⟩ := zfv h3
    refine ⟨List.nodup_cons.2 ⟨h2, hn⟩, fun k i hs => ?_⟩
    cases hs with
    | cons _ hs => exact hp k i hs
    | cons_cons _ hs =>
      have hi : i ∈ r := List.singleton_sublist.1 hs
      rcases h1 i hi with hw | hd
      · exact .inl ⟨_, hw⟩
      · exact .inr (zdS hd)
theorem zlN {S : Sig} {X : List Nat} {ops : Array Oper} {L : List Nat} (h : ordB S.τ X ops L = true) : L.length = ops.size ∧ OrdOk S X ops L ∧ ∀ o, o ∈ ops → zbS o.op = true := by
  simp only [ordB, Bool.and_eq_true, List.all_eq_true, Nat.blt_eq, List.mem_range, List.contains_eq_mem, decide_eq_true_eq] at h
  obtain ⟨⟨⟨⟨⟨h0, h1⟩, h2⟩, h3⟩, h4⟩, h5⟩ := h
  obtain ⟨hn, hp⟩ := zfv h1
  refine ⟨Nat.eq_of_beq_eq_true h0, ⟨hn, fun i => ⟨h2 i, h3 i⟩, hp, fun i o e ho he hb => ?_⟩, fun o ho => ?_⟩
  · have hi : i < ops.size := (Array.getElem?_eq_some_iff.1 ho).1
    have := h4 i hi
    simp only [ho, Array.all_eq_true_iff_forall_mem] at this
    have := this e he
    simp only [hb, Bool.not_true, Bool.false_or] at this
    exact List.isSublist_iff_sublist.1 this
  · simp only [Array.all_eq_true_iff_forall_mem] at h5
    exact h5 o ho
theorem ze8 : ∀ (l : List Oper) (i : Nat), ziE l i = l[i]?
  | [], i => by simp [ziE]
  | _ :: _, 0 => rfl
  | _ :: r, i + 1 => by simp only [ziE, List.getElem?_cons_succ]; exact ze8 r i
section
variable {S : Sig} {n : Nat} {ops : Array Oper} {E : Env} {a : Act} {w : World}
theorem zed (ha : Agrees S a E) {j : Nat} {r : Option Bool} (h : gval ops.toList E j = some r) : yielded ops a.tmps j = r := by
  unfold gval at h
  rw [ze8] at h
  split at h
  · rename_i o ho
    split at h
    · rename_i d hd
      have ho' : ops[j]? = some o := by simpa using ho
      split at h
      · rename_i b hf
        cases h
        have := ha.val d _ hf
        simp [yielded, ho', hd, this]
      · rename_i t hf
        cases h
        have := ha.val d _ hf
        simp [yielded, ho', hd, this]
      · cases h
    · cases h
  · cases h
theorem zhv {g : Bool} {v : Value} {K : Value → Prop} (h : splB g v K) : K v := by
  unfold splB at h
  split at h
  · split at h
    · rename_i b
      cases b
      · exact h.2 rfl
      · exact h.1 rfl
    · exact h
  · exact h
theorem zle (hS : SigOk S) {i : Nat} {o : Oper} (ho : ops[i]? = some o) (hs : zbS o.op = true) {K : Env → World → Prop} {KP : Env → List PanicEntry → World → Prop}
    {next : Act → World → Prop} {Q : Exit → Act → World → Prop} (h : zcr S ops.toList false i o E w K KP) (ha : Agrees S a E)
    (hn : ∀ E' a' w', Agrees S a' E' → K E' w' → next a' w') (hp : ∀ ch w', KP E ch w' → Q (.panic ch) a w') :
    wpOpIn (FR S.r) n S.P ops Q i next a w := by
  unfold zcr at h
  split at h
  · exact h.elim
  · rename_i hd
    have ex : ziV S ops.toList false i o E w K KP → o.wpIn (FR S.r) n S.P a w next Q := fun h => by
      unfold ziV at h
      split at h
      · obtain ⟨v, hk, hr⟩ := zft hS h
        exact (zaJ (S := S) (n := n) (zbR hs) (hr a ha w (.inr (Below.refl _ _))) (hn _ _ _ (ha.put hd v) (zhv hk))).wpIn (zbR hs)
      · exact (zeH hS h ha (fun v w' hk => hn _ _ _ (ha.put hd v) hk) hp).wpIn (zbR hs)
    have sk : K (setE o.dst undef E) w → (∀ f, o.about S.P w a.eval = some f → (FR S.r).fn f) ∧ next (a.put o.dst undef) w := fun h => ⟨fun _ _ => trivial, hn _ _ _ (ha.put hd undef) h⟩
    unfold wpOpIn
    simp only [ho]
    split at h
    · rename_i hg
      have : Region.wanted o (yielded ops a.tmps) = true := by simp [Region.wanted, hg]
      rw [if_pos this]; exact ex h
    · rename_i j want hg
      split at h
      · rename_i b hgv
        have hy := zed ha hgv
        have hw : Region.wanted o (yielded ops a.tmps) = (b == want) := by simp [Region.wanted, hg, hy]
        rw [hw]
        cases b <;> cases want <;> simp only [] at h <;> first | exact ex h | exact sk h
      · rename_i hgv
        have hy := zed ha hgv
        have hw : Region.wanted o (yielded ops a.tmps) = false := by simp [Region.wanted, hg, hy]
        rw [hw]
        exact sk h
      · exact h.elim
theorem zfl (hS : SigOk S) {X : List Nat} {i : Nat} {o : Oper} (ho : ops[i]? = some o) (_hs : zbS o.op = true) {K : Env → World → Prop}
    {next : Act → World → Prop} {QP : List PanicEntry → World → Prop} (h : zcr S ops.toList (!memN i X) i o E w K (fun _ ch w => QP ch w)) (ha : Agrees S a E)
    (hn : ∀ E' a' w', Agrees S a' E' → K E' w' → next a' w') :
    zbE S X n QP ops i next a w := by
  unfold zcr at h
  split at h
  · exact h.elim
  · rename_i hd
    have ex : ziV S ops.toList (!memN i X) i o E w K (fun _ ch w => QP ch w) → (if zfM S.τ o.op = true then ∃ v, PV S.P o a w v ∧ next (a.put o.dst v) w
       else UponE S n o a w (fun a' w' => (memN i X = false → Below w.heap.size w w') ∧ next a' w') (PQ QP)) := fun h => by
      unfold ziV at h
      split at h
      · rename_i hp
        rw [if_pos hp]
        obtain ⟨v, hk, hr⟩ := zft hS h
        exact ⟨v, fun w2 hb => hr a ha w2 hb, hn _ _ _ (ha.put hd v) (zhv hk)⟩
      · rename_i hp
        rw [if_neg (by simp [hp])]
        split at h
        · rename_i hm
          have hm' : memN i X = true := by simpa using hm
          exact zeH hS h ha (fun v w' hk => ⟨fun hf => (by rw [hm'] at hf; cases hf), hn _ _ _ (ha.put hd v) hk⟩) (fun _ _ h => h)
        · exact zeH hS h ha (fun v w' hk => ⟨fun _ => hk.1, hn _ _ _ (ha.put hd v) hk.2⟩) (fun _ _ h => h)
    have sk : K (setE o.dst undef E) w → next (a.put o.dst undef) w := fun h => hn _ _ _ (ha.put hd undef) h
    unfold zbE
    simp only [ho]
    split at h
    · rename_i hg
      have : Region.wanted o (yielded ops a.tmps) = true := by simp [Region.wanted, hg]
      rw [if_pos this]; exact ex h
    · rename_i j want hg
      split at h
      · rename_i b hgv
        have hy := zed ha hgv
        have hw : Region.wanted o (yielded ops a.tmps) = (b == want) := by simp [Region.wanted, hg, hy]
        rw [hw]
        cases b <;> cases want <;> simp only [] at h <;> first | exact ex h | exact sk h
      · rename_i hgv
        have hy := zed ha hgv
        have hw : Region.wanted o (yielded ops a.tmps) = false := by simp [Region.wanted, hg, hy]
        rw [hw]
        exact sk h
      · exact h.elim
end
section
variable {S : Sig} {n : Nat}
def lift (S : Sig) (Q : Exit → Env → World → Prop) : Exit → Act → World → Prop := fun ex a w => ∃ E, Agrees S a E ∧ Q ex E w
theorem zgp (hS : SigOk S) {ops : Array Oper} (hsel : ∀ o ∈ ops, zbS o.op = true) {Q : Exit → Env → World → Prop} :
    ∀ (r : List Oper) (i : Nat) (E : Env) (a : Act) (w : World), (∀ k o, r[k]? = some o → ops[i + k]? = some o) → Agrees S a E →
      opsE S ops.toList i r E w (fun E w => Q .normal E w) (fun E ch w => Q (.panic ch) E w) →
      wpOpsIn (FR S.r) n S.P ops (lift S Q) (List.range' i r.length) a w
  | [], i, E, a, w, _, ha, h => by simp only [List.length_nil, List.range'_zero, wpOpsIn]; exact ⟨E, ha, h⟩
  | o :: r, i, E, a, w, hr, ha, h => by
    rw [List.length_cons, List.range'_succ, wpOpsIn_cons]
    have ho : ops[i]? = some o := by simpa using hr 0 o rfl
    refine zle hS ho (hsel o (Array.mem_of_getElem? ho)) h ha (fun E' a' w' ha' hk => ?_) (fun ch w' hk => ⟨E, ha, hk⟩)
    exact zgp hS hsel r (i + 1) E' a' w' (fun k o' hk => by have := hr (k + 1) o' (by simpa using hk); rwa [Nat.add_assoc, Nat.add_comm 1 k]) ha' hk
theorem zgo (hS : SigOk S) {X : List Nat} {QP : List PanicEntry → World → Prop} {ops : Array Oper} (hsel : ∀ o ∈ ops, zbS o.op = true) {K : Env → World → Prop} :
    ∀ (L : List Nat) (E : Env) (a : Act) (w : World), Agrees S a E → opsO S ops.toList X QP L E w K →
      ziK S X n QP ops (fun a w => ∃ E, Agrees S a E ∧ K E w) L a w
  | [], E, _, _, ha, h => ⟨E, ha, h⟩
  | i :: r, E, a, w, ha, h => by
    simp only [opsO, ze8] at h
    split at h
    · rename_i o ho
      have ho' : ops[i]? = some o := by simpa using ho
      exact zfl hS ho' (hsel o (Array.mem_of_getElem? ho')) h ha (fun E' a' w' ha' hk => zgo hS hsel r E' a' w' ha' hk)
    · exact h.elim
theorem zcK (hS : SigOk S) {X : List Nat} {QP : List PanicEntry → World → Prop} {ops : Array Oper} (hsel : ∀ o ∈ ops, zbS o.op = true) {K : Env → World → Prop} :
    ∀ (T : OT) (E : Env) (a : Act) (w : World), Agrees S a E → opsT S ops.toList X QP T E w K →
      zeZ S X n QP ops (fun a w => ∃ E, Agrees S a E ∧ K E w) T a w
  | .nil, E, _, _, ha, h => ⟨E, ha, h⟩
  | .op i t, E, a, w, ha, h => by
    simp only [opsT, ze8] at h
    split at h
    · rename_i o ho
      have ho' : ops[i]? = some o := by simpa using ho
      exact zfl hS ho' (hsel o (Array.mem_of_getElem? ho')) h ha (fun E' a' w' ha' hk => zcK hS hsel t E' a' w' ha' hk)
    · exact h.elim
  | .alt x y, E, a, w, ha, h => ⟨zcK hS hsel x E a w ha h.1, zcK hS hsel y E a w ha h.2⟩
def DrawE (S : Sig) (ops : Array Oper) (E : Env) (w : World) (K : Env → World → Prop) (QP : List PanicEntry → World → Prop) : Prop :=
  (∃ X L : List Nat, ordB S.τ X ops L = true ∧ opsO S ops.toList X QP L E w.drew K) ∨
  (∃ (X : List Nat) (T : OT), (covT (zec S.τ X ops) ops ops.size (Array.replicate ops.size false) T && ops.all (fun o => zbS o.op)) = true ∧ opsT S ops.toList X QP T E w.drew K) ∨
  (∃ (X : List Nat) (T : OT), (covA (zec S.τ X ops) ops ops.size (Array.replicate ops.size false) T && ops.all (fun o => zbS o.op)) = true ∧ opsT S ops.toList X QP T E w.drew K)
theorem DrawE.ord {S : Sig} {ops : Array Oper} {E : Env} {w : World} {K : Env → World → Prop} {QP : List PanicEntry → World → Prop} (X L : List Nat) (h : ordB S.τ X ops L = true) (k : opsO S ops.toList X QP L E w.drew K) : DrawE S ops E w K QP :=
  .inl ⟨X, L, h, k⟩
def zoR (ops : List Oper) : Bool := ops.all fun o => zbS o.op
def zqv (body : Env → World → (Exit → Env → World → Prop) → Prop) (E : Env) (w : World) (Q : Exit → Env → World → Prop) : Prop :=
  ∃ (σ : Type) (env : σ → Env) (inv : σ → World → Prop) (μ : σ → Nat) (s0 : σ), Cov E (env s0) ∧ inv s0 w ∧
    ∀ s w, inv s w → body (env s) w fun ex E' w' => match ex with
      | .normal => ∃ s', Cov E' (env s') ∧ inv s' w' ∧ μ s' < μ s
      | ex => Q ex E' w'
def zkb (S : Sig) (f : Operand) (params : Array Tmp) (assign body : Code) (E : Env) (w : World) (Q : Exit → Env → World → Prop) : Prop :=
  ∀ a, Agrees S a E → (Code.rangeFunc f params assign body).wpIn (FR S.r) NN S.P (lift S Q) a w
def wpE (S : Sig) : Code → Env → World → (Exit → Env → World → Prop) → Prop
  | .skip, E, w, Q => Q .normal E w
  | .region _ ops draw, E, w, Q => (match draw with
    | false => (match zoR ops.toList with
      | true => opsE S ops.toList 0 ops.toList E w (fun E w => Q .normal E w) (fun E ch w => Q (.panic ch) E w)
      | false => False)
    | true => DrawE S ops E w (fun E w => Q .normal E w) (fun ch w => Q (.panic ch) ⟨[], E.ds⟩ w))
  | .seq x y, E, w, Q => wpE S x E w fun ex E' w' => match ex with
    | .normal => wpE S y E' w' Q
    | ex => Q ex E' w'
  | .cond c x y, E, w, Q => (match opd E c with
    | some (.bool b) => Br b (wpE S x E w Q) (wpE S y E w Q)
    | _ => False)
  | .block id x, E, w, Q => wpE S x E w fun ex E' w' => match ex with
    | .exit id' => (match Nat.beq id' id with
      | true => Q .normal E' w'
      | false => Q (.exit id') E' w')
    | ex => Q ex E' w'
  | .loop x, E, w, Q => zqv (fun E w Q => wpE S x E w Q) E w Q
  | .rangeFunc f ps ags x, E, w, Q => zkb S f ps ags x E w Q
  | .exit id, E, w, Q => Q (.exit id) E w
  | .scope _, _, _, _ => False
  | .label _, E, w, Q => Q .normal E w
  | .goto l, E, w, Q => Q (.goto l) E w
  | .ret, E, w, Q => Q .ret E w
  | .refuse _, _, _, _ => False
theorem za0 (hS : SigOk S) : ∀ (c : Code) (E : Env) (a : Act) (w : World) (Q : Exit → Env → World → Prop), Agrees S a E → wpE S c E w Q → c.wpIn (FR S.r) NN S.P (lift S Q) a w
  | .skip, E, a, w, Q, ha, h => wpIn_skip ⟨E, ha, h⟩
  | .region id ops draw, E, a, w, Q, ha, h => by
    cases draw with
    | false =>
      simp only [wpE] at h
      split at h
      · rename_i hs
        refine wpIn_region ?_
        rw [List.range_eq_range']
        have hs' : ∀ o ∈ ops, zbS o.op = true := fun o ho => by
          simp only [zoR, List.all_eq_true] at hs
          exact hs o (Array.mem_toList_iff.2 ho)
        have := zgp (n := NN) hS hs' ops.toList 0 E a w (fun k o hk => by simpa using hk) ha h
        simpa using this
      · exact h.elim
    | true =>
      simp only [wpE] at h
      refine wpIn_region_any hS.mixed ?_
      have hI : ∀ (b : Act) (dst : Option Tmp) (v : Value), (b.tmps.size = S.n ∧ b.defers = E.ds) → ((b.put dst v).tmps.size = S.n ∧ (b.put dst v).defers = E.ds) := fun b dst v hb => by
        cases dst with
        | none => exact hb
        | some d => exact ⟨by simp [Act.put, hb.1], hb.2⟩
      have hQ : ∀ ch (b : Act) w, (b.tmps.size = S.n ∧ b.defers = E.ds) → Q (.panic ch) ⟨[], E.ds⟩ w → lift S Q (.panic ch) b w := fun ch b w hb hq => ⟨⟨[], E.ds⟩, ⟨hb.1, hb.2, fun t v hv => by simp [Env.find, VEnv.find] at hv⟩, hq⟩
      have hia : a.tmps.size = S.n ∧ a.defers = E.ds := ⟨ha.size, ha.defers⟩
      rcases h with ⟨X, L, hL, h⟩ | ⟨X, T, hT, h⟩ | ⟨X, T, hT, h⟩
      · obtain ⟨hlen, hO, hs⟩ := zlN hL
        have h1 := zgo (n := NN) hS hs L E a w.drew ha h
        refine zf3 (Q := lift S Q) hI hQ hs hO ops.size L (Array.replicate ops.size false) a w.drew hlen (List.Sublist.refl _) (by simp) (fun i => ?_) (fun j o hj => ?_) hia h1
        · rw [hO.mem i]
          refine ⟨fun hi => ⟨hi, by simp [hi]⟩, fun hi => hi.1⟩
        · exfalso
          by_cases hjs : j < ops.size <;> simp [hjs] at hj
      · simp only [Bool.and_eq_true, Array.all_eq_true_iff_forall_mem] at hT
        exact zf2 (Q := lift S Q) hI hQ hT.2 (fun k i h => zdS h) ops.size _ T a w.drew hT.1 hia (zcK (n := NN) hS hT.2 T E a w.drew ha h)
      · simp only [Bool.and_eq_true, Array.all_eq_true_iff_forall_mem] at hT
        exact zeT (Q := lift S Q) hI hQ hT.2 (fun k i h => zdS h) ops.size _ T a w.drew hT.1 hia (zcK (n := NN) hS hT.2 T E a w.drew ha h)
  | .seq x y, E, a, w, Q, ha, h => by
    refine wpIn_seq ?_
    refine wpIn_mono (za0 hS x E a w _ ha h) ?_
    rintro ex a' w' ⟨E', ha', hq⟩
    cases ex with
    | normal => exact za0 hS y E' a' w' Q ha' hq
    | _ => exact ⟨E', ha', hq⟩
  | .cond c x y, E, a, w, Q, ha, h => by
    simp only [wpE] at h
    split at h
    · rename_i b hb
      refine wpIn_cond_split (ha.eval hb) (fun e => za0 hS x E a w Q ha (h.1 e)) (fun e => za0 hS y E a w Q ha (h.2 e))
    · exact h.elim
  | .block id x, E, a, w, Q, ha, h => by
    refine wpIn_block ?_
    refine wpIn_mono (za0 hS x E a w _ ha h) ?_
    rintro ex a' w' ⟨E', ha', hq⟩
    cases ex with
    | exit id' =>
      simp only [Exit.inBlock]
      dsimp only at hq
      split at hq
      · rename_i hb; rw [if_pos (Nat.eq_of_beq_eq_true hb)]; exact ⟨E', ha', hq⟩
      · rename_i hb; rw [if_neg (Nat.ne_of_beq_eq_false hb)]; exact ⟨E', ha', hq⟩
    | _ => exact ⟨E', ha', hq⟩
  | .loop x, E, a, w, Q, ha, h => by
    obtain ⟨σ, env, inv, μ, s0, hc, hi, hb⟩ := h
    have key : ∀ m s a w, μ s = m → Agrees S a (env s) → inv s w → (Code.loop x).wpIn (FR S.r) NN S.P (lift S Q) a w := by
      intro m s a w hm ha hi
      refine wpIn_loop (fun a w => ∃ s, Agrees S a (env s) ∧ inv s w) (fun a w => leastOf (fun k => ∃ s, Agrees S a (env s) ∧ inv s w ∧ μ s = k)) ⟨s, ha, hi⟩ ?_
      intro a w ⟨s1, ha1, hi1⟩
      obtain ⟨⟨s2, ha2, hi2, hm2⟩, _⟩ := leastOf_spec (p := fun k => ∃ s, Agrees S a (env s) ∧ inv s w ∧ μ s = k) ⟨_, s1, ha1, hi1, rfl⟩
      refine wpIn_mono (za0 hS x (env s2) a w _ ha2 (hb s2 w hi2)) ?_
      rintro ex a' w' ⟨E', ha', hq⟩
      cases ex with
      | normal =>
        obtain ⟨s', hc', hi', hlt⟩ := hq
        refine ⟨⟨s', ha'.cov hc', hi'⟩, ?_⟩
        have := (leastOf_spec (p := fun k => ∃ s, Agrees S a' (env s) ∧ inv s w' ∧ μ s = k) ⟨_, s', ha'.cov hc', hi', rfl⟩).2
        rw [← hm2]
        exact Nat.lt_of_le_of_lt (this _ ⟨s', ha'.cov hc', hi', rfl⟩) hlt
      | _ => exact ⟨E', ha', hq⟩
    exact key _ s0 a w rfl (ha.cov hc) hi
  | .rangeFunc f ps ags x, E, a, w, Q, ha, h => h a ha
  | .exit id, E, a, w, Q, ha, h => wpIn_exit ⟨E, ha, h⟩
  | .scope _, _, _, _, _, _, h => h.elim
  | .label _, E, a, w, Q, ha, h => wpIn_label ⟨E, ha, h⟩
  | .goto l, E, a, w, Q, ha, h => wpIn_goto ⟨E, ha, h⟩
  | .ret, E, a, w, Q, ha, h => wpIn_ret ⟨E, ha, h⟩
  | .refuse _, _, _, _, _, _, h => h.elim
def resE (E : Env) (w : World) : (τ : TT) → List ResultVar → (List Value → Prop) → Prop
  | _, [], K => K []
  | τ, .tmp t :: r, K => zaN E (.tmp t) fun v => resE E w τ r fun vs => K (v :: vs)
  | τ, .cell t T :: r, K => zaN E (.tmp t) fun va => (match va with
    | .pointer (some p) => (match TT.get τ T with
      | some { agg := true, size := sz, .. } => ∃ us : List Value, us.length = sz ∧ zax w p us ∧ resE E w τ r fun vs => K (.agg us.toArray :: vs)
      | some { agg := false, .. } => ∃ u, w.cell? p = some u ∧ resE E w τ r fun vs => K (u :: vs)
      | none => False)
    | _ => False)
def ziB : List Value → Value
  | [v] => v
  | l => .tuple l.toArray
theorem ze3 {S : Sig} (hS : SigOk S) {E : Env} {a : Act} {w : World} (ha : Agrees S a E) : ∀ (l : List ResultVar) (K : List Value → Prop), resE E w S.τ l K →
    ∃ vs, K vs ∧ (l.mapM fun | .tmp t => pure (a.tmps.getD t undef) | .cell q t => do loadVar t (← asAddr (a.tmps.getD q undef)) : Sem (List Value)).run S.P w = .ok vs w
  | [], K, h => ⟨[], h, rfl⟩
  | .tmp t :: r, K, h => by
    obtain ⟨v, hv, h⟩ := zan h
    obtain ⟨vs, hk, hr⟩ := ze3 hS ha r _ h
    have : a.tmps.getD t undef = v := ha.eval hv
    refine ⟨_, hk, ?_⟩
    simp only [List.mapM_cons, Sem.run_bind, Sem.run_pure, Result.andThen_ok, this]
    rw [hr]
    rfl
  | .cell q T :: r, K, h => by
    simp only [resE] at h
    replace h := zan h
    obtain ⟨va, hv, h⟩ := h
    have e0 : a.tmps.getD q undef = va := ha.eval hv
    split at h
    · rename_i p
      split at h
      · rename_i sz _ _ ht
        obtain ⟨us, hl, hc, h⟩ := h
        obtain ⟨vs, hk, hr⟩ := ze3 hS ha r _ h
        refine ⟨_, hk, ?_⟩
        have e : asAddr (a.tmps.getD q undef) = pure p := by rw [e0]; rfl
        simp only [List.mapM_cons, Sem.run_bind, Sem.run_pure, Result.andThen_ok, e, zfH (hS.ty _ _ ht) rfl hl hc]
        rw [hr]
        rfl
      · rename_i _ _ _ _ ht
        obtain ⟨u, hc, h⟩ := h
        obtain ⟨vs, hk, hr⟩ := ze3 hS ha r _ h
        refine ⟨_, hk, ?_⟩
        have e : asAddr (a.tmps.getD q undef) = pure p := by rw [e0]; rfl
        simp only [List.mapM_cons, Sem.run_bind, Sem.run_pure, Result.andThen_ok, e, zfG (hS.ty _ _ ht) rfl hc]
        rw [hr]
        rfl
      · exact h.elim
    · exact h.elim
theorem ziu {S : Sig} (hS : SigOk S) {E : Env} {a : Act} {w : World} (ha : Agrees S a E) {fn : Func} {K : Value → Prop} (h : resE E w S.τ fn.results.toList fun vs => K (ziB vs)) :
    ∃ v, K v ∧ (results fn a.tmps).run S.P w = .ok v w := by
  obtain ⟨vs, hk, hr⟩ := ze3 hS ha _ _ h
  refine ⟨_, hk, ?_⟩
  unfold results
  rw [Sem.run_bind, Array.mapM_eq_mapM_toList, Sem.run_map]
  refine Eq.trans (congrArg (fun x => Result.andThen (Result.andThen x _) _) hr) ?_
  simp only [Result.andThen_ok, Sem.run_pure]
  congr 1
  match vs with
  | [] => simp [ziB]
  | [v] => simp [ziB]
  | v :: u :: r => simp [ziB]
def zjG : List Deferred → World → (World → Prop) → Prop
  | [], w, K => K w
  | d :: r, w, K => ∃ b, d.target = .collected b ∧ w.heap[b]? = some (.deferred (some [])) ∧ zjG r (w.putObj b (.deferred none)) K
def znx (S : Sig) (fn : Func) (R : Ending → World → Prop) : Exit → Env → World → Prop
  | .normal, E, w => zjG E.ds w fun w' => resE E w' S.τ fn.results.toList fun vs => R (.returned (ziB vs)) w'
  | .ret, E, w => zjG E.ds w fun w' => resE E w' S.τ fn.results.toList fun vs => R (.returned (ziB vs)) w'
  | .panic ch, E, w => E.ds = [] ∧ R (.panicked ch) w
  | _, _, _ => False
theorem zb6 {S : Sig} (hS : SigOk S) {fn : Func} {R : Ending → World → Prop} {a : Act} {E : Env} (ha : Agrees S a E) : ∀ (ds : List Deferred) (w : World),
    (zjG ds w fun w' => resE E w' S.τ fn.results.toList fun vs => R (.returned (ziB vs)) w') → LeavesInM (FR none) NN S.P fn a.tmps R ds .returning w
  | [], w, h => by
    obtain ⟨v, hk, hr⟩ := ziu hS ha (K := fun v => R (.returned v) w) h
    exact ⟨v, hr, hk⟩
  | d :: r, w, ⟨b, hd, hb, h⟩ => ⟨by simp, .inl ⟨b, _, hd, run_takeDeferred hb, zb6 hS ha r _ h⟩⟩
def zgg : Nat → List Value → VEnv
  | _, [] => []
  | i, v :: r => (i, v) :: zgg (i + 1) r
theorem zeO : ∀ (l : List Value) (i t : Nat) (v : Value), VEnv.find (zgg i l) t = some v → i ≤ t ∧ l[t - i]? = some v
  | [], _, _, _, h => by simp [zgg, VEnv.find] at h
  | u :: r, i, t, v, h => by
    simp only [zgg, VEnv.find] at h
    cases hb : Nat.beq i t with
    | true =>
      rw [hb] at h
      have e : i = t := Nat.eq_of_beq_eq_true hb
      subst e
      simp only [Option.some.injEq] at h
      subst h
      simp
    | false =>
      rw [hb] at h
      obtain ⟨h1, h2⟩ := zeO r (i + 1) t v h
      refine ⟨by omega, ?_⟩
      have : t - i = (t - (i + 1)) + 1 := by omega
      rw [this]
      simpa using h2
theorem zaZ {S : Sig} (hS : SigOk S) {f : FuncId} {fn : Func} {c : Code} {args : List Value} {w : World} {R : Ending → World → Prop}
    (hf : S.P.funcs[f]? = some fn) (hb : fn.body = some c) (hn : fn.ntmps = S.n) (hle : args.length ≤ S.n) (hr : S.r = none)
    (h : wpE S c ⟨zgg 0 args, []⟩ w (znx S fn R)) : Calls S.P f args.toArray w R := by
  rw [← callsIn_wide (n := NN)]
  have hF : FR none = Fence.wide := rfl
  rw [← hF]
  refine callsIn_of_wp_marks hf hb trivial ?_
  have ha : Agrees S { tmps := args.toArray ++ Array.replicate (fn.ntmps - args.toArray.size) undef, defers := [] } ⟨zgg 0 args, []⟩ := by
    refine ⟨?_, rfl, fun t v hv => ?_⟩
    · simp [hn]; omega
    · obtain ⟨_, h2⟩ := zeO _ _ _ _ hv
      simp only [Nat.sub_zero] at h2
      have hlt : t < args.length := (List.getElem?_eq_some_iff.1 h2).1
      simp only [Array.getElem?_append, List.size_toArray, hlt, if_true]
      simpa using h2
  have h1 := za0 hS c _ _ w _ ha h
  rw [hr] at h1
  refine wpIn_mono h1 ?_
  rintro ex a' w' ⟨E', ha', hq⟩
  cases ex with
  | normal => have := zb6 hS ha' _ _ hq; rw [← ha'.defers] at this; exact this
  | ret => have := zb6 hS ha' _ _ hq; rw [← ha'.defers] at this; exact this
  | panic ch =>
    obtain ⟨hd, hR⟩ := hq
    show LeavesInM _ _ _ _ _ _ a'.defers _ _
    rw [ha'.defers, hd]
    exact hR
  | exit _ => exact hq.elim
  | goto _ => exact hq.elim
  | outgrown => exact hq.elim
end
theorem rb {a b:Bool} (h:a=b):Ending.returned (.bool a)=Ending.returned (.bool b):=by rw [h]
theorem ri {k:IntKind} {a b:Int} (h:a=b):Ending.returned (.int k a)=Ending.returned (.int k b):=by rw [h]
theorem zaf {a:Int} (h : -9223372036854775808<=a/\a<=9223372036854775807):IntKind.i64.wrap a=a:=by
 unfold IntKind.wrap;simp only [IntKind.bits,IntKind.signed,Bool.true_and,show ((2:Int)^64)=18446744073709551616 from rfl,show ((2:Int)^(64-1))=9223372036854775808 from rfl]
 split
 ·rename_i h2;have:=dT h2;omega
 ·rename_i h2;have h3:a%18446744073709551616<9223372036854775808:=by simpa using h2
  omega
theorem nxI {k:Nat} {K:Int->Prop} (h:(k:Int)+1<=9223372036854775807) (x:K ((k+1:Nat):Int)):∃ m,IntKind.i64.wrap ((k:Int)+1)=m/\K m:=⟨_,(zaf (by omega)).trans (by omega),x⟩
theorem zgK {a:Int} (h:0<=a/\a<=255):IntKind.u8.wrap a=a:=by
 unfold IntKind.wrap;simp only [IntKind.bits,IntKind.signed,Bool.false_and,Bool.false_eq_true,if_false];omega
theorem zrP (x:UInt8):(x.toNat:Int)<=255:=by have:=x.toNat_lt;omega
theorem zaS (x:UInt8):IntKind.i64.wrap (x.toNat:Int)=(x.toNat:Int):=zaf (by have:=zrP x;omega)
theorem zbe {x y:UInt8}:((x.toNat:Int)=(y.toNat:Int))↔x=y :=
 ⟨fun h=>UInt8.toNat_inj.1 (by omega),fun h=>by rw [h]⟩
def u8 (x:UInt8):Value := .int .u8 x.toNat
theorem zbW {w:World} {b o:Nat} {v:Value} {vs:List Value} (h:zax w ⟨b,o,none⟩ (v::vs)):w.cell? ⟨b,o,none⟩=some v:=by
 have:=h 0 v rfl
 rwa [zb1] at this
theorem zac {w:World} {b o:Nat} {vs:List Value} (h:zax w ⟨b,o,none⟩ vs) {i:Nat} {v:Value} (hv:vs[i]?=some v):w.cell? ⟨b,o+i,none⟩=some v:=by
 have:=h i v hv
 rwa [zb1] at this
theorem zbH {w:World} {b o:Nat} {vs:List Value} (h:∀ i v,vs[i]?=some v->w.cell? ⟨b,o+i,none⟩=some v):zax w ⟨b,o,none⟩ vs :=
 fun i v hv=>by rw [zb1];exact h i v hv
theorem zaw {w:World} {b o n m:Nat} {vs:List Value} (h:zax w ⟨b,o,none⟩ vs):zax w ⟨b,o+n,none⟩ ((vs.drop n).take m):=by
 refine zbH fun i v hv=>?_;rw [List.getElem?_take] at hv
 split at hv
 ·rw [List.getElem?_drop] at hv;have:=zac h hv
  rwa [<- Nat.add_assoc] at this
 ·cases hv
theorem zaa {w:World} {g:Nat} {cs:Array Value} {t:TypeId} {fr:Nat×Nat} (h:w.heap[g]?=some (.cells cs t fr)):zax w ⟨g,0,none⟩ cs.toList:=by
 refine zbH fun i v hv=>?_;rw [cell_of_row w g (0+i) cs t fr h,Nat.zero_add];simpa using hv
theorem zdh {w:World} {g o n:Nat} {cs:Array Value} {t:TypeId} {fr:Nat×Nat} (h:w.heap[g]?=some (.cells cs t fr)):zax w ⟨g,o,none⟩ ((cs.toList.drop o).take n):=by
 have:=zaw (n:=o) (m:=n) (zaa h)
 rwa [Nat.zero_add] at this
theorem zh9 {w:World} {cs:Array Value} {t:TypeId}:zax (w.alloc (.cells cs t)) ⟨w.heap.size,0,none⟩ cs.toList :=
 zaa (heap_alloc_new w _)
theorem zab {w w2:World} (hb:Bw w w2) {g:Nat} {o:Obj} (h:w.heap[g]?=some o):w2.heap[g]?=some o :=
 (hb.block g (Array.getElem?_eq_some_iff.1 h).1).trans h
structure Enc (α:Type) where
 enc:α->List Value
 sz:Nat
 len:∀ a,(enc a).length=sz
 pos:0<sz
 one:∀ a,∀ u∈enc a,u.oneCell'=true
def SlR {α:Type} (E:Enc α) (w:World) (p:Option Addr) (l:List α):Prop :=
 l=[]\/∃ b o,p=some ⟨b,o,none⟩/\b<w.heap.size/\∀ i (h:i<l.length),zax w ⟨b,o+i*E.sz,none⟩ (E.enc l[i])
section
variable {α:Type} {E:Enc α} {w w2:World} {p:Option Addr} {l:List α}
theorem SlR.nil {E:Enc α} {w:World} {p:Option Addr}:SlR E w p [] := .inl rfl
theorem SlR.at (h:SlR E w p l) {i:Nat} (hi:i<l.length):∃ b o,p=some ⟨b,o,none⟩/\b<w.heap.size/\∀ i (h:i<l.length),zax w ⟨b,o+i*E.sz,none⟩ (E.enc l[i]):=by
 rcases h with rfl | h
 ·simp at hi
 ·exact h
theorem SlR.below (h:SlR E w p l) (hb:Bw w w2):SlR E w2 p l:=by
 rcases h with rfl | ⟨b,o,hp,hlt,hc⟩
 ·exact .inl rfl
 ·exact .inr ⟨b,o,hp,nL hlt hb.size,fun i hi=>zaq hb (hc i hi)⟩
theorem zef (l:List α) (i:Nat) (hi:i<l.length):(((l.flatMap E.enc).drop (i*E.sz)).take E.sz)=E.enc l[i]:=by
 induction l generalizing i with
 | nil=>simp at hi
 | cons a r ih =>
  rw [List.flatMap_cons]
  cases i with
  | zero=>simp [<- E.len a]
  | succ i =>
   have e:(i+1)*E.sz=(E.enc a).length+i*E.sz:=by rw [E.len,Nat.add_mul];omega
   rw [e,<- List.drop_drop,List.drop_left];simpa using ih i (by simpa using hi)
theorem zaG (l:List α):(l.flatMap E.enc).length=l.length*E.sz:=by
 induction l with
 | nil=>simp
 | cons a r ih=>rw [List.flatMap_cons,lap,ih,E.len,List.length_cons,Nat.add_mul];omega
theorem zhd (l:List α):∀ u∈l.flatMap E.enc,u.oneCell'=true:=fun u hu=>by
 obtain⟨a,_,h⟩:=List.mem_flatMap.1 hu;exact E.one a u h
theorem SlR.of_cells {b o:Nat} (hb:b<w.heap.size) (h:zax w ⟨b,o,none⟩ (l.flatMap E.enc)):SlR E w (some ⟨b,o,none⟩) l :=
 .inr ⟨b,o,rfl,hb,fun i hi=>by rw [<- zef l i hi];exact zaw h⟩
theorem SlR.cells {b o:Nat} (h:SlR E w (some ⟨b,o,none⟩) l):zax w ⟨b,o,none⟩ (l.flatMap E.enc):=by
 rcases h with rfl | ⟨b',o',hp,hlt,hc⟩
 ·intro i v hv;simp at hv
 ·cases hp
  refine zbH fun j v hv=>?_;have hj:j<l.length*E.sz:=by rw [<- zaG (E:=E) l];exact (List.getElem?_eq_some_iff.1 hv).1
  have hs:=E.pos;have hd:j/E.sz<l.length:=Nat.div_lt_of_lt_mul (by rw [Nat.mul_comm];exact hj);have h2:(E.enc l[j/E.sz])[j%E.sz]?=some v:=by
   rw [<- zef l _ hd,List.getElem?_take,if_pos (Nat.mod_lt _ hs),List.getElem?_drop,Nat.mul_comm,Nat.div_add_mod];exact hv
  have h3:=zac (hc _ hd) h2
  rwa [Nat.add_assoc,Nat.mul_comm,Nat.div_add_mod] at h3
def OwnS (E:Enc α) (T:TypeId) (B:Nat) (w:World) (p:Option Addr) (cap:Nat) (l:List α):Prop :=
 w.ownsRow B T E.sz (.slice p l.length cap) l.length (l.flatMap E.enc)
theorem OwnS.nil {E:Enc α} {T B:Nat} {w:World}:OwnS E T B w none 0 []:=by
 unfold OwnS;exact World.ownsRow_nil _ _ _ _
theorem OwnS.inv {T B cap:Nat} (h:OwnS E T B w p cap l):(p=none/\cap=0/\l=[]) \/
  ∃ g cur,p=some ⟨g,0,none⟩/\B<=g/\w.heap[g]?=some (.cells cur T (0,0))/\l.length<=cap/\cap<=maxLen/\cur.size=cap*E.sz/\cur.toList.take (l.length*E.sz)=l.flatMap E.enc:=by
 obtain⟨h1,h2⟩:=h;rcases h2 with ⟨h2,h3⟩ | ⟨g,cap',cur,h2,hb,hg,hn,hm,hs,ht⟩
 ·simp only [Value.slice.injEq] at h2;exact .inl ⟨h2.1,h2.2.2,List.eq_nil_of_length_eq_zero h3⟩
 ·simp only [Value.slice.injEq,true_and] at h2;obtain⟨rfl,rfl⟩:=h2;exact .inr ⟨g,cur,rfl,hb,hg,hn,hm,hs,ht⟩
theorem OwnS.row {T B cap:Nat} (h:OwnS E T B w p cap l):SlR E w p l:=by
 rcases h.inv with ⟨_,_,rfl⟩ | ⟨g,cur,rfl,_,hg,_,_,_,ht⟩
 ·exact .inl rfl
 ·refine SlR.of_cells (Array.getElem?_eq_some_iff.1 hg).1 ?_;rw [<- ht];exact zdh (o:=0) hg
theorem OwnS.kept {T B cap:Nat} (h:OwnS E T B w p cap l) {w':World} {row:Option Nat} (hg:w.grownBy w' row) (hne:∀ g,p=some ⟨g,0,none⟩->row≠some g):OwnS E T B w' p cap l:=by
 refine World.ownsRow.kept h hg ?_;rcases h.inv with ⟨rfl,_⟩ | ⟨g,_,rfl,_⟩
 ·exact .inl rfl
 ·exact .inr (fun e=>hne g rfl e.symm)
theorem OwnS.below {T B cap:Nat} (h:OwnS E T B w p cap l) (hb:Bw w w2):OwnS E T B w2 p cap l :=
 h.kept (row:=none) ⟨hb.os,hb.tape,hb.output,hb.size,fun k hk _=>hb.block k hk⟩ (fun _ _ h=>by cases h)
theorem OwnS.alloc {T B cap:Nat} (h:OwnS E T B w p cap l) (o:Obj):OwnS E T B (w.alloc o) p cap l :=
 h.below ((Below.refl _ w).alloc (Nat.le_refl _) o)
theorem OwnS.drew {T B cap:Nat} (h:OwnS E T B w p cap l):OwnS E T B w.drew p cap l:=h.below (Below.refl _ w).drew
theorem zbi {P:Program} {t T ty B cap m c:Nat} {a:Addr} {news:List α} {iT:TI} {z:List Value} (hu:P.underlying t=some (.slice T)) (hT:TIok P T iT) (hz:iT.zero=some z)
  (hs:iT.size=E.sz) (hzl:z.length=E.sz) (ho:OwnS E T B w p cap l) (hm:news.length=m) (hn:zax w a (news.flatMap E.enc)) (hB:B<=w.heap.size)
  (h1:l.length+m<=9223372036854775807) (h2:(l.length+m)*iT.bytes<=140737488355328) {K:Value->World->Prop}
  (k:∀ p' cap' w',OwnS E T B w' p' cap' (l++news)->w.grownBy w' (Value.slice p l.length cap).ownBlock->Below B w w' ->
   (∀ a,p'=some a->p=some a\/a.block=w.heap.size)->K (.slice p' (l++news).length cap') w') :
  SatR ((Builtin.append_ #[t,t] ty #[.slice p l.length cap,.slice (some a) m c]).run P w) K:=by
 obtain⟨⟨inf,hi,hsz,hby,hzz⟩,_⟩:=hT;obtain⟨zv,hzv,hzc⟩:=hzz z hz;have hown:=run_append_own_at (P:=P) w B t ty T inf zv E.sz iT.bytes hu hi hzv (hsz.trans hs) hby (by rw [<- hzl,<- hzc];simp) E.pos (.slice p l.length cap) l.length (l.flatMap E.enc) ho a m c (news.flatMap E.enc)
  (by rw [zaG,hm]) hn (zhd news) (by unfold maxLen;omega) h2 hB
 obtain⟨v',w',hr,ho',hg,_,hat⟩:=hown;refine SatR.mk hr ?_;have hl:l.length+m=(l++news).length:=by simp [hm]
 have hf:l.flatMap E.enc++news.flatMap E.enc=(l++news).flatMap E.enc:=by rw [List.flatMap_append]
 rw [hl,hf] at ho';have hb:Below B w w':=(Below.refl B w).grown hg hB (fun k e=>(World.ownsRow.lt ho k e).1);rcases ho'.2 with ⟨rfl,h0⟩ | ⟨g,cap',cur,rfl,rest⟩
 ·have:K (.slice none (l++news).length 0) w':=k none 0 w' (by unfold OwnS;rw [h0] at ho' ⊢;exact ho') hg hb (fun _ h=>by cases h);rw [h0] at this;exact this
 ·refine k _ _ w' ho' hg hb fun a ha=>?_
  cases ha
  rcases hat with h1 | h1
  ·rcases ho.inv with ⟨rfl,_⟩ | ⟨g',_,rfl,_⟩
   ·simp [Value.ownBlock] at h1
   ·simp [Value.ownBlock] at h1;exact .inl (by rw [h1])
  ·simp [Value.ownBlock] at h1;exact .inr h1
theorem OwnS.same {T B cap:Nat} (h:OwnS E T B w p cap l) {w':World} (hs:∀ a,p=some a->w'.heap[a.block]?=w.heap[a.block]?):OwnS E T B w' p cap l:=by
 obtain⟨h1,h2⟩:=h;refine⟨h1,?_⟩;rcases h2 with h2 | ⟨g,cap',cur,h2,hb,hg,rest⟩
 ·exact .inl h2
 ·refine .inr ⟨g,cap',cur,h2,hb,?_,rest⟩;simp only [Value.slice.injEq] at h2;rw [<- hg];exact hs _ h2.1
end
theorem hnew (w:World) (o:Obj):(w.alloc o).heap[w.heap.size]?=some o:=by
 show (w.heap.push o)[w.heap.size]?=some o;simp
theorem hold {w:World} {i:Nat} {x:Obj} (o:Obj) (h:w.heap[i]?=some x):(w.alloc o).heap[i]?=some x:=by
 have hi:i<w.heap.size:=(Array.getElem?_eq_some_iff.1 h).1;show (w.heap.push o)[i]?=some x;rw [Array.getElem?_push,if_neg (Nat.ne_of_lt hi)];exact h
theorem hrow {w:World} {i g:Nat} {x:Obj} (cs:Array Value) (hne:i≠g) (h:w.heap[i]?=some x):(w.setRow g cs).heap[i]?=some x:=by
 rw [setRow_other w g i cs hne];exact h
theorem hdr {w:World} {i:Nat} {x:Obj} (h:w.heap[i]?=some x):w.drew.heap[i]?=some x:=h
theorem hlt {w:World} {i:Nat} {x:Obj} (h:w.heap[i]?=some x):i<w.heap.size:=(Array.getElem?_eq_some_iff.1 h).1
theorem zam {P:Program} {w:World} {T g:Nat} {iT:TI} (hT:TIok P T iT) {cs:Array Value} {t:TypeId} (hg:w.heap[g]?=some (.cells cs t (0,0))) {v:Value} (hv:v.cells.size=iT.size)
  (hc:cs.size=iT.size) (h0:v.cells.toList.all Value.oneCell'=true) {K:World->Prop} (k:K (w.setRow g v.cells)):SatR ((storeVar T ⟨g,0,none⟩ v).run P w) fun _ w'=>K w':=by
 obtain⟨⟨inf,hi,hs,_,_⟩,_⟩:=hT;have h1:∀ u∈v.cells.toList,u.oneCell'=true:=List.all_eq_true.1 h0;have hst:=run_storeCells_at P g 0 t v.cells.toList 0 cs w hg (by simp;omega) h1;refine SatR.mk (v:=()) (w':=w.setRow g v.cells) ?_ k;have hsz:(sizeOf T).run P w = .ok iT.size w:=by simp [sizeOf,typeInfo,hi,hs]
 simp only [storeVar,Sem.run_bind,hsz,Result.andThen_ok,hv,ne_eq,not_true_eq_false,if_false];rw [hst];congr 2;apply Array.toList_inj.1;simp [hc,hv]
theorem zaj {w:World} {g:Nat} {cs cs':Array Value} {t:TypeId} {fr:Nat×Nat} (hg:w.heap[g]?=some (.cells cs t fr)):(w.setRow g cs').heap[g]?=some (.cells cs' t fr):=setRow_heap w g cs cs' t fr hg
theorem zao {w:World} {g k:Nat} {cs:Array Value} (h:k≠g):(w.setRow g cs).heap[k]?=w.heap[k]?:=setRow_other w g k cs h
theorem zag {B:Nat} {a w:World} (h:Below B a w) {g:Nat} (hg:B<=g) (cs:Array Value):Below B a (w.setRow g cs) :=
 h.trans ⟨rfl,rfl,rfl,by simp,fun k hk=>zao (by omega)⟩
theorem zaO (w:World) (g:Nat) (cs:Array Value):w.grownBy (w.setRow g cs) (some g) :=
 ⟨rfl,rfl,rfl,by simp,fun k _ hne=>zao (fun e=>hne (by rw [e]))⟩
structure MapK (P:Program) (K:TypeId) {κ:Type} [DecidableEq κ] (key:κ->Value):Prop where
 check:∀ q e w,(Instr.checkKey e 10000 K (key q)).run P w = .ok () w
 eq:∀ q q' w,(Op.equal K (key q) (key q')).run P w = .ok (decide (q=q')) w
 same:∀ q,Instr.sameBits 10000 (key q) (key q)=true
 desc:∃ d,P.underlying K=some d/\∀ q q',Instr.sameNow d (key q) (key q')=none\/Instr.sameNow d (key q) (key q')=some (decide (q=q'))
section
variable {P:Program} {K:TypeId} {κ:Type} [DecidableEq κ] {key:κ->Value}
abbrev Ent (κ:Type):=κ×Value×Nat
def entry (key:κ->Value) (e:Ent κ):MapEntry:=⟨key e.1,e.2.1,e.2.2⟩
def zct (q:κ):List (Ent κ)->Nat->Option (Nat×Value)
 | [],_=>none
 | e::r,i=>if q=e.1 then some (i,e.2.1) else zct q r (i+1)
theorem zdG (hK:MapK P K key) (q:κ):∀ (es:List (Ent κ)) (i:Nat) (w:World),(Instr.findAsking K (key q) (es.map (entry key)) i).run P w = .ok (zct q es i) w
 | [],_,_=>rfl
 | e::r,i,w=>by
  simp only [List.map_cons,Instr.findAsking,Sem.run_bind,entry,hK.eq q e.1 w,Result.andThen_ok,zct];by_cases h:q=e.1
  ·simp [h]
  ·simp only [h,decide_false,Bool.false_eq_true,if_false];exact zdG hK q r (i+1) w
theorem zgA {d:TypeDesc} {q:κ} (h:∀ q',Instr.sameNow d (key q) (key q')=none\/Instr.sameNow d (key q) (key q')=some (decide (q=q'))):∀ (es:List (Ent κ)) (i:Nat),
  Instr.findNow d (key q) (es.map (entry key)) i=none\/Instr.findNow d (key q) (es.map (entry key)) i=some (zct q es i)
 | [],_ => .inr rfl
 | e::r,i=>by
  simp only [List.map_cons,Instr.findNow,entry,zct];rcases h e.1 with h1 | h1
  ·rw [h1];exact .inl rfl
  ·rw [h1];by_cases hq:q=e.1
   ·simp [hq]
   ·simp only [hq,decide_false,if_false];exact zgA h r (i+1)
theorem zfP (hK:MapK P K key) (q:κ) (es:List (Ent κ)) (w:World):(Instr.findKey K (key q) (es.map (entry key))).run P w = .ok (zct q es 0) w:=by
 obtain⟨d,hd,hs⟩:=hK.desc;simp only [Instr.findKey,Sem.run_bind,run_underlying hd,Result.andThen_ok];rcases zgA (hs q) es 0 with h | h
 ·rw [h];exact zdG hK q es 0 w
 ·rw [h];rfl
theorem zeF {q:κ}:∀ {es:List (Ent κ)} {i j:Nat} {v:Value},zct q es i=some (j,v)->∃ b,i<=j/\es[j-i]?=some (q,v,b)
 | [],_,_,_,h=>by simp [zct] at h
 | e::r,i,j,v,h=>by
  simp only [zct] at h
  split at h
  ·rename_i hq;simp only [Option.some.injEq,Prod.mk.injEq] at h;obtain⟨rfl,rfl⟩:=h;exact⟨e.2.2,Nat.le_refl _,by simp [hq]⟩
  ·obtain⟨b,h1,h2⟩:=zeF h;refine⟨b,by omega,?_⟩;have:j-i=(j-(i+1))+1:=by omega
   rw [this];simpa using h2
theorem zeG {q:κ}:∀ {es:List (Ent κ)} {i:Nat},zct q es i=none->∀ e∈es,e.1≠q
 | [],_,_,e,he=>by simp at he
 | x::r,i,h,e,he=>by
  simp only [zct] at h
  split at h
  ·cases h
  ·rename_i hq
   cases he with
   | head=>exact fun e=>hq e.symm
   | tail _ he=>exact zeG h e he
def asF (es:List (Ent κ)) (q:κ):Option Value:=(zct q es 0).map (·.2)
theorem zqn (q:κ):asF ([]:List (Ent κ)) q=none:=rfl
theorem zdT (q:κ):∀ (es:List (Ent κ)) (i:Nat),(zct q es i).map (·.2)=asF es q
 | [],_=>rfl
 | e::r,i=>by
  unfold asF;simp only [zct]
  split
  ·rfl
  ·rw [zdT q r (i+1),zdT q r (0+1)]
theorem zdx (e:Ent κ) (r:List (Ent κ)) (q:κ):asF (e::r) q=if q=e.1 then some e.2.1 else asF r q:=by
 unfold asF;simp only [zct]
 split
 ·rfl
 ·rw [zdT];rfl
theorem zeN (e:Ent κ) (q:κ):∀ (es:List (Ent κ)),asF (es++[e]) q=(asF es q).or (if q=e.1 then some e.2.1 else none)
 | []=>by rw [List.nil_append,zdx,zqn];simp
 | x::r=>by
  rw [List.cons_append,zdx,zdx,zeN e q r]
  split <;> simp
def MapF (key:κ->Value) (w:World) (r:Nat) (f:κ->Option Value):Prop :=
 ∃ (es:List (Ent κ)) (clock:Nat),w.heap[r]?=some (.map (es.map (entry key)).toArray clock)/\(∀ q,asF es q=f q)/\(es.map (·.1)).Nodup/\(es.map (·.2.2)).Nodup/\(∀ e∈es,e.2.2<clock)
def MapS (key:κ->Value) (w:World) (r:Nat) (f:κ->Option Value) (q:κ) (born:Nat):Prop :=
 ∃ (es:List (Ent κ)) (clock:Nat),w.heap[r]?=some (.map (es.map (entry key)).toArray clock)/\(∀ q,asF es q=f q)/\(es.map (·.1)).Nodup/\(es.map (·.2.2)).Nodup/\(∀ e∈es,e.2.2<clock)/\∃ v,(q,v,born)∈es
theorem MapS.map {w:World} {r:Nat} {f:κ->Option Value} {q:κ} {born:Nat} (h:MapS key w r f q born):MapF key w r f:=by
 obtain⟨es,clock,h1,h2,h3,h4,h5,_⟩:=h;exact⟨es,clock,h1,h2,h3,h4,h5⟩
theorem MapF.below {w w2:World} {r:Nat} {f:κ->Option Value} (h:MapF key w r f) (hb:Bw w w2):MapF key w2 r f:=by
 obtain⟨es,clock,hh,rest⟩:=h;exact⟨es,clock,zab hb hh,rest⟩
theorem MapF.same {w w2:World} {r:Nat} {f:κ->Option Value} (h:MapF key w r f) (hb:w2.heap[r]?=w.heap[r]?):MapF key w2 r f:=by
 obtain⟨es,clock,hh,rest⟩:=h;exact⟨es,clock,hb.trans hh,rest⟩
theorem MapF.new {w:World}:MapF key (w.alloc (.map #[] 0)) w.heap.size (fun (_:κ)=>none) :=
 ⟨[],0,hnew w _,fun _=>rfl,by simp,by simp,by simp⟩
theorem zkB {T elem:TypeId} (hK:MapK P K key) (hu:P.underlying T=some (.map K elem)) {z:Value} (hz:∀ w,(zeroValue elem).run P w = .ok z w) {w:World} {r:Nat} {f:κ->Option Value} (h:MapF key w r f) (q:κ) (ok:Bool) :
  (Instr.lookup T (.map (some r)) (key q) ok).run P w = .ok (if ok then .tuple #[(f q).getD z,.bool (f q).isSome] else (f q).getD z) w:=by
 obtain⟨es,clock,hh,hf,_⟩:=h;have hg:(getObj r).run P w = .ok (.map (es.map (entry key)).toArray clock) w:=by simp [getObj,Sem.run,hh]
 have e:asF es q=f q:=hf q;unfold asF at e;simp only [Instr.lookup,Sem.run_bind,run_underlying hu,Result.andThen_ok,hg,Sem.run_pure,hK.check q _ w,zfP hK q es w]
 cases hfl:zct q es 0 with
 | none =>
  rw [hfl] at e;simp only [Option.map_none] at e;simp only [Sem.run_bind,hz w,Result.andThen_ok,Sem.run_pure,<- e,Option.getD_none,Option.isSome_none]
  first | done | (cases ok <;> rfl)
 | some p =>
  obtain⟨j,v⟩:=p;rw [hfl] at e;simp only [Option.map_some] at e;simp only [<- e,Option.getD_some,Option.isSome_some]
  cases ok <;> rfl
theorem zb0 {w:World} {r:Nat} {o o':Obj} (h:w.heap[r]?=some o):(w.putObj r o').heap[r]?=some o':=by
 have:r<w.heap.size:=hlt h;simp [World.putObj,this]
theorem zai {w:World} {r k:Nat} {o:Obj} (h:k≠r):(w.putObj r o).heap[k]?=w.heap[k]?:=by
 have:¬ r=k:=fun e=>h e.symm;simp [World.putObj,this]
theorem zaP {B:Nat} {a w:World} (h:Below B a w) {r:Nat} (hr:B<=r) (o:Obj):Below B a (w.putObj r o) :=
 h.trans ⟨rfl,rfl,rfl,by simp [World.putObj],fun k hk=>zai (by omega)⟩
theorem zl8 (w:World) (r:Nat) (o:Obj):w.grownBy (w.putObj r o) (some r) :=
 ⟨rfl,rfl,rfl,by simp [World.putObj],fun k _ hne=>zai (fun e=>hne (by rw [e]))⟩
theorem zmV {q:κ} {v:Value} {b:Nat}:∀ {es:List (Ent κ)},(es.map (·.1)).Nodup->(q,v,b)∈es->asF es q=some v
 | [],_,h=>by simp at h
 | e::r,hn,h=>by
  rw [List.map_cons,List.nodup_cons] at hn;rw [zdx]
  cases h with
  | head=>simp
  | tail _ h =>
   have:q≠e.1:=fun hq=>hn.1 (List.mem_map.2 ⟨_,h,hq⟩);rw [if_neg this];exact zmV hn.2 h
theorem zi6 {born:Nat} (x:Value) (q:κ) (q':κ):∀ (es:List (Ent κ)),(es.map (·.1)).Nodup->(∃ v,(q,v,born)∈es)->(∀ e∈es,e.2.2=born->e.1=q) ->
  asF (es.map fun e=>if e.2.2=born then (e.1,x,e.2.2) else e) q'=if q'=q then some x else asF es q'
 | [],_,⟨v,h⟩,_=>by simp at h
 | e::r,hn,⟨v,hm⟩,hb=>by
  rw [List.map_cons,List.nodup_cons] at hn;rw [List.map_cons,zdx,zdx];by_cases he:e.2.2=born
  ·have hq:e.1=q:=hb e List.mem_cons_self he;simp only [he,if_true];rw [hq];by_cases hqq:q'=q
   ·simp [hqq]
   ·simp only [hqq,if_false];have hrest:∀ (l:List (Ent κ)),(∀ e∈l,e.2.2=born->e.1=q)->q ∉ l.map (·.1)->l.map (fun e=>if e.2.2=born then (e.1,x,e.2.2) else e)=l:=by
     intro l
     induction l with
     | nil=>intros;rfl
     | cons y l ih =>
      intro h1 h2;have hy:¬ y.2.2=born:=fun hy=>h2 (List.mem_map.2 ⟨y,List.mem_cons_self,h1 y List.mem_cons_self hy⟩);rw [List.map_cons,if_neg hy,ih (fun z hz=>h1 z (List.mem_cons_of_mem _ hz)) (fun hz=>h2 (by rw [List.map_cons];exact List.mem_cons_of_mem _ hz))]
    rw [hrest r (fun z hz=>hb z (List.mem_cons_of_mem _ hz)) (by rw [<- hq];exact hn.1)]
  ·have hm':(q,v,born)∈r:=by
    cases hm with
    | head=>exact absurd rfl he
    | tail _ h=>exact h
   simp only [he,if_false];have hqe:q≠e.1:=fun hq=>hn.1 (List.mem_map.2 ⟨_,hm',hq⟩);rw [zi6 x q q' r hn.2 ⟨v,hm'⟩ (fun z hz=>hb z (List.mem_cons_of_mem _ hz))];by_cases hqq:q'=q
   ·subst hqq;simp [hqe]
   ·simp [hqq]
end
section
variable {P:Program} {κ:Type} [DecidableEq κ] {key:κ->Value} {K:TypeId}
theorem zbp {T elem:TypeId} (hK:MapK P K key) (hu:P.underlying T=some (.map K elem)) {w:World} {r:Nat} {f:κ->Option Value} (h:MapF key w r f) (q:κ) (x:Value) :
  ∃ o,(Instr.mapUpdate T (.map (some r)) (key q) x).run P w = .ok () (w.putObj r o)/\MapF key (w.putObj r o) r (fun q'=>if q'=q then some x else f q'):=by
 obtain⟨es,clock,hh,hf,hn,hb,hc⟩:=h;have hg:(getObj r).run P w = .ok (.map (es.map (entry key)).toArray clock) w:=by simp [getObj,Sem.run,hh]
 have hset:∀ o,(setObj r o).run P w = .ok () (w.putObj r o):=fun o=>by simp [setObj,Sem.run,hh,World.putObj]
 have e:asF es q=f q:=hf q;unfold asF at e;simp only [Instr.mapUpdate,Sem.run_bind,run_underlying hu,Result.andThen_ok,hg,hK.check q _ w,zfP hK q es w]
 cases hfl:zct q es 0 with
 | none =>
  rw [hfl] at e;simp only [Option.map_none] at e;refine⟨.map ((es++[(q,x,clock)]).map (entry key)).toArray (clock+1),?_,?_⟩
  ·have e2:(es.map (entry key)).toArray.push { key:=key q,val:=x,born:=clock }=((es++[(q,x,clock)]).map (entry key)).toArray:=by
    rw [<- Array.toList_inj];simp [entry]
   simp only [e2,hset]
  ·refine⟨es++[(q,x,clock)],clock+1,zb0 hh,fun q'=>?_,?_,?_,?_⟩
   ·rw [zeN];by_cases hq:q'=q
    ·subst hq;rw [hf q',<- e];simp
    ·simp [hq,hf q']
   ·rw [List.map_append,List.map_cons,List.map_nil];refine List.nodup_append.2 ⟨hn,by simp,?_⟩;intro a ha b hb';simp only [List.mem_singleton] at hb';subst hb';obtain⟨y,hy,rfl⟩:=List.mem_map.1 ha;exact zeG hfl y hy
   ·rw [List.map_append,List.map_cons,List.map_nil];refine List.nodup_append.2 ⟨hb,by simp,?_⟩;intro a ha b hb';simp only [List.mem_singleton] at hb';subst hb';obtain⟨y,hy,rfl⟩:=List.mem_map.1 ha;exact Nat.ne_of_lt (hc y hy)
   ·intro y hy;rw [List.mem_append] at hy;rcases hy with hy | hy
    ·exact Nat.lt_succ_of_lt (hc y hy)
    ·simp only [List.mem_singleton] at hy;subst hy;exact Nat.lt_succ_self _
 | some p =>
  obtain⟨j,v⟩:=p;obtain⟨b,_,hj⟩:=zeF hfl;rw [Nat.sub_zero] at hj;have hm:(q,v,b)∈es:=List.mem_of_getElem? hj;have hje:(es.map (entry key)).toArray[j]?=some (entry key (q,v,b)):=by simp [hj]
  have only:∀ i (hi:i<es.length),(es[i]).2.2=b->i=j:=fun i hi hbe=>by
   obtain⟨hjl,e2⟩:=List.getElem?_eq_some_iff.1 hj;by_cases hij:i=j
   ·exact hij
   ·exfalso
    have h3:=(List.pairwise_iff_getElem.1 hb);rcases Nat.lt_or_gt_of_ne hij with hlt | hlt
    ·exact h3 i j (by simpa using hi) (by simpa using hjl) hlt (by simp [e2,hbe])
    ·exact h3 j i (by simpa using hjl) (by simpa using hi) hlt (by simp [e2,hbe])
  have hbq:∀ y∈es,y.2.2=b->y.1=q:=fun y hy hbe=>by
   obtain⟨i,hi,e1⟩:=List.getElem_of_mem hy;have:=only i hi (by rw [e1];exact hbe);subst this;obtain⟨_,e2⟩:=List.getElem?_eq_some_iff.1 hj;rw [<- e1,e2]
  have hmod:(es.map (entry key)).toArray.modify j (fun e=>{ e with key:=key q,val:=x })=((es.map fun e=>if e.2.2=b then (e.1,x,e.2.2) else e).map (entry key)).toArray:=by
   apply Array.ext_getElem?;intro i;rw [Array.getElem?_modify];by_cases hil:i<es.length
   ·by_cases hij:j=i
    ·subst hij;obtain⟨_,e2⟩:=List.getElem?_eq_some_iff.1 hj;rw [if_pos rfl,hje];simp [hil,e2,entry]
    ·rw [if_neg hij];have:¬ (es[i]).2.2=b:=fun h=>hij (only i hil h).symm;simp [hil,this]
   ·have h1:(es.map (entry key)).toArray[i]?=none:=(by simp;omega);have h2:((es.map fun e=>if e.2.2=b then (e.1,x,e.2.2) else e).map (entry key)).toArray[i]?=none:=(by simp;omega);rw [h1,h2];split <;> rfl
  refine⟨.map ((es.map fun e=>if e.2.2=b then (e.1,x,e.2.2) else e).map (entry key)).toArray clock,?_,?_⟩
  ·simp only [hje,Option.map_some,Option.getD_some,entry,Instr.keyThatStays,hK.same q,if_true,Sem.run_pure,Result.andThen_ok,Sem.run_bind];have hmod':=hmod;rw [hmod',hset]
  ·refine⟨_,clock,zb0 hh,fun q'=>?_,?_,?_,?_⟩
   ·rw [zi6 x q q' es hn ⟨v,hm⟩ hbq,hf q']
   ·have:(es.map fun e=>if e.2.2=b then (e.1,x,e.2.2) else e).map (·.1)=es.map (·.1):=by
     rw [List.map_map];apply List.map_congr_left;intro e _;simp only [Function.comp_apply];split <;> rfl
    rw [this];exact hn
   ·have:(es.map fun e=>if e.2.2=b then (e.1,x,e.2.2) else e).map (·.2.2)=es.map (·.2.2):=by
     rw [List.map_map];apply List.map_congr_left;intro e _;simp only [Function.comp_apply];split <;> rfl
    rw [this];exact hb
   ·intro e he;obtain⟨y,hy,rfl⟩:=List.mem_map.1 he
    split
    ·exact hc y hy
    ·exact hc y hy
end
end Go.Vc
namespace Go.Proofs.YtlkofpbdpplfkaaGreatDoor
open Go.Vc Go.RowKit
structure MapKw (P:Program) (K:TypeId) {κ:Type} [DecidableEq κ] (key:κ->Value) (w:World) (S:κ->Prop):Prop where
 check:∀ q e,(Instr.checkKey e 10000 K (key q)).run P w = .ok () w
 eq:∀ q q',S q->S q'->(Op.equal K (key q) (key q')).run P w = .ok (decide (q=q')) w
 same:∀ q,Instr.sameBits 10000 (key q) (key q)=true
 desc:∃ d,P.underlying K=some d/\∀ q q',Instr.sameNow d (key q) (key q')=none
section
variable {P:Program} {K:TypeId} {κ:Type} [DecidableEq κ] {key:κ->Value} {w:World} {S:κ->Prop}
theorem zfQ (hK:MapKw P K key w S) (q:κ) (hq:S q):∀ (es:List (Ent κ)) (i:Nat),(∀ e∈es,S e.1)->(Instr.findAsking K (key q) (es.map (entry key)) i).run P w = .ok (zct q es i) w
 | [],_,_=>rfl
 | e::r,i,he=>by
  simp only [List.map_cons,Instr.findAsking,Sem.run_bind,entry,hK.eq q e.1 hq (he e (List.mem_cons_self ..)),Result.andThen_ok,zct];by_cases h:q=e.1
  ·simp [h]
  ·simp only [h,decide_false,Bool.false_eq_true,if_false];exact zfQ hK q hq r (i+1) fun x hx=>he x (List.mem_cons_of_mem _ hx)
omit [DecidableEq κ] in
theorem findNow_none {d:TypeDesc} {q:κ} (h:∀ q',Instr.sameNow d (key q) (key q')=none):∀ (es:List (Ent κ)) (i:Nat),es≠[]->Instr.findNow d (key q) (es.map (entry key)) i=none
 | [],_,h=>absurd rfl h
 | e::r,i,_=>by simp only [List.map_cons,Instr.findNow,entry,h]
theorem zjL (hK:MapKw P K key w S) (q:κ) (hq:S q) (es:List (Ent κ)) (he:∀ e∈es,S e.1):(Instr.findKey K (key q) (es.map (entry key))).run P w = .ok (zct q es 0) w:=by
 obtain⟨d,hd,hs⟩:=hK.desc;simp only [Instr.findKey,Sem.run_bind,run_underlying hd,Result.andThen_ok];by_cases h:es=[]
 ·subst h;rfl
 ·rw [findNow_none (hs q) es 0 h];exact zfQ hK q hq es 0 he
theorem zml {f:κ->Option Value} {es:List (Ent κ)} (hf:∀ q,asF es q=f q) (hn:(es.map (·.1)).Nodup) (hS:∀ q v,f q=some v->S q):∀ e∈es,S e.1:=fun e he=>by
 obtain⟨a,b,c⟩:=e;exact hS a b ((hf a).symm.trans (zmV hn he))
theorem zpy {T elem:TypeId} (hK:MapKw P K key w S) (hu:P.underlying T=some (.map K elem)) {z:Value} (hz:∀ w,(zeroValue elem).run P w = .ok z w) {r:Nat} {f:κ->Option Value} (h:MapF key w r f) (q:κ) (hS:∀ q v,f q=some v->S q) (hq:S q) (ok:Bool) :
  (Instr.lookup T (.map (some r)) (key q) ok).run P w = .ok (if ok then .tuple #[(f q).getD z,.bool (f q).isSome] else (f q).getD z) w:=by
 obtain⟨es,clock,hh,hf,hn,_⟩:=h;have he:=zml hf hn hS;have hg:(getObj r).run P w = .ok (.map (es.map (entry key)).toArray clock) w:=by simp [getObj,Sem.run,hh]
 have e:asF es q=f q:=hf q;unfold asF at e;simp only [Instr.lookup,Sem.run_bind,run_underlying hu,Result.andThen_ok,hg,Sem.run_pure,hK.check q _,zjL hK q hq es he]
 cases hfl:zct q es 0 with
 | none =>
  rw [hfl] at e;simp only [Option.map_none] at e;simp only [Sem.run_bind,hz w,Result.andThen_ok,Sem.run_pure,<- e,Option.getD_none,Option.isSome_none]
  first | done | (cases ok <;> rfl)
 | some p =>
  obtain⟨j,v⟩:=p;rw [hfl] at e;simp only [Option.map_some] at e;simp only [<- e,Option.getD_some,Option.isSome_some]
  cases ok <;> rfl
theorem zkA {T elem:TypeId} (hK:MapKw P K key w S) (hu:P.underlying T=some (.map K elem)) {r:Nat} {f:κ->Option Value} (h:MapF key w r f) (q:κ) (x:Value) (hS:∀ q v,f q=some v->S q) (hq:S q) :
  ∃ o,(Instr.mapUpdate T (.map (some r)) (key q) x).run P w = .ok () (w.putObj r o)/\MapF key (w.putObj r o) r (fun q'=>if q'=q then some x else f q'):=by
 obtain⟨es,clock,hh,hf,hn,hb,hc⟩:=h;have hes:=zml hf hn hS;have hg:(getObj r).run P w = .ok (.map (es.map (entry key)).toArray clock) w:=by simp [getObj,Sem.run,hh]
 have hset:∀ o,(setObj r o).run P w = .ok () (w.putObj r o):=fun o=>by simp [setObj,Sem.run,hh,World.putObj]
 have e:asF es q=f q:=hf q;unfold asF at e;simp only [Instr.mapUpdate,Sem.run_bind,run_underlying hu,Result.andThen_ok,hg,hK.check q _,zjL hK q hq es hes]
 cases hfl:zct q es 0 with
 | none =>
  rw [hfl] at e;simp only [Option.map_none] at e;refine⟨.map ((es++[(q,x,clock)]).map (entry key)).toArray (clock+1),?_,?_⟩
  ·have e2:(es.map (entry key)).toArray.push { key:=key q,val:=x,born:=clock }=((es++[(q,x,clock)]).map (entry key)).toArray:=by
    rw [<- Array.toList_inj];simp [entry]
   simp only [e2,hset]
  ·refine⟨es++[(q,x,clock)],clock+1,zb0 hh,fun q'=>?_,?_,?_,?_⟩
   ·rw [zeN];by_cases hq:q'=q
    ·subst hq;rw [hf q',<- e];simp
    ·simp [hq,hf q']
   ·rw [List.map_append,List.map_cons,List.map_nil];refine List.nodup_append.2 ⟨hn,by simp,?_⟩;intro a ha b hb';simp only [List.mem_singleton] at hb';subst hb';obtain⟨y,hy,rfl⟩:=List.mem_map.1 ha;exact zeG hfl y hy
   ·rw [List.map_append,List.map_cons,List.map_nil];refine List.nodup_append.2 ⟨hb,by simp,?_⟩;intro a ha b hb';simp only [List.mem_singleton] at hb';subst hb';obtain⟨y,hy,rfl⟩:=List.mem_map.1 ha;exact Nat.ne_of_lt (hc y hy)
   ·intro y hy;rw [List.mem_append] at hy;rcases hy with hy | hy
    ·exact Nat.lt_succ_of_lt (hc y hy)
    ·simp only [List.mem_singleton] at hy;subst hy;exact Nat.lt_succ_self _
 | some p =>
  obtain⟨j,v⟩:=p;obtain⟨b,_,hj⟩:=zeF hfl;rw [Nat.sub_zero] at hj;have hm:(q,v,b)∈es:=List.mem_of_getElem? hj;have hje:(es.map (entry key)).toArray[j]?=some (entry key (q,v,b)):=by simp [hj]
  have only:∀ i (hi:i<es.length),(es[i]).2.2=b->i=j:=fun i hi hbe=>by
   obtain⟨hjl,e2⟩:=List.getElem?_eq_some_iff.1 hj;by_cases hij:i=j
   ·exact hij
   ·exfalso
    have h3:=(List.pairwise_iff_getElem.1 hb);rcases Nat.lt_or_gt_of_ne hij with hlt | hlt
    ·exact h3 i j (by simpa using hi) (by simpa using hjl) hlt (by simp [e2,hbe])
    ·exact h3 j i (by simpa using hjl) (by simpa using hi) hlt (by simp [e2,hbe])
  have hbq:∀ y∈es,y.2.2=b->y.1=q:=fun y hy hbe=>by
   obtain⟨i,hi,e1⟩:=List.getElem_of_mem hy;have:=only i hi (by rw [e1];exact hbe);subst this;obtain⟨_,e2⟩:=List.getElem?_eq_some_iff.1 hj;rw [<- e1,e2]
  have hmod:(es.map (entry key)).toArray.modify j (fun e=>{ e with key:=key q,val:=x })=((es.map fun e=>if e.2.2=b then (e.1,x,e.2.2) else e).map (entry key)).toArray:=by
   apply Array.ext_getElem?;intro i;rw [Array.getElem?_modify];by_cases hil:i<es.length
   ·by_cases hij:j=i
    ·subst hij;obtain⟨_,e2⟩:=List.getElem?_eq_some_iff.1 hj;rw [if_pos rfl,hje];simp [hil,e2,entry]
    ·rw [if_neg hij];have:¬ (es[i]).2.2=b:=fun h=>hij (only i hil h).symm;simp [hil,this]
   ·have h1:(es.map (entry key)).toArray[i]?=none:=(by simp;omega);have h2:((es.map fun e=>if e.2.2=b then (e.1,x,e.2.2) else e).map (entry key)).toArray[i]?=none:=(by simp;omega);rw [h1,h2];split <;> rfl
  refine⟨.map ((es.map fun e=>if e.2.2=b then (e.1,x,e.2.2) else e).map (entry key)).toArray clock,?_,?_⟩
  ·simp only [hje,Option.map_some,Option.getD_some,entry,Instr.keyThatStays,hK.same q,if_true,Sem.run_pure,Result.andThen_ok,Sem.run_bind];have hmod':=hmod;rw [hmod',hset]
  ·refine⟨_,clock,zb0 hh,fun q'=>?_,?_,?_,?_⟩
   ·rw [zi6 x q q' es hn ⟨v,hm⟩ hbq,hf q']
   ·have:(es.map fun e=>if e.2.2=b then (e.1,x,e.2.2) else e).map (·.1)=es.map (·.1):=by
     rw [List.map_map];apply List.map_congr_left;intro e _;simp only [Function.comp_apply];split <;> rfl
    rw [this];exact hn
   ·have:(es.map fun e=>if e.2.2=b then (e.1,x,e.2.2) else e).map (·.2.2)=es.map (·.2.2):=by
     rw [List.map_map];apply List.map_congr_left;intro e _;simp only [Function.comp_apply];split <;> rfl
    rw [this];exact hb
   ·intro e he;obtain⟨y,hy,rfl⟩:=List.mem_map.1 he
    split
    ·exact hc y hy
    ·exact hc y hy
end
end Go.Proofs.YtlkofpbdpplfkaaGreatDoor
namespace Go.Vc
open Go.RowKit Go.Lib
theorem zmZ (b o i:Nat):(⟨b,o,none⟩:Addr).add i=⟨b,o+i,none⟩:=by
 unfold Addr.add;by_cases h:i=0
 ·simp [h]
 ·simp [h]
theorem zbn (p:Option Addr) (cap sz:Nat):zaI p cap 0 sz=p:=by
 unfold zaI
 split
 ·rfl
 ·cases p with
  | none=>rfl
  | some a=>simp [Addr.add]
section
variable {α:Type} {E:Enc α} {w:World} {p:Option Addr} {l:List α}
theorem SlR.sub (h:SlR E w p l) {cap lo hi:Nat} (h1:lo<=hi) (h2:hi<=l.length) (h3:l.length<=cap):SlR E w (zaI p cap lo E.sz) ((l.drop lo).take (hi-lo)):=by
 by_cases he:hi=lo
 ·left;subst he;simp
 ·rcases h with rfl | ⟨b,o,rfl,hb,hc⟩
  ·left;simp
  ·right;refine⟨b,o+lo*E.sz,?_,hb,fun i hi2=>?_⟩
   ·unfold zaI;rw [if_neg (by omega)];simp [zmZ]
   ·simp only [List.length_take,List.length_drop] at hi2;have:=hc (lo+i) (by omega);rw [List.getElem_take,List.getElem_drop];rw [Nat.add_assoc,<- Nat.add_mul];exact this
theorem SlR.none (h:SlR E w none l):l=[]:=by
 rcases h with h | ⟨b,o,h,_⟩
 ·exact h
 ·cases h
theorem zdY {P:Program} {t T ty B cap m c:Nat} {a:Option Addr} {news:List α} {iT:TI} {z:List Value} (hu:P.underlying t=some (.slice T)) (hT:TIok P T iT) (hz:iT.zero=some z)
  (hs:iT.size=E.sz) (hzl:z.length=E.sz) (ho:OwnS E T B w p cap l) (hm:news.length=m) (hn:SlR E w a news) (hc:a=none->c=0) (hB:B<=w.heap.size)
  (h1:l.length+m<=9223372036854775807) (h2:(l.length+m)*iT.bytes<=140737488355328) {K:Value->World->Prop}
  (k:∀ p' cap' w',OwnS E T B w' p' cap' (l++news)->w.grownBy w' (Value.slice p l.length cap).ownBlock->Below B w w'->K (.slice p' (l++news).length cap') w') :
  SatR ((Builtin.append_ #[t,t] ty #[.slice p l.length cap,.slice a m c]).run P w) K:=by
 cases a with
 | none =>
  have hn:=hn.none;have hc:=hc rfl;subst hn hc;simp at hm;subst hm;obtain⟨⟨inf,hi,hsz,hby,hzz⟩,_⟩:=hT;refine SatR.mk (run_append_owned_none (P:=P) (w:=w) B t ty T inf E.sz hu hi _ _ _ ho) ?_;have:=k p cap w (by rw [List.append_nil];exact ho) ⟨rfl,rfl,rfl,Nat.le_refl _,fun _ _ _=>rfl⟩ (Below.refl _ _)
  rwa [List.append_nil] at this
 | some a =>
  by_cases h0:news=[]
  ·subst h0;simp at hm;subst hm;exact zbi hu hT hz hs hzl ho (by simp) (fun i v hv=>by simp at hv) hB h1 h2 fun p' cap' w' h1 h2 h3 _=>k p' cap' w' h1 h2 h3
  ·have hn':zax w a (news.flatMap E.enc):=by
    rcases hn with h | ⟨b,o,h,hb,hcs⟩
    ·exact absurd h h0
    ·cases h
     exact SlR.cells (.inr ⟨b,o,rfl,hb,hcs⟩)
   exact zbi hu hT hz hs hzl ho hm hn' hB h1 h2 fun p' cap' w' h1 h2 h3 _=>k p' cap' w' h1 h2 h3
theorem zmW {P:Program} {t tn T ty B n:Nat} {kn kq:IntKind} {iT:TI} {z:List Value} (hu:P.underlying t=some (.slice T)) (hun:P.underlying tn=some (.int kn)) (hT:TIok P T iT) (hz:iT.zero=some z)
  (hs:iT.size=E.sz) (hzl:z.length=E.sz) (hB:B<=w.heap.size) (h0:0<n) (h1:n<=4611686018427387904) (h2:n*iT.bytes<=140737488355328) {K:Value->World->Prop}
  (k:∀ cap' w',OwnS E T B w' (some ⟨w.heap.size,0,none⟩) cap' ([]:List α)->Bw w w'->n<=cap'->K (.slice (some ⟨w.heap.size,0,none⟩) n cap') w') :
  SatR ((Builtin.append_ #[t,tn] ty #[.slice none 0 0,.int kq n]).run P w) K:=by
 obtain⟨⟨inf,hi,hsz,hby,hzz⟩,_⟩:=hT;obtain⟨zv,hzv,hzc⟩:=hzz z hz;have hr:=run_append_grow_zeros (P:=P) w t tn ty T inf zv kq kn hu hun hi hzv none 0 0 [] (run_firstCells_none w.drew inf.size 0 0 0) n h0 (by rw [hsz,hs];exact E.pos) (by omega) (by omega) (by rw [hby];omega)
  (growslice_fits (by omega) (by rw [hby,Nat.zero_add];omega))
 rw [Nat.zero_add] at hr;have hge:=grownCap_ge w n 0 T;refine SatR.mk hr (k _ _ ⟨by simp,.inr ⟨w.heap.size,_,_,rfl,hB,heap_alloc_new w.drew _,Nat.zero_le _,grownCap_le_maxLen w n 0 T (by unfold maxLen;omega),?_,by simp⟩⟩ ((Below.refl _ _).drew.alloc (Nat.le_refl _) _) hge);have hzs:zv.cells.size=E.sz:=by rw [<- hzl,<- hzc];simp
 simp only [Array.size_append,size_zeroCells,hzs];simp only [List.size_toArray,List.length_nil,Nat.zero_add];rw [<- Nat.add_mul];congr 1;omega
end
end Go.Vc
namespace Go.Vc
open Go.RowKit
theorem ze2 {a:Int} (h:0<=a/\a<=18446744073709551615):IntKind.u64.wrap a=a:=by
 simp [IntKind.wrap,IntKind.signed,IntKind.bits] <;> omega
def RowS {α:Type} (E:Enc α) (T:TypeId) (w:World) (g:Nat) (sp:List Value) (l:List α):Prop :=
 w.heap[g]?=some (.cells (l.flatMap E.enc++sp).toArray T (0,0))
section
variable {α:Type} {E:Enc α} {T:TypeId} {w w2:World} {g:Nat} {sp:List Value} {l:List α}
theorem RowS.row (h:RowS E T w g sp l):SlR E w (some ⟨g,0,none⟩) l:=by
 refine SlR.of_cells (hlt h) (zbH fun i v hv=>zac (zaa h) ?_);rw [List.getElem?_append_left (List.getElem?_eq_some_iff.1 hv).1];exact hv
theorem RowS.at (h:RowS E T w g sp l) {i:Nat} (hi:i<l.length):zax w ⟨g,0+i*E.sz,none⟩ (E.enc l[i]):=by
 rcases h.row with h0 | ⟨b,o,h1,_,hc⟩
 ·subst h0;simp at hi
 ·cases h1;exact hc i hi
theorem RowS.lt (h:RowS E T w g sp l):g<w.heap.size:=hlt h
theorem RowS.same (h:RowS E T w g sp l) (hs:w2.heap[g]?=w.heap[g]?):RowS E T w2 g sp l:=hs.trans h
theorem RowS.below (h:RowS E T w g sp l) (hb:Bw w w2):RowS E T w2 g sp l:=zab hb h
theorem zjK (l:List α) {i:Nat} (hi:i<l.length) (x:α) (sp:List Value) :
  (l.flatMap E.enc++sp).take (i*E.sz)++E.enc x++(l.flatMap E.enc++sp).drop (i*E.sz+E.sz)=(l.set i x).flatMap E.enc++sp:=by
 have hl:l=l.take i++l[i]::l.drop (i+1):=by rw [List.getElem_cons_drop,List.take_append_drop]
 have h1:((l.take i).flatMap E.enc).length=i*E.sz:=by rw [zaG,List.length_take,Nat.min_eq_left (by omega)]
 have h2:(l.take i++l[i]::l.drop (i+1)).flatMap E.enc++sp=(l.take i).flatMap E.enc++(E.enc l[i]++((l.drop (i+1)).flatMap E.enc++sp)):=by
  rw [List.flatMap_append,List.flatMap_cons];simp only [List.append_assoc]
 rw [<- hl] at h2;rw [List.set_eq_take_append_cons_drop,if_pos hi,h2];rw [List.take_append_of_le_length (by omega),List.take_of_length_le (by omega),List.drop_append,List.drop_of_length_le (by omega),h1];have h3:i*E.sz+E.sz-i*E.sz=E.sz:=by omega
 rw [h3,List.nil_append,List.drop_append,List.drop_of_length_le (by rw [E.len];exact Nat.le_refl _),E.len,Nat.sub_self,List.drop_zero];simp [List.flatMap_append]
theorem zht {P:Program} {Te:TypeId} {iT:TI} (hT:TIok P Te iT) (hs:iT.size=E.sz) (hr:RowS E T w g sp l) {i:Nat} (hi:i<l.length) (x:α) {K:World->Prop}
  (k:∀ w',RowS E T w' g sp (l.set i x)->w.grownBy w' (some g)->w'.heap.size=w.heap.size->K w') :
  SatR ((storeVar Te ⟨g,0+i*E.sz,none⟩ (.agg (E.enc x).toArray)).run P w) fun _ w'=>K w':=by
 obtain⟨⟨inf,hinf,hsz,_,_⟩,_⟩:=hT;have hfl:(l.flatMap E.enc).length=l.length*E.sz:=zaG l;have hle:i*E.sz+E.sz<=l.length*E.sz:=by rw [<- Nat.succ_mul];exact Nat.mul_le_mul_right _ hi
 have hst:=run_storeCells_at P g (0+i*E.sz) T (E.enc x) 0 _ w hr (by rw [E.len];simp only [List.size_toArray,lap,hfl];omega) (E.one x);have hrun:(sizeOf Te).run P w = .ok iT.size w:=by simp [sizeOf,typeInfo,hinf,hsz]
 refine SatR.mk (v:=()) (w':=w.setRow g ((l.set i x).flatMap E.enc++sp).toArray) ?_ (k _ (zaj hr) (zaO w g _) (by simp));simp only [storeVar,Sem.run_bind,hrun,Result.andThen_ok];have hc:(Value.agg (E.enc x).toArray).cells=(E.enc x).toArray:=rfl;rw [hc];simp only [List.size_toArray,E.len,hs,ne_eq,not_true_eq_false,if_false];rw [hst,<- zjK l hi x sp];simp only [E.len,Nat.zero_add,Nat.add_zero]
theorem za7 (w:World) (row:Option Nat):w.grownBy w row:=⟨rfl,rfl,rfl,Nat.le_refl _,fun _ _ _=>rfl⟩
theorem zae {a b c:World} {row:Option Nat} (h:a.grownBy b row) (k:b.grownBy c row):a.grownBy c row :=
 ⟨k.os.trans h.os,k.tape.trans h.tape,k.output.trans h.output,Nat.le_trans h.size k.size,fun i hi hn=>(k.block i (nL hi h.size) hn).trans (h.block i hi hn)⟩
theorem zah {a b:World} {row:Option Nat} (h:Bw a b):a.grownBy b row:=⟨h.os,h.tape,h.output,h.size,fun k hk _=>h.block k hk⟩
theorem zbP {P:Program} {Te:TypeId} {iT:TI} (hT:TIok P Te iT) (hs:iT.size=1) {cs:Array Value} {t:TypeId} (hg:w.heap[g]?=some (.cells cs t (0,0))) {o:Nat} (ho:o<cs.size) {v:Value} (hv:v.cells = #[v]) (h1:v.oneCell'=true) {K:World->Prop}
  (k:∀ w',w'.heap[g]?=some (.cells (cs.toList.take o++[v]++cs.toList.drop (o+1)).toArray t (0,0))->w.grownBy w' (some g)->w'.heap.size=w.heap.size->K w') :
  SatR ((storeVar Te ⟨g,o,none⟩ v).run P w) fun _ w'=>K w':=by
 obtain⟨⟨inf,hinf,hsz,_,_⟩,_⟩:=hT;have hst:=run_storeCells_at P g o t [v] 0 cs w hg (by simp;omega) (by simp [h1]);have hrun:(sizeOf Te).run P w = .ok iT.size w:=by simp [sizeOf,typeInfo,hinf,hsz]
 refine SatR.mk (v:=()) (w':=w.setRow g (cs.toList.take o++[v]++cs.toList.drop (o+1)).toArray) ?_ (k _ (zaj hg) (zaO w g _) (by simp));simp only [storeVar,Sem.run_bind,hrun,Result.andThen_ok,hv,hs];simpa using hst
end
end Go.Vc
namespace Go.Sei
open Go.Vc
structure Msg where
 kind:UInt8
 from_:UInt8
 to:UInt8
 line:UInt8
 asker:UInt8
 acks:UInt8
 alone:Bool
 d0:UInt8
 d1:UInt8
 d2:UInt8
 d3:UInt8
 deriving DecidableEq
def Msg.enc (m:Msg):List Value:=[u8 m.kind,u8 m.from_,u8 m.to,u8 m.line,u8 m.asker,u8 m.acks,.bool m.alone,u8 m.d0,u8 m.d1,u8 m.d2,u8 m.d3]
def Msg.val (m:Msg):Value := .agg m.enc.toArray
def intE:Enc Int:=⟨fun n=>[.int .i64 n],1,fun _=>rfl,by decide,fun a u hu=>by
 simp only [List.mem_cons,List.not_mem_nil,or_false] at hu;subst hu;rfl⟩
end Go.Sei
namespace Go.Vc
open Go.RowKit
inductive Mk where
 | p
 | s (a b:Mk)
 | c (a b:Mk)
 | d (a b:Mk)
 | b (a:Mk)
 | l (a:Mk)
def CutE (first:(Exit->Env->World->Prop)->Prop) (second:Env->World->(Exit->Env->World->Prop)->Prop) (Q:Exit->Env->World->Prop):Prop :=
 ∃ (σ:Type) (env:σ->Env) (inv:σ->World->Prop),(first fun ex E' w'=>match ex with
  | .normal=>∃ s,Cov E' (env s)/\inv s w'
  | ex=>Q ex E' w')/\∀ s w',inv s w'->second (env s) w' Q
noncomputable def wpM (S:Sig) (m:Mk):Code->Env->World->(Exit->Env->World->Prop)->Prop :=
 Mk.rec (motive:=fun _=>Code->Env->World->(Exit->Env->World->Prop)->Prop)
  (fun c E w Q=>wpE S c E w Q)
  (fun _ _ ia ib c E w Q=>match c with
   | .seq x y=>ia x E w fun ex E' w'=>match ex with
    | .normal=>ib y E' w' Q
    | ex=>Q ex E' w'
   | _=>False)
  (fun _ _ ia ib c E w Q=>match c with
   | .seq x y=>CutE (fun Q=>ia x E w Q) (fun E w Q=>ib y E w Q) Q
   | _=>False)
  (fun _ _ ia ib c E w Q=>match c with
   | .cond c x y=>(match opd E c with
    | some (.bool v)=>Br v (ia x E w Q) (ib y E w Q)
    | _=>False)
   | _=>False)
  (fun _ ia c E w Q=>match c with
   | .block id x=>ia x E w fun ex E' w'=>match ex with
    | .exit id'=>(match Nat.beq id' id with
     | true=>Q .normal E' w'
     | false=>Q (.exit id') E' w')
    | ex=>Q ex E' w'
   | _=>False)
  (fun _ ia c E w Q=>match c with
   | .loop x=>zqv (fun E w Q=>ia x E w Q) E w Q
   | _=>False)
  m
section
variable {S:Sig}
theorem zbC (hS:SigOk S):∀ (m:Mk) (c:Code) (E:Env) (a:Act) (w:World) (Q:Exit->Env->World->Prop),Agrees S a E->wpM S m c E w Q->c.wpIn (FR S.r) NN S.P (lift S Q) a w
 | .p,c,E,a,w,Q,ha,h=>za0 hS c E a w Q ha h
 | .s m k,.seq x y,E,a,w,Q,ha,h=>by
  replace h:(wpM S m x E w fun ex E' w'=>match ex with | .normal=>wpM S k y E' w' Q | ex=>Q ex E' w'):=h;refine wpIn_seq ?_;refine wpIn_mono (zbC hS m x E a w _ ha h) ?_;rintro ex a' w' ⟨E',ha',hq⟩
  cases ex with
  | normal=>exact zbC hS k y E' a' w' Q ha' hq
  | _=>exact⟨E',ha',hq⟩
 | .c m k,.seq x y,E,a,w,Q,ha,h=>by
  replace h:CutE (fun Q=>wpM S m x E w Q) (fun E w Q=>wpM S k y E w Q) Q:=h;obtain⟨σ,env,inv,h1,h2⟩:=h;refine wpIn_seq ?_;refine wpIn_mono (zbC hS m x E a w _ ha h1) ?_;rintro ex a' w' ⟨E',ha',hq⟩
  cases ex with
  | normal =>
   obtain⟨s,hc,hi⟩:=hq;exact zbC hS k y (env s) a' w' Q (ha'.cov hc) (h2 s w' hi)
  | _=>exact⟨E',ha',hq⟩
 | .d m k,.cond c x y,E,a,w,Q,ha,h=>by
  replace h:(match opd E c with | some (.bool v)=>Br v (wpM S m x E w Q) (wpM S k y E w Q) | _=>False):=h
  split at h
  ·rename_i b hb;refine wpIn_cond_split (ha.eval hb) (fun e=>zbC hS m x E a w Q ha (h.1 e)) (fun e=>zbC hS k y E a w Q ha (h.2 e))
  ·exact h.elim
 | .b m,.block id x,E,a,w,Q,ha,h=>by
  replace h:(wpM S m x E w fun ex E' w'=>match ex with | .exit id'=>(match Nat.beq id' id with | true=>Q .normal E' w' | false=>Q (.exit id') E' w') | ex=>Q ex E' w'):=h;refine wpIn_block ?_;refine wpIn_mono (zbC hS m x E a w _ ha h) ?_;rintro ex a' w' ⟨E',ha',hq⟩
  cases ex with
  | exit id' =>
   simp only [Exit.inBlock];dsimp only at hq
   split at hq
   ·rename_i hb;rw [if_pos (Nat.eq_of_beq_eq_true hb)];exact⟨E',ha',hq⟩
   ·rename_i hb;rw [if_neg (Nat.ne_of_beq_eq_false hb)];exact⟨E',ha',hq⟩
  | _=>exact⟨E',ha',hq⟩
 | .l m,.loop x,E,a,w,Q,ha,h=>by
  replace h:zqv (fun E w Q=>wpM S m x E w Q) E w Q:=h;obtain⟨σ,env,inv,μ,s0,hc,hi,hb⟩:=h;have key:∀ m s a w,μ s=m->Agrees S a (env s)->inv s w->(Code.loop x).wpIn (FR S.r) NN S.P (lift S Q) a w:=by
   intro m' s a w hm ha hi;refine wpIn_loop (fun a w=>∃ s,Agrees S a (env s)/\inv s w) (fun a w=>leastOf (fun k=>∃ s,Agrees S a (env s)/\inv s w/\μ s=k)) ⟨s,ha,hi⟩ ?_;intro a w ⟨s1,ha1,hi1⟩;obtain⟨⟨s2,ha2,hi2,hm2⟩,_⟩:=leastOf_spec (p:=fun k=>∃ s,Agrees S a (env s)/\inv s w/\μ s=k) ⟨_,s1,ha1,hi1,rfl⟩;refine wpIn_mono (zbC hS m x (env s2) a w _ ha2 (hb s2 w hi2)) ?_;rintro ex a' w' ⟨E',ha',hq⟩
   cases ex with
   | normal =>
    obtain⟨s',hc',hi',hlt⟩:=hq;refine⟨⟨s',ha'.cov hc',hi'⟩,?_⟩;have:=(leastOf_spec (p:=fun k=>∃ s,Agrees S a' (env s)/\inv s w'/\μ s=k) ⟨_,s',ha'.cov hc',hi',rfl⟩).2;rw [<- hm2];exact Nat.lt_of_le_of_lt (this _ ⟨s',ha'.cov hc',hi',rfl⟩) hlt
   | _=>exact⟨E',ha',hq⟩
  exact key _ s0 a w rfl (ha.cov hc) hi
 | .s _ _,.skip,_,_,_,_,_,h=>h.elim
 | .s _ _,.region _ _ _,_,_,_,_,_,h=>h.elim
 | .s _ _,.cond _ _ _,_,_,_,_,_,h=>h.elim
 | .s _ _,.block _ _,_,_,_,_,_,h=>h.elim
 | .s _ _,.loop _,_,_,_,_,_,h=>h.elim
 | .s _ _,.rangeFunc _ _ _ _,_,_,_,_,_,h=>h.elim
 | .s _ _,.exit _,_,_,_,_,_,h=>h.elim
 | .s _ _,.scope _,_,_,_,_,_,h=>h.elim
 | .s _ _,.label _,_,_,_,_,_,h=>h.elim
 | .s _ _,.goto _,_,_,_,_,_,h=>h.elim
 | .s _ _,.ret,_,_,_,_,_,h=>h.elim
 | .s _ _,.refuse _,_,_,_,_,_,h=>h.elim
 | .c _ _,.skip,_,_,_,_,_,h=>h.elim
 | .c _ _,.region _ _ _,_,_,_,_,_,h=>h.elim
 | .c _ _,.cond _ _ _,_,_,_,_,_,h=>h.elim
 | .c _ _,.block _ _,_,_,_,_,_,h=>h.elim
 | .c _ _,.loop _,_,_,_,_,_,h=>h.elim
 | .c _ _,.rangeFunc _ _ _ _,_,_,_,_,_,h=>h.elim
 | .c _ _,.exit _,_,_,_,_,_,h=>h.elim
 | .c _ _,.scope _,_,_,_,_,_,h=>h.elim
 | .c _ _,.label _,_,_,_,_,_,h=>h.elim
 | .c _ _,.goto _,_,_,_,_,_,h=>h.elim
 | .c _ _,.ret,_,_,_,_,_,h=>h.elim
 | .c _ _,.refuse _,_,_,_,_,_,h=>h.elim
 | .d _ _,.skip,_,_,_,_,_,h=>h.elim
 | .d _ _,.region _ _ _,_,_,_,_,_,h=>h.elim
 | .d _ _,.seq _ _,_,_,_,_,_,h=>h.elim
 | .d _ _,.block _ _,_,_,_,_,_,h=>h.elim
 | .d _ _,.loop _,_,_,_,_,_,h=>h.elim
 | .d _ _,.rangeFunc _ _ _ _,_,_,_,_,_,h=>h.elim
 | .d _ _,.exit _,_,_,_,_,_,h=>h.elim
 | .d _ _,.scope _,_,_,_,_,_,h=>h.elim
 | .d _ _,.label _,_,_,_,_,_,h=>h.elim
 | .d _ _,.goto _,_,_,_,_,_,h=>h.elim
 | .d _ _,.ret,_,_,_,_,_,h=>h.elim
 | .d _ _,.refuse _,_,_,_,_,_,h=>h.elim
 | .b _,.skip,_,_,_,_,_,h=>h.elim
 | .b _,.region _ _ _,_,_,_,_,_,h=>h.elim
 | .b _,.seq _ _,_,_,_,_,_,h=>h.elim
 | .b _,.cond _ _ _,_,_,_,_,_,h=>h.elim
 | .b _,.loop _,_,_,_,_,_,h=>h.elim
 | .b _,.rangeFunc _ _ _ _,_,_,_,_,_,h=>h.elim
 | .b _,.exit _,_,_,_,_,_,h=>h.elim
 | .b _,.scope _,_,_,_,_,_,h=>h.elim
 | .b _,.label _,_,_,_,_,_,h=>h.elim
 | .b _,.goto _,_,_,_,_,_,h=>h.elim
 | .b _,.ret,_,_,_,_,_,h=>h.elim
 | .b _,.refuse _,_,_,_,_,_,h=>h.elim
 | .l _,.skip,_,_,_,_,_,h=>h.elim
 | .l _,.region _ _ _,_,_,_,_,_,h=>h.elim
 | .l _,.seq _ _,_,_,_,_,_,h=>h.elim
 | .l _,.cond _ _ _,_,_,_,_,_,h=>h.elim
 | .l _,.block _ _,_,_,_,_,_,h=>h.elim
 | .l _,.rangeFunc _ _ _ _,_,_,_,_,_,h=>h.elim
 | .l _,.exit _,_,_,_,_,_,h=>h.elim
 | .l _,.scope _,_,_,_,_,_,h=>h.elim
 | .l _,.label _,_,_,_,_,_,h=>h.elim
 | .l _,.goto _,_,_,_,_,_,h=>h.elim
 | .l _,.ret,_,_,_,_,_,h=>h.elim
 | .l _,.refuse _,_,_,_,_,_,h=>h.elim
theorem zgG (hS:SigOk S) {f:FuncId} {fn:Func} {c:Code} {args:List Value} {w:World} {R:Ending->World->Prop} (m:Mk)
  (hf:S.P.funcs[f]?=some fn) (hb:fn.body=some c) (hn:fn.ntmps=S.n) (hle:args.length<=S.n) (hr:S.r=none)
  (h:wpM S m c ⟨zgg 0 args,[]⟩ w (znx S fn R)):Calls S.P f args.toArray w R:=by
 rw [<- callsIn_wide (n:=NN)];have hF:FR none=Fence.wide:=rfl;rw [<- hF];refine callsIn_of_wp_marks hf hb trivial ?_;have ha:Agrees S { tmps:=args.toArray++Array.replicate (fn.ntmps-args.toArray.size) undef,defers:=[] } ⟨zgg 0 args,[]⟩:=by
  refine⟨?_,rfl,fun t v hv=>?_⟩
  ·simp [hn];omega
  ·obtain⟨_,h2⟩:=zeO _ _ _ _ hv;simp only [Nat.sub_zero] at h2;have hlt:t<args.length:=(List.getElem?_eq_some_iff.1 h2).1;simp only [Array.getElem?_append,List.size_toArray,hlt,if_true];simpa using h2
 have h1:=zbC hS m c _ _ w _ ha h;rw [hr] at h1;refine wpIn_mono h1 ?_;rintro ex a' w' ⟨E',ha',hq⟩
 cases ex with
 | normal=>have:=zb6 hS ha' _ _ hq;rw [<- ha'.defers] at this;exact this
 | ret=>have:=zb6 hS ha' _ _ hq;rw [<- ha'.defers] at this;exact this
 | panic ch =>
  obtain⟨hd,hR⟩:=hq;show LeavesInM _ _ _ _ _ _ a'.defers _ _;rw [ha'.defers,hd];exact hR
 | exit _=>exact hq.elim
 | goto _=>exact hq.elim
 | outgrown=>exact hq.elim
end
end Go.Vc
namespace Go.Proofs.YtlkofpbdpplfkaaGreatDoor
open Go.Vc Go.RowKit
def zm2:List Value:=[.int .i64 0,.int .u64 0,.int .u64 0,.int .u64 0,.int .u64 0,.int .u64 0,.int .u64 0,.int .u64 0,.int .u64 0,.int .u64 0,.int .u64 0,.int .u64 0,.int .u64 0,.int .u64 0,.int .u64 0,.int .u64 0,.int .u64 0,.int .u64 0,.int .u64 0,.int .u64 0,.int .u64 0,.int .u64 0,.int .u64 0,.int .u64 0,.int .u64 0,.int .u64 0,.int .u64 0,.int .u64 0,.int .u64 0,.int .u64 0,.int .u64 0,.int .u64 0,.int .u64 0,.int .u64 0,.int .u64 0,.int .u64 0,.int .u64 0,.int .u64 0,.int .u64 0,.int .u64 0,.int .u64 0,.int .u64 0,.int .u64 0,.int .u64 0,.int .u64 0,.int .u64 0,.int .u64 0,.int .u64 0,.int .u64 0]
def zig:List Value:=[.slice none 0 0,.int .i64 0,.int .u64 0,.int .u64 0,.int .u64 0,.int .u64 0,.int .u64 0,.int .u64 0,.int .u64 0,.int .u64 0,.int .u64 0,.int .u64 0,.int .u64 0,.int .u64 0,.int .u64 0,.int .u64 0,.int .u64 0,.int .u64 0,.int .u64 0,.int .u64 0,.int .u64 0,.int .u64 0,.int .u64 0,.int .u64 0,.int .u64 0,.int .u64 0,.int .u64 0,.int .u64 0,.int .u64 0,.int .u64 0,.int .u64 0,.int .u64 0,.int .u64 0,.int .u64 0,.int .u64 0,.int .u64 0,.int .u64 0,.int .u64 0,.int .u64 0,.int .u64 0,.int .u64 0,.int .u64 0,.int .u64 0,.int .u64 0,.int .u64 0,.int .u64 0,.int .u64 0,.int .u64 0,.int .u64 0,.int .u64 0,.int .i64 0,.int .u64 0,.int .u64 0,.int .u64 0,.int .u64 0,.int .u64 0,.int .u64 0,.int .u64 0,.int .u64 0,.int .u64 0,.int .u64 0,.int .u64 0,.int .u64 0,.int .u64 0,.int .u64 0,.int .u64 0,.int .u64 0,.int .u64 0,.int .u64 0,.int .u64 0,.int .u64 0,.int .u64 0,.int .u64 0,.int .u64 0,.int .u64 0,.int .u64 0,.int .u64 0,.int .u64 0,.int .u64 0,.int .u64 0,.int .u64 0,.int .u64 0,.int .u64 0,.int .u64 0,.int .u64 0,.int .u64 0,.int .u64 0,.int .u64 0,.int .u64 0,.int .u64 0,.int .u64 0,.int .u64 0,.int .u64 0,.int .u64 0,.int .u64 0,.int .u64 0,.int .u64 0,.int .u64 0,.int .u64 0,.int .i64 0,.int .u64 0,.int .u64 0,.int .u64 0,.int .u64 0,.int .u64 0,.int .u64 0,.int .u64 0,.int .u64 0,.int .u64 0,.int .u64 0,.int .u64 0,.int .u64 0,.int .u64 0,.int .u64 0,.int .u64 0,.int .u64 0,.int .u64 0,.int .u64 0,.int .u64 0,.int .u64 0,.int .u64 0,.int .u64 0,.int .u64 0,.int .u64 0,.int .u64 0,.int .u64 0,.int .u64 0,.int .u64 0,.int .u64 0,.int .u64 0,.int .u64 0,.int .u64 0,.int .u64 0,.int .u64 0,.int .u64 0,.int .u64 0,.int .u64 0,.int .u64 0,.int .u64 0,.int .u64 0,.int .u64 0,.int .u64 0,.int .u64 0,.int .u64 0,.int .u64 0,.int .u64 0,.int .u64 0,.int .u64 0,.int .i64 0,.int .u64 0,.int .u64 0,.int .u64 0,.int .u64 0,.int .u64 0,.int .u64 0,.int .u64 0,.int .u64 0,.int .u64 0,.int .u64 0,.int .u64 0,.int .u64 0,.int .u64 0,.int .u64 0,.int .u64 0,.int .u64 0,.int .u64 0,.int .u64 0,.int .u64 0,.int .u64 0,.int .u64 0,.int .u64 0,.int .u64 0,.int .u64 0,.int .u64 0,.int .u64 0,.int .u64 0,.int .u64 0,.int .u64 0,.int .u64 0,.int .u64 0,.int .u64 0,.int .u64 0,.int .u64 0,.int .u64 0,.int .u64 0,.int .u64 0,.int .u64 0,.int .u64 0,.int .u64 0,.int .u64 0,.int .u64 0,.int .u64 0,.int .u64 0,.int .u64 0,.int .u64 0,.int .u64 0,.int .u64 0,.int .i64 0,.int .u64 0,.int .u64 0,.int .u64 0,.int .u64 0,.int .u64 0,.int .u64 0,.int .u64 0,.int .u64 0,.int .u64 0,.int .u64 0,.int .u64 0,.int .u64 0,.int .u64 0,.int .u64 0,.int .u64 0,.int .u64 0,.int .u64 0,.int .u64 0,.int .u64 0,.int .u64 0,.int .u64 0,.int .u64 0,.int .u64 0,.int .u64 0,.int .u64 0,.int .u64 0,.int .u64 0,.int .u64 0,.int .u64 0,.int .u64 0,.int .u64 0,.int .u64 0,.int .u64 0,.int .u64 0,.int .u64 0,.int .u64 0,.int .u64 0,.int .u64 0,.int .u64 0,.int .u64 0,.int .u64 0,.int .u64 0,.int .u64 0,.int .u64 0,.int .u64 0,.int .u64 0,.int .u64 0,.int .u64 0,.int .i64 0,.int .u64 0,.int .u64 0,.int .u64 0,.int .u64 0,.int .u64 0,.int .u64 0,.int .u64 0,.int .u64 0,.int .u64 0,.int .u64 0,.int .u64 0,.int .u64 0,.int .u64 0,.int .u64 0,.int .u64 0,.int .u64 0,.int .u64 0,.int .u64 0,.int .u64 0,.int .u64 0,.int .u64 0,.int .u64 0,.int .u64 0,.int .u64 0,.int .u64 0,.int .u64 0,.int .u64 0,.int .u64 0,.int .u64 0,.int .u64 0,.int .u64 0,.int .u64 0,.int .u64 0,.int .u64 0,.int .u64 0,.int .u64 0,.int .u64 0,.int .u64 0,.int .u64 0,.int .u64 0,.int .u64 0,.int .u64 0,.int .u64 0,.int .u64 0,.int .u64 0,.int .u64 0,.int .u64 0,.int .u64 0,.int .u8 0,.int .u8 0,.int .u8 0,.int .u8 0,.int .u8 0,.int .u8 0,.int .u8 0,.int .u8 0,.int .u8 0,.int .u8 0,.int .u8 0,.int .u8 0,.int .u8 0,.int .u8 0,.int .u8 0,.int .u8 0,.int .u8 0,.int .u8 0,.int .u8 0,.int .u8 0,.int .u8 0,.int .u8 0,.int .u8 0,.int .u8 0,.int .u8 0,.int .u8 0,.int .u8 0,.int .u8 0,.int .u8 0,.int .u8 0,.int .u8 0,.int .u8 0,.int .u8 0,.int .u8 0,.int .u8 0,.int .u8 0,.int .u8 0,.int .u8 0]
def zdz:List Value:=[.slice none 0 0,.int .i64 0,.int .u64 0,.int .u64 0,.int .u64 0,.int .u64 0,.int .u64 0,.int .u64 0,.int .u64 0,.int .u64 0,.int .u64 0,.int .u64 0,.int .u64 0,.int .u64 0,.int .u64 0,.int .u64 0,.int .u64 0,.int .u64 0,.int .u64 0,.int .u64 0,.int .u64 0,.int .u64 0,.int .u64 0,.int .u64 0,.int .u64 0,.int .u64 0,.int .u64 0,.int .u64 0,.int .u64 0,.int .u64 0,.int .u64 0,.int .u64 0,.int .u64 0,.int .u64 0,.int .u64 0,.int .u64 0,.int .u64 0,.int .u64 0,.int .u64 0,.int .u64 0,.int .u64 0,.int .u64 0,.int .u64 0,.int .u64 0,.int .u64 0,.int .u64 0,.int .u64 0,.int .u64 0,.int .u64 0,.int .u64 0,.int .i64 0,.int .u64 0,.int .u64 0,.int .u64 0,.int .u64 0,.int .u64 0,.int .u64 0,.int .u64 0,.int .u64 0,.int .u64 0,.int .u64 0,.int .u64 0,.int .u64 0,.int .u64 0,.int .u64 0,.int .u64 0,.int .u64 0,.int .u64 0,.int .u64 0,.int .u64 0,.int .u64 0,.int .u64 0,.int .u64 0,.int .u64 0,.int .u64 0,.int .u64 0,.int .u64 0,.int .u64 0,.int .u64 0,.int .u64 0,.int .u64 0,.int .u64 0,.int .u64 0,.int .u64 0,.int .u64 0,.int .u64 0,.int .u64 0,.int .u64 0,.int .u64 0,.int .u64 0,.int .u64 0,.int .u64 0,.int .u64 0,.int .u64 0,.int .u64 0,.int .u64 0,.int .u64 0,.int .u64 0,.int .u64 0,.int .i64 0,.int .u64 0,.int .u64 0,.int .u64 0,.int .u64 0,.int .u64 0,.int .u64 0,.int .u64 0,.int .u64 0,.int .u64 0,.int .u64 0,.int .u64 0,.int .u64 0,.int .u64 0,.int .u64 0,.int .u64 0,.int .u64 0,.int .u64 0,.int .u64 0,.int .u64 0,.int .u64 0,.int .u64 0,.int .u64 0,.int .u64 0,.int .u64 0,.int .u64 0,.int .u64 0,.int .u64 0,.int .u64 0,.int .u64 0,.int .u64 0,.int .u64 0,.int .u64 0,.int .u64 0,.int .u64 0,.int .u64 0,.int .u64 0,.int .u64 0,.int .u64 0,.int .u64 0,.int .u64 0,.int .u64 0,.int .u64 0,.int .u64 0,.int .u64 0,.int .u64 0,.int .u64 0,.int .u64 0,.int .u64 0,.int .i64 0,.int .u64 0,.int .u64 0,.int .u64 0,.int .u64 0,.int .u64 0,.int .u64 0,.int .u64 0,.int .u64 0,.int .u64 0,.int .u64 0,.int .u64 0,.int .u64 0,.int .u64 0,.int .u64 0,.int .u64 0,.int .u64 0,.int .u64 0,.int .u64 0,.int .u64 0,.int .u64 0,.int .u64 0,.int .u64 0,.int .u64 0,.int .u64 0,.int .u64 0,.int .u64 0,.int .u64 0,.int .u64 0,.int .u64 0,.int .u64 0,.int .u64 0,.int .u64 0,.int .u64 0,.int .u64 0,.int .u64 0,.int .u64 0,.int .u64 0,.int .u64 0,.int .u64 0,.int .u64 0,.int .u64 0,.int .u64 0,.int .u64 0,.int .u64 0,.int .u64 0,.int .u64 0,.int .u64 0,.int .u64 0,.int .i64 0,.int .u64 0,.int .u64 0,.int .u64 0,.int .u64 0,.int .u64 0,.int .u64 0,.int .u64 0,.int .u64 0,.int .u64 0,.int .u64 0,.int .u64 0,.int .u64 0,.int .u64 0,.int .u64 0,.int .u64 0,.int .u64 0,.int .u64 0,.int .u64 0,.int .u64 0,.int .u64 0,.int .u64 0,.int .u64 0,.int .u64 0,.int .u64 0,.int .u64 0,.int .u64 0,.int .u64 0,.int .u64 0,.int .u64 0,.int .u64 0,.int .u64 0,.int .u64 0,.int .u64 0,.int .u64 0,.int .u64 0,.int .u64 0,.int .u64 0,.int .u64 0,.int .u64 0,.int .u64 0,.int .u64 0,.int .u64 0,.int .u64 0,.int .u64 0,.int .u64 0,.int .u64 0,.int .u64 0,.int .u64 0,.int .i64 0,.int .u64 0,.int .u64 0,.int .u64 0,.int .u64 0,.int .u64 0,.int .u64 0,.int .u64 0,.int .u64 0,.int .u64 0,.int .u64 0,.int .u64 0,.int .u64 0,.int .u64 0,.int .u64 0,.int .u64 0,.int .u64 0,.int .u64 0,.int .u64 0,.int .u64 0,.int .u64 0,.int .u64 0,.int .u64 0,.int .u64 0,.int .u64 0,.int .u64 0,.int .u64 0,.int .u64 0,.int .u64 0,.int .u64 0,.int .u64 0,.int .u64 0,.int .u64 0,.int .u64 0,.int .u64 0,.int .u64 0,.int .u64 0,.int .u64 0,.int .u64 0,.int .u64 0,.int .u64 0,.int .u64 0,.int .u64 0,.int .u64 0,.int .u64 0,.int .u64 0,.int .u64 0,.int .u64 0,.int .u64 0,.int .u8 0,.int .u8 0,.int .u8 0,.int .u8 0,.int .u8 0,.int .u8 0,.int .u8 0,.int .u8 0,.int .u8 0,.int .u8 0,.int .u8 0,.int .u8 0,.int .u8 0,.int .u8 0,.int .u8 0,.int .u8 0,.int .u8 0,.int .u8 0,.int .u8 0,.int .u8 0,.int .u8 0,.int .u8 0,.int .u8 0,.int .u8 0,.int .u8 0,.int .u8 0,.int .u8 0,.int .u8 0,.int .u8 0,.int .u8 0,.int .u8 0,.int .u8 0,.int .u8 0,.int .u8 0,.int .u8 0,.int .u8 0,.int .u8 0,.int .u8 0,.slice none 0 0,.slice none 0 0,.slice none 0 0]
def zrO:List Value:=[.int .i64 0,.int .u8 0,.int .u8 0,.int .u8 0,.int .u8 0,.int .u8 0,.int .u8 0,.int .i64 0,.int .u8 0,.int .u8 0,.int .u8 0,.int .u8 0,.int .u8 0,.int .u8 0,.int .i64 0,.int .u8 0,.int .u8 0,.int .u8 0,.int .u8 0,.int .u8 0,.int .u8 0,.int .i64 0,.int .u8 0,.int .u8 0,.int .u8 0,.int .u8 0,.int .u8 0,.int .u8 0,.int .i64 0,.int .u8 0,.int .u8 0,.int .u8 0,.int .u8 0,.int .u8 0,.int .u8 0,.int .i64 0,.int .u8 0,.int .u8 0,.int .u8 0,.int .u8 0,.int .u8 0,.int .u8 0,.int .i64 0,.int .u8 0,.int .u8 0,.int .u8 0,.int .u8 0,.int .u8 0,.int .u8 0,.int .i64 0,.int .u8 0,.int .u8 0,.int .u8 0,.int .u8 0,.int .u8 0,.int .u8 0,.int .i64 0,.int .u8 0,.int .u8 0,.int .u8 0,.int .u8 0,.int .u8 0,.int .u8 0,.int .i64 0,.int .u8 0,.int .u8 0,.int .u8 0,.int .u8 0,.int .u8 0,.int .u8 0,.int .i64 0,.int .u8 0,.int .u8 0,.int .u8 0,.int .u8 0,.int .u8 0,.int .u8 0,.int .i64 0,.int .u8 0,.int .u8 0,.int .u8 0,.int .u8 0,.int .u8 0,.int .u8 0,.int .i64 0,.int .u8 0,.int .u8 0,.int .u8 0,.int .u8 0,.int .u8 0,.int .u8 0,.int .i64 0,.int .u8 0,.int .u8 0,.int .u8 0,.int .u8 0,.int .u8 0,.int .u8 0,.int .i64 0,.int .u8 0,.int .u8 0,.int .u8 0,.int .u8 0,.int .u8 0,.int .u8 0,.int .i64 0,.int .u8 0,.int .u8 0,.int .u8 0,.int .u8 0,.int .u8 0,.int .u8 0,.int .i64 0,.int .u8 0,.int .u8 0,.int .u8 0,.int .u8 0,.int .u8 0,.int .u8 0,.int .i64 0,.int .u8 0,.int .u8 0,.int .u8 0,.int .u8 0,.int .u8 0,.int .u8 0,.int .i64 0,.int .u8 0,.int .u8 0,.int .u8 0,.int .u8 0,.int .u8 0,.int .u8 0,.int .i64 0,.int .u8 0,.int .u8 0,.int .u8 0,.int .u8 0,.int .u8 0,.int .u8 0,.int .i64 0,.int .u8 0,.int .u8 0,.int .u8 0,.int .u8 0,.int .u8 0,.int .u8 0,.int .i64 0,.int .u8 0,.int .u8 0,.int .u8 0,.int .u8 0,.int .u8 0,.int .u8 0,.int .i64 0,.int .u8 0,.int .u8 0,.int .u8 0,.int .u8 0,.int .u8 0,.int .u8 0,.int .i64 0,.int .u8 0,.int .u8 0,.int .u8 0,.int .u8 0,.int .u8 0,.int .u8 0]
def zm1:List Value:=[.int .i64 0,.int .u8 0,.int .u8 0,.int .u8 0,.int .u8 0,.int .u8 0,.int .u8 0,.int .u8 0,.int .u8 0,.int .u32 0,.int .u32 0,.int .u32 0,.int .u32 0,.int .u32 0,.int .u32 0,.int .u32 0,.int .u32 0,.int .u32 0,.int .i64 0,.int .i64 0,.int .u8 0,.int .u8 0,.int .u8 0,.int .u8 0,.int .u8 0,.int .u8 0,.int .i64 0,.int .u8 0,.int .u8 0,.int .u8 0,.int .u8 0,.int .u8 0,.int .u8 0,.int .i64 0,.int .u8 0,.int .u8 0,.int .u8 0,.int .u8 0,.int .u8 0,.int .u8 0,.int .i64 0,.int .u8 0,.int .u8 0,.int .u8 0,.int .u8 0,.int .u8 0,.int .u8 0,.int .i64 0,.int .u8 0,.int .u8 0,.int .u8 0,.int .u8 0,.int .u8 0,.int .u8 0,.int .i64 0,.int .u8 0,.int .u8 0,.int .u8 0,.int .u8 0,.int .u8 0,.int .u8 0,.int .i64 0,.int .u8 0,.int .u8 0,.int .u8 0,.int .u8 0,.int .u8 0,.int .u8 0,.int .i64 0,.int .u8 0,.int .u8 0,.int .u8 0,.int .u8 0,.int .u8 0,.int .u8 0,.int .i64 0,.int .u8 0,.int .u8 0,.int .u8 0,.int .u8 0,.int .u8 0,.int .u8 0,.int .i64 0,.int .u8 0,.int .u8 0,.int .u8 0,.int .u8 0,.int .u8 0,.int .u8 0,.int .i64 0,.int .u8 0,.int .u8 0,.int .u8 0,.int .u8 0,.int .u8 0,.int .u8 0,.int .i64 0,.int .u8 0,.int .u8 0,.int .u8 0,.int .u8 0,.int .u8 0,.int .u8 0,.int .i64 0,.int .u8 0,.int .u8 0,.int .u8 0,.int .u8 0,.int .u8 0,.int .u8 0,.int .i64 0,.int .u8 0,.int .u8 0,.int .u8 0,.int .u8 0,.int .u8 0,.int .u8 0,.int .i64 0,.int .u8 0,.int .u8 0,.int .u8 0,.int .u8 0,.int .u8 0,.int .u8 0,.int .i64 0,.int .u8 0,.int .u8 0,.int .u8 0,.int .u8 0,.int .u8 0,.int .u8 0,.int .i64 0,.int .u8 0,.int .u8 0,.int .u8 0,.int .u8 0,.int .u8 0,.int .u8 0,.int .i64 0,.int .u8 0,.int .u8 0,.int .u8 0,.int .u8 0,.int .u8 0,.int .u8 0,.int .i64 0,.int .u8 0,.int .u8 0,.int .u8 0,.int .u8 0,.int .u8 0,.int .u8 0,.int .i64 0,.int .u8 0,.int .u8 0,.int .u8 0,.int .u8 0,.int .u8 0,.int .u8 0,.int .i64 0,.int .u8 0,.int .u8 0,.int .u8 0,.int .u8 0,.int .u8 0,.int .u8 0,.int .i64 0,.int .u8 0,.int .u8 0,.int .u8 0,.int .u8 0,.int .u8 0,.int .u8 0,.int .i64 0,.int .u8 0,.int .u8 0,.int .u8 0,.int .u8 0,.int .u8 0,.int .u8 0,.int .i64 0,.int .u8 0,.int .u8 0,.int .u8 0,.int .u8 0,.int .u8 0,.int .u8 0,.int .u32 0,.int .u32 0,.int .u32 0,.int .u32 0,.int .u32 0,.int .u32 0,.int .u32 0,.int .u32 0,.int .u32 0,.int .u32 0,.int .u32 0,.int .u32 0,.int .u32 0,.int .u32 0,.int .u32 0,.int .u32 0,.int .u32 0,.int .u32 0,.int .u32 0,.int .u32 0,.int .u32 0,.int .u32 0,.int .u32 0,.int .u32 0,.int .u32 0,.int .u32 0,.int .u32 0,.int .u32 0,.int .u32 0,.int .u32 0,.int .u32 0,.int .u32 0,.int .u32 0,.int .u32 0,.int .u32 0,.int .u32 0,.int .u32 0,.int .u32 0,.int .u32 0,.int .u32 0,.int .u32 0,.int .u32 0,.int .u32 0,.int .u32 0,.int .u32 0,.int .u32 0,.int .u32 0,.int .u32 0,.int .u32 0,.int .u32 0,.int .u32 0,.int .u32 0,.int .u32 0,.int .u32 0,.int .u32 0,.int .u32 0,.int .u32 0,.int .u32 0,.int .u32 0,.int .u32 0,.int .u32 0,.int .u32 0,.int .u32 0,.int .u32 0,.int .u32 0,.int .u32 0,.int .u32 0,.int .u32 0,.int .u32 0,.int .u32 0,.int .u32 0,.int .u32 0]
def zrN:List Value:=zig++(zm2++(zm2++zm2))
def tt:TT:=[
 (0,⟨.other,1,false,0,none⟩),
 (2,⟨.int .i64,1,false,8,some [.int .i64 0]⟩),
 (3,⟨.int .i64,1,false,8,some [.int .i64 0]⟩),
 (4,⟨.bool,1,false,1,some [.bool false]⟩),
 (5,⟨.int .u8,1,false,1,some [.int .u8 0]⟩),
 (9,⟨.string,1,false,16,some [.string ByteArray.empty]⟩),
 (20,⟨.other,1,false,16,some [.nilIface]⟩),
 (21,⟨.int .i32,1,false,4,some [.int .i32 0]⟩),
 (22,⟨.slice 29 5,1,false,24,some [.slice none 0 0]⟩),
 (23,⟨.array 8 5 1 false,8,true,8,some (List.replicate 8 (.int .u8 0))⟩),
 (24,⟨.array 4 23 8 true,32,true,32,some (List.replicate 32 (.int .u8 0))⟩),
 (25,⟨.array 6 5 1 false,6,true,6,some (List.replicate 6 (.int .u8 0))⟩),
 (27,⟨.struct [(0,32,true),(32,6,true)],38,true,38,some (List.replicate 38 (.int .u8 0))⟩),
 (29,⟨.struct [(0,1,false),(1,1,false),(2,1,false),(3,1,false),(4,1,false)],5,true,32,some [.int .u8 0,.int .u8 0,.int .u8 0,.int .u8 0,.slice none 0 0]⟩),
 (31,⟨.other,1,false,8,some [.nilFunc]⟩),
 (35,⟨.slice 27 38,1,false,24,some [.slice none 0 0]⟩),
 (36,⟨.other,1,false,0,none⟩),
 (41,⟨.slice 9 1,1,false,24,some [.slice none 0 0]⟩),
 (42,⟨.slice 5 1,1,false,24,some [.slice none 0 0]⟩),
 (43,⟨.slice 64 1,1,false,24,some [.slice none 0 0]⟩),
 (45,⟨.struct [(0,1,false),(1,1,false),(2,1,false),(3,1,false),(4,1,false),(5,5,true)],10,true,128,some [.string ByteArray.empty,.slice none 0 0,.slice none 0 0,.slice none 0 0,.int .u8 0,.int .u8 0,.int .u8 0,.int .u8 0,.int .u8 0,.slice none 0 0]⟩),
 (52,⟨.int .i64,1,false,8,some [.int .i64 0]⟩),
 (54,⟨.array 8 3 1 false,8,true,64,some (List.replicate 8 (.int .i64 0))⟩),
 (55,⟨.array 4 54 8 true,32,true,256,some (List.replicate 32 (.int .i64 0))⟩),
 (57,⟨.other,1,false,0,none⟩),
 (59,⟨.int .u64,1,false,8,some [.int .u64 0]⟩),
 (61,⟨.other,1,false,16,some [.nilIface]⟩),
 (62,⟨.other,1,false,0,none⟩),
 (64,⟨.slice 68 10,1,false,24,some [.slice none 0 0]⟩),
 (66,⟨.struct [(0,1,false),(1,1,false)],2,true,2,some [.bool false,.int .u8 0]⟩),
 (68,⟨.struct [(0,1,false),(1,1,false),(2,1,false),(3,2,true),(5,2,true),(7,1,false),(8,1,false),(9,1,false)],10,true,10,some [.int .u8 0,.int .u8 0,.int .u8 0,.bool false,.int .u8 0,.bool false,.int .u8 0,.int .u8 0,.int .u8 0,.int .u8 0]⟩),
 (71,⟨.other,1,false,0,none⟩),
 (76,⟨.ptr 109,1,false,8,some [.pointer none]⟩),
 (78,⟨.other,1,false,8,some [.nilFunc]⟩),
 (81,⟨.other,1,false,8,some [.nilFunc]⟩),
 (83,⟨.array 8 4 1 false,8,true,8,some (List.replicate 8 (.bool false))⟩),
 (88,⟨.slice 92 2,1,false,24,some [.slice none 0 0]⟩),
 (90,⟨.ptr 45,1,false,8,some [.pointer none]⟩),
 (92,⟨.struct [(0,1,false),(1,1,false)],2,true,16,some [.int .i64 0,.nilFunc]⟩),
 (95,⟨.slice 104 333,1,false,24,some [.slice none 0 0]⟩),
 (96,⟨.other,1,false,0,none⟩),
 (98,⟨.slice 225 7,1,false,24,some [.slice none 0 0]⟩),
 (99,⟨.int .u64,1,false,8,some [.int .u64 0]⟩),
 (100,⟨.array 48 99 1 false,48,true,384,some (List.replicate 48 (.int .u64 0))⟩),
 (102,⟨.struct [(0,1,false),(1,48,true)],49,true,392,some zm2⟩),
 (104,⟨.struct [(0,1,false),(1,49,true),(50,49,true),(99,49,true),(148,49,true),(197,49,true),(246,49,true),(295,38,true)],333,true,2416,some zig⟩),
 (106,⟨.map 165 111,1,false,8,some [.map none]⟩),
 (107,⟨.map 5 78,1,false,8,some [.map none]⟩),
 (109,⟨.struct [(0,1,false),(1,1,false)],2,true,16,some [.map none,.map none]⟩),
 (111,⟨.struct [(0,1,false),(1,1,false)],2,true,2,some [.bool false,.bool false]⟩),
 (113,⟨.other,1,false,0,none⟩),
 (114,⟨.slice 35 1,1,false,24,some [.slice none 0 0]⟩),
 (118,⟨.int .u64,1,false,8,some [.int .u64 0]⟩),
 (120,⟨.ptr 122,1,false,8,some [.pointer none]⟩),
 (122,⟨.struct [(0,1,false),(1,1,false)],2,true,32,some [.pointer none,.slice none 0 0]⟩),
 (124,⟨.other,1,false,0,none⟩),
 (127,⟨.slice 131 3,1,false,24,some [.slice none 0 0]⟩),
 (128,⟨.other,1,false,0,none⟩),
 (131,⟨.struct [(0,1,false),(1,1,false),(2,1,false)],3,true,32,some [.int .i64 0,.string ByteArray.empty,.int .i64 0]⟩),
 (135,⟨.other,1,false,8,some [.nilFunc]⟩),
 (136,⟨.other,1,false,8,some [.nilFunc]⟩),
 (140,⟨.int .i64,1,false,8,some [.int .i64 0]⟩),
 (142,⟨.ptr 203,1,false,8,some [.pointer none]⟩),
 (145,⟨.other,1,false,0,none⟩),
 (147,⟨.slice 153 336,1,false,24,some [.slice none 0 0]⟩),
 (148,⟨.other,1,false,0,none⟩),
 (150,⟨.slice 3 1,1,false,24,some [.slice none 0 0]⟩),
 (151,⟨.slice 150 1,1,false,24,some [.slice none 0 0]⟩),
 (153,⟨.struct [(0,333,true),(333,1,false),(334,1,false),(335,1,false)],336,true,2488,some zdz⟩),
 (156,⟨.other,1,false,8,some [.nilFunc]⟩),
 (157,⟨.other,1,false,8,some [.nilFunc]⟩),
 (160,⟨.other,1,false,8,some [.nilFunc]⟩),
 (162,⟨.ptr 104,1,false,8,some [.pointer none]⟩),
 (163,⟨.ptr 29,1,false,8,some [.pointer none]⟩),
 (165,⟨.struct [(0,1,false),(1,1,false),(2,1,false)],3,true,24,some [.pointer none,.int .i64 0,.int .i64 0]⟩),
 (166,⟨.other,1,false,0,none⟩),
 (168,⟨.int .i64,1,false,8,some [.int .i64 0]⟩),
 (169,⟨.other,1,false,0,none⟩),
 (173,⟨.other,1,false,0,none⟩),
 (176,⟨.int .u32,1,false,4,some [.int .u32 0]⟩),
 (180,⟨.ptr 5,1,false,8,some [.pointer none]⟩),
 (181,⟨.other,1,false,0,none⟩),
 (185,⟨.slice 190 3,1,false,24,some [.slice none 0 0]⟩),
 (186,⟨.other,1,false,0,none⟩),
 (188,⟨.int .u8,1,false,1,some [.int .u8 0]⟩),
 (190,⟨.struct [(0,1,false),(1,1,false),(2,1,false)],3,true,32,some [.int .u8 0,.string ByteArray.empty,.int .i64 0]⟩),
 (193,⟨.struct [(0,10,true),(10,1,false),(11,1,false)],12,true,32,some [.int .u8 0,.int .u8 0,.int .u8 0,.bool false,.int .u8 0,.bool false,.int .u8 0,.int .u8 0,.int .u8 0,.int .u8 0,.int .i64 0,.int .i64 0]⟩),
 (194,⟨.slice 31 1,1,false,24,some [.slice none 0 0]⟩),
 (198,⟨.other,1,false,0,none⟩),
 (203,⟨.struct [(0,1,false),(1,1,false),(2,1,false)],3,true,48,some [.string ByteArray.empty,.string ByteArray.empty,.nilIface]⟩),
 (206,⟨.other,1,false,0,none⟩),
 (208,⟨.slice 209 1,1,false,24,some [.slice none 0 0]⟩),
 (209,⟨.slice 217 12,1,false,24,some [.slice none 0 0]⟩),
 (210,⟨.other,1,false,0,none⟩),
 (212,⟨.other,1,false,8,some [.nilFunc]⟩),
 (213,⟨.other,1,false,8,some [.nilFunc]⟩),
 (215,⟨.slice 343 2,1,false,24,some [.slice none 0 0]⟩),
 (217,⟨.struct [(0,1,false),(1,1,false),(2,1,false),(3,1,false),(4,8,true)],12,true,104,some [.slice none 0 0,.slice none 0 0,.slice none 0 0,.slice none 0 0,.int .u8 0,.int .u8 0,.int .u8 0,.int .u8 0,.int .u8 0,.int .u8 0,.int .u8 0,.int .u8 0]⟩),
 (218,⟨.other,1,false,0,none⟩),
 (220,⟨.ptr 153,1,false,8,some [.pointer none]⟩),
 (221,⟨.slice 151 1,1,false,24,some [.slice none 0 0]⟩),
 (225,⟨.struct [(0,1,false),(1,1,false),(2,1,false),(3,1,false),(4,1,false),(5,1,false),(6,1,false)],7,true,16,some [.int .i64 0,.int .u8 0,.int .u8 0,.int .u8 0,.int .u8 0,.int .u8 0,.int .u8 0]⟩),
 (227,⟨.ptr 102,1,false,8,some [.pointer none]⟩),
 (230,⟨.slice 227 1,1,false,24,some [.slice none 0 0]⟩),
 (239,⟨.other,1,false,8,some [.nilFunc]⟩),
 (241,⟨.other,1,false,0,none⟩),
 (245,⟨.int .u64,1,false,8,some [.int .u64 0]⟩),
 (249,⟨.ptr 3,1,false,8,some [.pointer none]⟩),
 (251,⟨.array 24 5 1 false,24,true,24,some (List.replicate 24 (.int .u8 0))⟩),
 (253,⟨.other,1,false,0,none⟩),
 (255,⟨.other,1,false,8,some [.pointer none]⟩),
 (260,⟨.struct [(0,1,false),(1,1,false)],2,true,24,some [.string ByteArray.empty,.int .i64 0]⟩),
 (262,⟨.struct [(0,2,true),(2,1,false)],3,true,32,some [.string ByteArray.empty,.int .i64 0,.bool false]⟩),
 (263,⟨.other,1,false,8,some [.nilFunc]⟩),
 (264,⟨.other,1,false,8,some [.nilFunc]⟩),
 (268,⟨.ptr 193,1,false,8,some [.pointer none]⟩),
 (270,⟨.other,1,false,0,none⟩),
 (272,⟨.ptr 274,1,false,8,some [.pointer none]⟩),
 (274,⟨.struct [(0,1,false)],1,true,16,some [.string ByteArray.empty]⟩),
 (276,⟨.array 256 4 1 false,256,true,256,some (List.replicate 256 (.bool false))⟩),
 (277,⟨.other,1,false,8,some [.nilFunc]⟩),
 (278,⟨.other,1,false,8,some [.nilFunc]⟩),
 (280,⟨.ptr 286,1,false,8,some [.pointer none]⟩),
 (281,⟨.int .u32,1,false,4,some [.int .u32 0]⟩),
 (282,⟨.array 8 281 1 false,8,true,32,some (List.replicate 8 (.int .u32 0))⟩),
 (283,⟨.array 24 225 7 true,168,true,384,some zrO⟩),
 (284,⟨.array 24 281 1 false,24,true,96,some (List.replicate 24 (.int .u32 0))⟩),
 (286,⟨.struct [(0,1,false),(1,8,true),(9,8,true),(17,1,false),(18,1,false),(19,168,true),(187,24,true),(211,24,true),(235,24,true)],259,true,736,some zm1⟩),
 (288,⟨.other,1,false,8,some [.nilFunc]⟩),
 (292,⟨.other,1,false,0,none⟩),
 (295,⟨.other,1,false,8,some [.nilFunc]⟩),
 (296,⟨.other,1,false,8,some [.nilFunc]⟩),
 (297,⟨.other,1,false,8,some [.nilFunc]⟩),
 (302,⟨.other,1,false,8,some [.nilFunc]⟩),
 (305,⟨.other,1,false,0,none⟩),
 (307,⟨.slice 102 49,1,false,24,some [.slice none 0 0]⟩),
 (311,⟨.ptr 313,1,false,8,some [.pointer none]⟩),
 (313,⟨.struct [(0,333,true),(333,49,true),(382,49,true),(431,49,true)],480,true,3592,some zrN⟩),
 (315,⟨.other,1,false,8,some [.nilFunc]⟩),
 (317,⟨.struct [(0,1,false)],1,true,8,some [.nilFunc]⟩),
 (318,⟨.array 7 317 1 true,7,true,56,some (List.replicate 7 (.nilFunc))⟩),
 (320,⟨.ptr 245,1,false,8,some [.pointer none]⟩),
 (321,⟨.other,1,false,0,none⟩),
 (324,⟨.array 20 59 1 false,20,true,160,some (List.replicate 20 (.int .u64 0))⟩),
 (325,⟨.array 65 5 1 false,65,true,65,some (List.replicate 65 (.int .u8 0))⟩),
 (326,⟨.other,1,false,8,some [.nilFunc]⟩),
 (327,⟨.ptr 262,1,false,8,some [.pointer none]⟩),
 (328,⟨.other,1,false,8,some [.nilFunc]⟩),
 (329,⟨.other,1,false,0,none⟩),
 (332,⟨.array 9 5 1 false,9,true,9,some (List.replicate 9 (.int .u8 0))⟩),
 (333,⟨.array 256 5 1 false,256,true,256,some (List.replicate 256 (.int .u8 0))⟩),
 (335,⟨.struct [(0,1,false),(1,1,false)],2,true,2,some [.int .u8 0,.int .u8 0]⟩),
 (336,⟨.array 16 335 2 true,32,true,32,some (List.replicate 32 (.int .u8 0))⟩),
 (338,⟨.other,1,false,8,some [.nilFunc]⟩),
 (341,⟨.slice 281 1,1,false,24,some [.slice none 0 0]⟩),
 (343,⟨.array 2 5 1 false,2,true,2,some [.int .u8 0,.int .u8 0]⟩),
 (348,⟨.other,1,false,8,some [.nilFunc]⟩),
 (349,⟨.other,1,false,8,some [.nilFunc]⟩),
 (353,⟨.other,1,false,0,none⟩),
 (368,⟨.array 32 5 1 false,32,true,32,some (List.replicate 32 (.int .u8 0))⟩),
 (369,⟨.array 64 5 1 false,64,true,64,some (List.replicate 64 (.int .u8 0))⟩),
 (370,⟨.ptr 260,1,false,8,some [.pointer none]⟩),
 (371,⟨.other,1,false,8,some [.nilFunc]⟩),
 (375,⟨.other,1,false,8,some [.nilFunc]⟩),
 (376,⟨.array 9 375 1 false,9,true,72,some (List.replicate 9 (.nilFunc))⟩),
 (381,⟨.other,1,false,0,none⟩)]
theorem tk {P:Program} {t:Nat} {i:TI} (h1:(P.info? t).map (fun x=>(x.size,x.bytes))=some (i.size,i.bytes):=by kernel_rfl)
  (h2:∀ z,i.zero=some z->((P.info? t).bind (fun x=>x.zero)).map (fun v=>v.cells.toList)=some z:=by intro z h;cases h;first | done | kernel_rfl) (h3:zp0 P t i=true:=by kernel_rfl):TIok P t i:=tiOk h1 h2 h3
theorem ttOk:TTok Tryz.prog tt :=
 .cons tk (
 .cons tk (
 .cons tk (
 .cons tk (
 .cons tk (
 .cons tk (
 .cons tk (
 .cons tk (
 .cons tk (
 .cons tk (
 .cons tk (
 .cons tk (
 .cons tk (
 .cons tk (
 .cons tk (
 .cons tk (
 .cons tk (
 .cons tk (
 .cons tk (
 .cons tk (
 .cons tk (
 .cons tk (
 .cons tk (
 .cons tk (
 .cons tk (
 .cons tk (
 .cons tk (
 .cons tk (
 .cons tk (
 .cons tk (
 .cons tk (
 .cons tk (
 .cons tk (
 .cons tk (
 .cons tk (
 .cons tk (
 .cons tk (
 .cons tk (
 .cons tk (
 .cons tk (
 .cons tk (
 .cons tk (
 .cons tk (
 .cons tk (
 .cons tk (
 .cons tk (
 .cons tk (
 .cons tk (
 .cons tk (
 .cons tk (
 .cons tk (
 .cons tk (
 .cons tk (
 .cons tk (
 .cons tk (
 .cons tk (
 .cons tk (
 .cons tk (
 .cons tk (
 .cons tk (
 .cons tk (
 .cons tk (
 .cons tk (
 .cons tk (
 .cons tk (
 .cons tk (
 .cons tk (
 .cons tk (
 .cons tk (
 .cons tk (
 .cons tk (
 .cons tk (
 .cons tk (
 .cons tk (
 .cons tk (
 .cons tk (
 .cons tk (
 .cons tk (
 .cons tk (
 .cons tk (
 .cons tk (
 .cons tk (
 .cons tk (
 .cons tk (
 .cons tk (
 .cons tk (
 .cons tk (
 .cons tk (
 .cons tk (
 .cons tk (
 .cons tk (
 .cons tk (
 .cons tk (
 .cons tk (
 .cons tk (
 .cons tk (
 .cons tk (
 .cons tk (
 .cons tk (
 .cons tk (
 .cons tk (
 .cons tk (
 .cons tk (
 .cons tk (
 .cons tk (
 .cons tk (
 .cons tk (
 .cons tk (
 .cons tk (
 .cons tk (
 .cons tk (
 .cons tk (
 .cons tk (
 .cons tk (
 .cons tk (
 .cons tk (
 .cons tk (
 .cons tk (
 .cons tk (
 .cons tk (
 .cons tk (
 .cons tk (
 .cons tk (
 .cons tk (
 .cons tk (
 .cons tk (
 .cons tk (
 .cons tk (
 .cons tk (
 .cons tk (
 .cons tk (
 .cons tk (
 .cons tk (
 .cons tk (
 .cons tk (
 .cons tk (
 .cons tk (
 .cons tk (
 .cons tk (
 .cons tk (
 .cons tk (
 .cons tk (
 .cons tk (
 .cons tk (
 .cons tk (
 .cons tk (
 .cons tk (
 .cons tk (
 .cons tk (
 .cons tk (
 .cons tk (
 .cons tk (
 .cons tk (
 .cons tk (
 .cons tk (
 .cons tk (
 .cons tk (
 .cons tk (
 .cons tk (
 .cons tk (
 .cons tk (
 .cons tk (
 .cons tk (
 .cons tk (
 .cons tk (
 .cons tk (
 .nil))))))))))))))))))))))))))))))))))))))))))))))))))))))))))))))))))))))))))))))))))))))))))))))))))))))))))))))))))))))))))))))))))))))))))))))))))))))))))))))))))))))
theorem zrs:zqh Tryz.prog 3 346 [132,134,178,179,198,315,316,317,318,319,320,321,322,323,324,325,326,327,328,329,330,331,332,333,334,335,336,337,338,339,340,341,342,343,344]=true:=by kernel_rfl
theorem mixed:Tryz.prog.follows .mixedOrders=true:=by kernel_rfl
@[reducible] noncomputable def sg (n:Nat):Sig:=⟨Tryz.prog,tt,n,3,346,none,[132,134,178,179,198,315,316,317,318,319,320,321,322,323,324,325,326,327,328,329,330,331,332,333,334,335,336,337,338,339,340,341,342,343,344]⟩
theorem sgOk (n:Nat):SigOk (sg n):=⟨fun t i h=>ttOk.get t i h,zrt zrs,mixed⟩
abbrev k0:=ttOk.get 0 _ rfl
abbrev k2:=ttOk.get 2 _ rfl
abbrev k3:=ttOk.get 3 _ rfl
abbrev k4:=ttOk.get 4 _ rfl
abbrev k5:=ttOk.get 5 _ rfl
abbrev k9:=ttOk.get 9 _ rfl
abbrev k23:=ttOk.get 23 _ rfl
abbrev k27:=ttOk.get 27 _ rfl
abbrev k29:=ttOk.get 29 _ rfl
abbrev k42:=ttOk.get 42 _ rfl
abbrev k45:=ttOk.get 45 _ rfl
abbrev k52:=ttOk.get 52 _ rfl
abbrev k66:=ttOk.get 66 _ rfl
abbrev k68:=ttOk.get 68 _ rfl
abbrev k76:=ttOk.get 76 _ rfl
abbrev k83:=ttOk.get 83 _ rfl
abbrev k92:=ttOk.get 92 _ rfl
abbrev k95:=ttOk.get 95 _ rfl
abbrev k98:=ttOk.get 98 _ rfl
abbrev k99:=ttOk.get 99 _ rfl
abbrev k102:=ttOk.get 102 _ rfl
abbrev k104:=ttOk.get 104 _ rfl
abbrev k107:=ttOk.get 107 _ rfl
abbrev k111:=ttOk.get 111 _ rfl
abbrev k136:=ttOk.get 136 _ rfl
abbrev k147:=ttOk.get 147 _ rfl
abbrev k150:=ttOk.get 150 _ rfl
abbrev k151:=ttOk.get 151 _ rfl
abbrev k153:=ttOk.get 153 _ rfl
abbrev k165:=ttOk.get 165 _ rfl
abbrev k185:=ttOk.get 185 _ rfl
abbrev k190:=ttOk.get 190 _ rfl
abbrev k193:=ttOk.get 193 _ rfl
abbrev k208:=ttOk.get 208 _ rfl
abbrev k209:=ttOk.get 209 _ rfl
abbrev k217:=ttOk.get 217 _ rfl
abbrev k221:=ttOk.get 221 _ rfl
abbrev k225:=ttOk.get 225 _ rfl
abbrev k262:=ttOk.get 262 _ rfl
abbrev k281:=ttOk.get 281 _ rfl
abbrev k286:=ttOk.get 286 _ rfl
abbrev k311:=ttOk.get 311 _ rfl
abbrev k318:=ttOk.get 318 _ rfl
abbrev k343:=ttOk.get 343 _ rfl
abbrev k376:=ttOk.get 376 _ rfl
abbrev CB (f:FuncId) (args:Array Value) (w:World) (v:Value):Prop:=Calls Tryz.prog f args w fun e w'=>e = .returned v/\Below w.heap.size w w'
theorem cofM (n:Nat) (args:List Value) (m:Mk) {f:FuncId} {fn:Func} {c:Code} {w:World} {R:Ending->World->Prop} (hf:Tryz.prog.funcs[f]?=some fn) (h:wpM (sg n) m c ⟨zgg 0 args,[]⟩ w (znx (sg n) fn R)) (hb:fn.body=some c:=by rfl) (hn:fn.ntmps=n:=by rfl) (hle:args.length<=n:=by exact Nat.le_of_ble_eq_true rfl):Calls Tryz.prog f args.toArray w R:=zgG (S:=sg n) (sgOk _) m hf hb hn hle rfl h
theorem cofE (n:Nat) (args:List Value) {f:FuncId} {fn:Func} {c:Code} {w:World} {R:Ending->World->Prop} (hf:Tryz.prog.funcs[f]?=some fn) (h:wpE (sg n) c ⟨zgg 0 args,[]⟩ w (znx (sg n) fn R)) (hb:fn.body=some c:=by rfl) (hn:fn.ntmps=n:=by rfl) (hle:args.length<=n:=by exact Nat.le_of_ble_eq_true rfl):Calls Tryz.prog f args.toArray w R:=zaZ (S:=sg n) (sgOk _) hf hb hn hle rfl h
end Go.Proofs.YtlkofpbdpplfkaaGreatDoor
namespace Go.Proofs.YtlkofpbdpplfkaaGreatDoor
open Go.Vc Go.RowKit Go.Sei
def cmp8 (x y:UInt8):Int:=if x.toNat<y.toNat then -1 else if y.toNat<x.toNat then 1 else 0
def cmpL:List UInt8->List UInt8->Int
 | [],[]=>0
 | [],_::_ => -1
 | _::_,[]=>1
 | x::r,y::s=>if x=y then cmpL r s else cmp8 x y
def zaH:Enc UInt8:=⟨fun b=>[u8 b],1,fun _=>rfl,by decide,fun a u hu=>by
 simp only [List.mem_cons,List.not_mem_nil,or_false] at hu;subst hu;rfl⟩
theorem zmK {w:World} {p:Option Addr} {l:List UInt8} (h:SlR zaH w p l) {k:Nat} (hk:k<l.length):∃ b o,p=some ⟨b,o,none⟩/\b<w.heap.size/\w.cell? ⟨b,o+k*1,none⟩=some (u8 l[k]):=by
 obtain⟨b,o,rfl,hb,hc⟩:=h.at hk;exact⟨b,o,rfl,hb,zbW (hc k hk)⟩
theorem zh7:∀ (l1 l2:List UInt8) (k:Nat),k<=l1.length->k<=l2.length->l1.take k=l2.take k->cmpL l1 l2=cmpL (l1.drop k) (l2.drop k)
 | l1,l2,0,_,_,_=>by simp
 | [],_,k+1,h,_,_=>by simp at h
 | _::_,[],k+1,_,h,_=>by simp at h
 | x::r,y::s,k+1,h1,h2,h3=>by
  simp at h1 h2 h3;rw [cmpL,if_pos h3.1,List.drop_succ_cons,List.drop_succ_cons];exact zh7 r s k h1 h2 h3.2
theorem zmE {x y:UInt8} (h:x≠y):cmp8 x y≠0:=by
 have:x.toNat≠y.toNat:=fun e=>h (UInt8.toNat_inj.1 e);unfold cmp8;split
 ·decide
 ·split
  ·decide
  ·omega
theorem zmD (x:UInt8):cmp8 x x=0:=by simp [cmp8]
theorem zqc {x y:UInt8}:cmp8 x y<0↔x.toNat<y.toNat:=by
 unfold cmp8;split
 ·simp_all
 ·split
  ·simp;omega
  ·simp;omega
theorem zfY:∀ l,cmpL l l=0
 | []=>rfl
 | x::r=>by rw [cmpL,if_pos rfl];exact zfY r
theorem zcD {x y:UInt8} {r s:List UInt8}:cmpL (x::r) (y::s)<0↔x.toNat<y.toNat\/(x=y/\cmpL r s<0):=by
 rw [cmpL];split
 ·rename_i h;subst h;simp
 ·rename_i h;rw [zqc];simp [h]
theorem zeL:∀ l1 l2,cmpL l1 l2<0\/cmpL l2 l1<0\/l1=l2
 | [],[]=>by simp
 | [],_::_ => .inl (by simp [cmpL])
 | _::_,[] => .inr (.inl (by simp [cmpL]))
 | x::r,y::s=>by
  rw [zcD,zcD];rcases Nat.lt_trichotomy x.toNat y.toNat with h | h | h
  ·exact .inl (.inl h)
  ·have e:x=y:=UInt8.toNat_inj.1 h;subst e;rcases zeL r s with h | h | h
   ·exact .inl (.inr ⟨rfl,h⟩)
   ·exact .inr (.inl (.inr ⟨rfl,h⟩))
   ·exact .inr (.inr (by rw [h]))
  ·exact .inr (.inl (.inl h))
theorem zgE:∀ l1 l2 l3,cmpL l1 l2<0->cmpL l2 l3<0->cmpL l1 l3<0
 | [],[],_,h,_=>by simp [cmpL] at h
 | _::_,[],_,h,_=>by simp [cmpL] at h
 | [],_::_,[],_,h=>by simp [cmpL] at h
 | [],_::_,_::_,_,_=>by simp [cmpL]
 | _::_,_::_,[],_,h=>by simp [cmpL] at h
 | x::r,y::s,z::t,h1,h2=>by
  rw [zcD] at *;rcases h1 with h1 | ⟨rfl,h1⟩
  ·rcases h2 with h2 | ⟨rfl,h2⟩
   ·exact .inl (by omega)
   ·exact .inl h1
  ·rcases h2 with h2 | ⟨rfl,h2⟩
   ·exact .inl h2
   ·exact .inr ⟨rfl,zgE r s t h1 h2⟩
theorem zjX:∀ {a b c d:List UInt8},a.length=b.length->cmpL (a++c) (b++d)=if a=b then cmpL c d else cmpL a b
 | [],[],_,_,_=>by simp
 | [],_::_,_,_,h=>by simp at h
 | _::_,[],_,_,h=>by simp at h
 | x::r,y::s,c,d,h=>by
  rw [List.cons_append,List.cons_append,cmpL,cmpL];by_cases hxy:x=y
  ·subst hxy;rw [if_pos rfl,if_pos rfl,zjX (by simpa using h)];by_cases hrs:r=s
   ·rw [if_pos hrs,if_pos (by rw [hrs])]
   ·rw [if_neg hrs,if_neg (fun e=>hrs (List.cons.inj e).2)]
  ·rw [if_neg hxy,if_neg hxy,if_neg (fun e=>hxy (List.cons.inj e).1)]
theorem zh6 {a b:List UInt8}:cmpL a b=0↔a=b:=by
 constructor
 ·intro h;rcases zeL a b with h1 | h1 | h1
  ·omega
  ·have h2:cmpL a b<0\/¬ cmpL a b<0:=Decidable.em _
   exfalso
   clear h2
   revert h1 h
   induction a generalizing b with
   | nil=>cases b with
    | nil=>simp [cmpL]
    | cons y s=>simp [cmpL]
   | cons x r ih=>cases b with
    | nil=>simp [cmpL]
    | cons y s =>
     rw [cmpL,zcD];by_cases e:x=y
     ·subst e;rw [if_pos rfl];rintro h (h1 | ⟨_,h1⟩)
      ·omega
      ·exact ih h h1
     ·rw [if_neg e];exact fun h=>absurd h (zmE e)
  ·exact h1
 ·rintro rfl;exact zfY _
structure FinV where
 l:List UInt8
 len:l.length=38
 deriving DecidableEq
instance:Inhabited FinV:=⟨⟨List.replicate 38 0,by simp⟩⟩
theorem FinV.ext' {a b:FinV} (h:a.l=b.l):a=b:=by cases a;cases b;cases h;rfl
def finE:Enc FinV:=⟨fun f=>f.l.map u8,38,fun f=>by rw [List.length_map,f.len],by decide,fun f u hu=>by
 obtain⟨b,_,rfl⟩:=List.mem_map.1 hu;rfl⟩
def FinV.reg (f:FinV) (t r:Nat):UInt8:=f.l.getD (t*8+r) 0
def FinV.mem (f:FinV) (i:Nat):UInt8:=f.l.getD (32+i) 0
def ordF (a b:FinV):Int:=cmpL a.l b.l
def ltF (a b:FinV):Bool:=decide (ordF a b<0)
theorem zex (a:FinV):ltF a a=false:=decide_eq_false (by unfold ordF;rw [zfY];decide)
theorem zda {a b c:FinV} (h1:ltF a b=true) (h2:ltF b c=true):ltF a c=true:=decide_eq_true (zgE _ _ _ (dT h1) (dT h2))
theorem zeb (a b:FinV):ltF a b=true\/ltF b a=true\/a=b:=by
 rcases zeL a.l b.l with h | h | h
 ·exact .inl (decide_eq_true h)
 ·exact .inr (.inl (decide_eq_true h))
 ·exact .inr (.inr (FinV.ext' h))
theorem zg4 {a b:FinV} (h:ltF a b=true):ltF b a=false:=by
 cases h2:ltF b a with
 | false=>rfl
 | true=>have:=zda h h2;rw [zex] at this;cases this
def leF (a b:FinV):Bool := !ltF b a
theorem zhT (a b c:FinV) (h1:leF a b=true) (h2:leF b c=true):leF a c=true:=by
 unfold leF at *;rw [Bool.not_eq_true'] at *
 cases h:ltF c a with
 | false=>rfl
 | true =>
  rcases zeb a b with h3 | h3 | rfl
  ·have:=zda h h3;rw [this] at h2;cases h2
  ·rw [h3] at h1;cases h1
  ·rw [h] at h2;cases h2
theorem zlZ (a b:FinV):(leF a b||leF b a)=true:=by
 unfold leF
 cases h:ltF b a with
 | false=>rfl
 | true=>rw [zg4 h];rfl
def zeK:List FinV->List FinV
 | []=>[]
 | a::r=>match zeK r with
  | []=>[a]
  | b::s=>if a=b then b::s else a::b::s
def srtF (l:List FinV):List FinV:=l.mergeSort leF
def zcE (l:List FinV):List FinV:=zeK (srtF l)
abbrev Inc (l:List FinV):Prop:=l.Pairwise fun a b=>ltF a b=true
theorem zhi {x:FinV}:∀ {l:List FinV},x∈zeK l↔x∈l
 | []=>Iff.rfl
 | a::r=>by
  have ih:=zhi (x:=x) (l:=r);unfold zeK
  cases h:zeK r with
  | nil=>rw [h] at ih;simp only [List.mem_cons,<- ih]
  | cons b s =>
   rw [h] at ih;dsimp only
   split
   ·rename_i e;subst e;rw [List.mem_cons,List.mem_cons,<- ih,List.mem_cons];constructor
    ·exact fun h => .inr h
    ·rintro (h | h)
     ·exact .inl h
     ·exact h
   ·rw [List.mem_cons,ih,List.mem_cons]
theorem zjV:∀ {l:List FinV},l.Pairwise (fun a b=>leF a b=true)->Inc (zeK l)
 | [],_=>List.Pairwise.nil
 | a::r,h=>by
  obtain⟨h1,h2⟩:=List.pairwise_cons.1 h;have ih:=zjV h2;have hm:=fun x=>zhi (x:=x) (l:=r);unfold zeK
  cases e:zeK r with
  | nil=>exact List.pairwise_singleton _ _
  | cons b s =>
   rw [e] at ih hm;dsimp only
   split
   ·exact ih
   ·rename_i hab;refine List.pairwise_cons.2 ⟨fun x hx=>?_,ih⟩;have hb:=h1 b ((hm b).1 (List.mem_cons_self ..));have hlt:ltF a b=true:=by
     unfold leF at hb;rw [Bool.not_eq_true'] at hb;rcases zeb a b with h | h | h
     ·exact h
     ·rw [h] at hb;cases hb
     ·exact absurd h hab
    rcases List.mem_cons.1 hx with rfl | hx
    ·exact hlt
    ·exact zda hlt ((List.pairwise_cons.1 ih).1 x hx)
theorem zil (l:List FinV):(srtF l).Pairwise (fun a b=>leF a b=true):=List.pairwise_mergeSort zhT zlZ l
theorem znh {x:FinV} {l:List FinV}:x∈srtF l↔x∈l:=(List.mergeSort_perm l leF).mem_iff
theorem zcm (l:List FinV):Inc (zcE l):=zjV (zil l)
theorem zcl {x:FinV} {l:List FinV}:x∈zcE l↔x∈l:=zhi.trans znh
theorem zdr:∀ {a b:List FinV},Inc a->Inc b->(∀ x,x∈a↔x∈b)->a=b
 | [],[],_,_,_=>rfl
 | [],y::s,_,_,h=>absurd ((h y).2 (List.mem_cons_self ..)) (by simp)
 | x::r,[],_,_,h=>absurd ((h x).1 (List.mem_cons_self ..)) (by simp)
 | x::r,y::s,ha,hb,h=>by
  obtain⟨a1,a2⟩:=List.pairwise_cons.1 ha;obtain⟨b1,b2⟩:=List.pairwise_cons.1 hb;have e:x=y:=by
   rcases List.mem_cons.1 ((h x).1 (List.mem_cons_self ..)) with e | hx
   ·exact e
   ·rcases List.mem_cons.1 ((h y).2 (List.mem_cons_self ..)) with e | hy
    ·exact e.symm
    ·have h1:=b1 x hx;have h2:=a1 y hy;rw [zg4 h1] at h2;cases h2
  subst e;have hr:r=s:=zdr a2 b2 fun z=>by
   constructor
   ·intro hz;rcases List.mem_cons.1 ((h z).1 (List.mem_cons_of_mem _ hz)) with e | hz2
    ·subst e;have:=a1 z hz;rw [zex] at this;cases this
    ·exact hz2
   ·intro hz;rcases List.mem_cons.1 ((h z).2 (List.mem_cons_of_mem _ hz)) with e | hz2
    ·subst e;have:=b1 z hz;rw [zex] at this;cases this
    ·exact hz2
  rw [hr]
theorem zhX {a:List FinV} (h:Inc a):a.Nodup:=h.imp fun hab e=>by subst e;rw [zex] at hab;cases hab
theorem zlh {a b:List FinV} (h:∀ x,x∈a↔x∈b):zcE a=zcE b:=zdr (zcm a) (zcm b) fun x=>by rw [zcl,zcl,h]
theorem zer {a:List FinV} (h:Inc a):zcE a=a:=zdr (zcm a) h fun x=>zcl
end Go.Proofs.YtlkofpbdpplfkaaGreatDoor
