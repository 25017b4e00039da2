/- Contracts of functions, and plain facts, for the law that the last text of this claim proves. -/
import Derived.CallsIn
import Derived.OrdersIn
import Derived.Below
import Derived.RangeFuncLeaves
import Derived.Laws.StructEq
import Derived.Laws.Rows
import Derived.RangeFuncSeq
import Derived.Deep.LoopGhost
import Derived.Laws.AppendOwn
import Derived.Maps.AppendAt
import Derived.Laws.AppendOwnNone
import Derived.KernelRfl
import Derived.Test.YtmbghmhjjodgmaaGreatDoorProg
import GoSem.Instr.MapEntry
import Derived.ChangeKeysEq
set_option linter.unusedSimpArgs false
set_option linter.unusedVariables false
namespace Go
open Go.RowKit
abbrev At0 (b:Nat):Value := .pointer (some ⟨b,0,none⟩)
theorem gE {α:Type _} {l:List α} {i:Nat} (h:i<l.length):l[i]?=some l[i]:=List.getElem?_eq_getElem h
theorem bAT (a b:Bool):((a&&b)=true)=(a=true/\b=true):=Bool.and_eq_true a b
theorem dE {p:Prop} [Decidable p]:(decide p=true)=p:=decide_eq_true_eq
theorem cmo {P:Program} {f:FuncId} {args:Array Value} {w:World} {R R':Ending->World->Prop} (h:Calls P f args w R) (k:∀ e w',R e w'->R' e w'):Calls P f args w R':=h.mono k
theorem nL {a b c:Nat} (h:a<b) (k:b<=c):a<c:=Nat.lt_of_lt_of_le h k
theorem wz (w:World) (o:Obj):(w.alloc o).heap.size=w.heap.size+1:=World.size_alloc w o
theorem lap {α:Type _} {a b:List α}:(a++b).length=a.length+b.length:=List.length_append
theorem tsg {α:Type _} {i:Nat} {l:List α} (h:i<l.length):l.take (i+1)=l.take i++[l[i]]:=List.take_succ_eq_append_getElem h
theorem gDe {α:Type _} {l:List α} {i:Nat} {a:α}:l.getD i a=(l[i]?).getD a:=List.getD_eq_getElem?_getD
theorem gM {α:Type _} {l:List α} {i:Nat} (h:i<l.length):l[i]∈l:=List.getElem_mem h
theorem zdc {n k:Nat} (h:k<n):n-(k+1)<n-k:=by omega
abbrev Bw (w X:World):Prop:=Below w.heap.size w X
theorem zst {w X Y:World} (a:Below w.heap.size w X) (b:Below X.heap.size X Y):Below w.heap.size w Y:=a.trans (b.mono a.size)
theorem zba (w:World) (o:Obj):Below w.heap.size w (w.alloc o):=(Below.refl _ w).alloc (Nat.le_refl _) _
theorem dT {p:Prop} [Decidable p] (h:decide p=true):p:=of_decide_eq_true h
theorem dF {p:Prop} [Decidable p] (h:decide p=false):¬ p:=of_decide_eq_false h
end Go
namespace Go.Vc
open Go.RowKit
def FR (r:Option Nat):Fence:={ fn:=fun _=>True,depth:=none,alive:=false,round:=r }
abbrev VEnv:=List (Nat×Value)
def VEnv.find:VEnv->Nat->Option Value
 | [],_=>none
 | (k,v)::r,t=>match Nat.beq k t with
  | true=>some v
  | false=>VEnv.find r t
structure Env where
 vs:VEnv
 ds:List Deferred:=[]
def Env.find (E:Env) (t:Nat):Option Value:=VEnv.find E.vs t
inductive TK where
 | other | bool | string | int (k:IntKind) | slice (e esz:Nat) | array (n e esz:Nat) (eagg:Bool) | struct (fs:List (Nat×Nat×Bool)) | map (k v:Nat) | ptr (e:Nat)
structure TI where
 kind:TK
 size:Nat
 agg:Bool
 bytes:Nat
 zero:Option (List Value)
abbrev TT:=List (Nat×TI)
def TT.get:TT->Nat->Option TI
 | [],_=>none
 | (k,v)::r,t=>match Nat.beq k t with
  | true=>some v
  | false=>TT.get r t
def zii (d:TypeDesc):Bool:=match d with | .struct _ | .array _ _=>true | _=>false
def zjg (P:Program) (t:Nat):Prop:=(∃ i,P.info? t=some i)/\∃ d,P.underlying t=some d
structure TIok (P:Program) (t:Nat) (i:TI):Prop where
 info:∃ inf,P.info? t=some inf/\inf.size=i.size/\inf.bytes=i.bytes/\∀ z,i.zero=some z->∃ v,inf.zero=some v/\v.cells.toList=z
 desc:∃ d,P.underlying t=some d/\zii d=i.agg /\
  match i.kind with
  | .other=>True
  | .bool=>d = .bool
  | .string=>d = .string
  | .int k=>d = .int k
  | .slice e esz=>d = .slice e/\P.cellsOf e=esz/\zjg P e
  | .array n e esz eagg=>d = .array n e/\P.cellsOf e=esz/\((P.underlying e).map zii).getD false=eagg/\zjg P e
  | .struct fs=>∃ F:Array Field,d = .struct F/\fs=F.toList.map (fun f=>(f.offset,P.cellsOf f.type,((P.underlying f.type).map zii).getD false))/\∀ f∈F.toList,zjg P f.type
  | .map k v=>d = .map k v
  | .ptr e=>d = .pointer e
def zm5 (g:Nat):List Nat->Bool
 | []=>true
 | x::r=>match Nat.beq x g with
  | true=>false
  | false=>zm5 g r
structure Sig where
 P:Program
 τ:TT
 n:Nat
 lo:Nat
 hi:Nat
 r:Option Nat:=none
 no:List Nat:=[]
structure SigOk (S:Sig):Prop where
 ty:∀ t i,TT.get S.τ t=some i->TIok S.P t i
 call:∀ g,S.lo<=g->g<S.hi->zm5 g S.no=true->∀ args w,(callFunc g args).run S.P w = .ok (.enter g args) w
 mixed:S.P.follows .mixedOrders=true
structure Agrees (S:Sig) (a:Act) (E:Env):Prop where
 size:a.tmps.size=S.n
 defers:a.defers=E.ds
 val:∀ t v,Env.find E t=some v->a.tmps[t]?=some v
def opd (E:Env):Operand->Option Value
 | .tmp t=>Env.find E t
 | .const v=>some v
 | .global g=>some (.pointer (some ⟨g,0,none⟩))
 | .func f=>some (.func (.func f) #[] #[])
theorem Agrees.eval {S:Sig} {a:Act} {E:Env} (h:Agrees S a E) {x:Operand} {v:Value} (hx:opd E x=some v):a.eval x=v:=by
 cases x with
 | tmp t =>
  have:=h.val t v hx;simp [Act.eval,this]
 | const u=>simpa [opd,Act.eval] using hx
 | global g=>simpa [opd,Act.eval] using hx
 | func f=>simpa [opd,Act.eval] using hx
inductive CovL (E:VEnv):VEnv->Prop
 | nil:CovL E []
 | cons {t:Nat} {v:Value} {r:VEnv} (h:VEnv.find E t=some v) (k:CovL E r):CovL E ((t,v)::r)
structure Cov (E E0:Env):Prop where
 c:CovL E.vs E0.vs
 d:E.ds=E0.ds
theorem CovL.find {E E0:VEnv} (h:CovL E E0):∀ t v,VEnv.find E0 t=some v->VEnv.find E t=some v:=by
 induction h with
 | nil=>intro t v h;simp [VEnv.find] at h
 | @cons t u r h _ ih =>
  intro t' v hf;simp only [VEnv.find] at hf
  cases hb:Nat.beq t t' with
  | true =>
   rw [hb] at hf;have:t=t':=Nat.eq_of_beq_eq_true hb;subst this;simp only [Option.some.injEq] at hf;subst hf;exact h
  | false=>rw [hb] at hf;exact ih t' v hf
theorem Agrees.cov {S:Sig} {a:Act} {E E0:Env} (h:Agrees S a E) (c:Cov E E0):Agrees S a E0 :=
 ⟨h.size,h.defers.trans c.d,fun t v hf=>h.val t v (c.c.find t v hf)⟩
def setE (dst:Option Nat) (v:Value) (E:Env):Env:=match dst with | some d=>⟨(d,v)::E.vs,E.ds⟩ | none=>E
def zoM (n:Nat):Option Nat->Bool
 | none=>true
 | some d=>Nat.blt d n
theorem Agrees.put {S:Sig} {a:Act} {E:Env} (h:Agrees S a E) {dst:Option Nat} (hd:zoM S.n dst=true) (v:Value):Agrees S (a.put dst v) (setE dst v E):=by
 cases dst with
 | none=>exact h
 | some d =>
  have hd':d<S.n:=by simpa [zoM,Nat.blt_eq] using hd
  refine⟨by simp [Act.put,h.size],h.defers,fun t u hf=>?_⟩;simp only [setE,Env.find,VEnv.find] at hf
  cases hb:Nat.beq d t with
  | true =>
   rw [hb] at hf;have e:d=t:=Nat.eq_of_beq_eq_true hb;subst e;simp only [Option.some.injEq] at hf;subst hf;simp [Act.put,h.size,hd']
  | false =>
   rw [hb] at hf;have e:d≠t:=fun e=>by subst e;simp at hb
   have:=h.val t u hf;simp [Act.put,e,this]
def Ar (k:IntKind) (e:Int) (K:Value->Prop):Prop:=∃ r,k.wrap e=r/\K (.int k r)
def zax (w:World) (p:Addr) (vs:List Value):Prop:=∀ i v,vs[i]?=some v->w.cell? (p.add i)=some v
def SatR {α:Type} (r:Result α) (K:α->World->Prop):Prop:=∃ v w',r = .ok v w'/\K v w'
theorem SatR.mk {α:Type} {r:Result α} {K:α->World->Prop} {v:α} {w':World} (h:r = .ok v w') (k:K v w'):SatR r K:=⟨v,w',h,k⟩
def Br (b:Bool) (A B:Prop):Prop:=(b=true->A)/\(b=false->B)
def zr9 (P:Program) (d:TypeDesc):TK->Bool
 | .other=>true
 | .bool=>(match d with | .bool=>true | _=>false)
 | .string=>(match d with | .string=>true | _=>false)
 | .int k=>(match d with | .int k'=>decide (k'=k) | _=>false)
 | .slice e esz=>(match d with | .slice e'=>Nat.beq e' e&&Nat.beq (P.cellsOf e) esz&&(P.info? e).isSome&&(P.underlying e).isSome | _=>false)
 | .array n e esz eagg=>(match d with | .array n' e'=>Nat.beq n' n&&Nat.beq e' e&&Nat.beq (P.cellsOf e) esz&&(((P.underlying e).map zii).getD false == eagg)&&(P.info? e).isSome&&(P.underlying e).isSome | _=>false)
 | .struct fs=>(match d with
  | .struct F=>decide (fs=F.toList.map (fun f=>(f.offset,P.cellsOf f.type,((P.underlying f.type).map zii).getD false)))&&F.toList.all fun f=>(P.info? f.type).isSome&&(P.underlying f.type).isSome
  | _=>false)
 | .map k v=>(match d with | .map k' v'=>Nat.beq k' k&&Nat.beq v' v | _=>false)
 | .ptr e=>(match d with | .pointer e'=>Nat.beq e' e | _=>false)
def zq4 (P:Program) (t:Nat) (i:TI):Bool :=
 match P.underlying t with
 | some d=>(zii d == i.agg)&&zr9 P d i.kind
 | none=>false
theorem zbM {P:Program} {t:Nat} (h1:(P.info? t).isSome=true) (h2:(P.underlying t).isSome=true):zjg P t :=
 ⟨Option.isSome_iff_exists.1 h1,Option.isSome_iff_exists.1 h2⟩
theorem tiOk {P:Program} {t:Nat} {i:TI} (h1:(P.info? t).map (fun x=>(x.size,x.bytes))=some (i.size,i.bytes))
  (h2:∀ z,i.zero=some z->((P.info? t).bind (fun x=>x.zero)).map (fun v=>v.cells.toList)=some z) (h3:zq4 P t i=true):TIok P t i:=by
 obtain⟨inf,hi,he⟩:=Option.map_eq_some_iff.1 h1;simp only [Prod.mk.injEq] at he;refine⟨⟨inf,hi,he.1,he.2,fun z hz=>?_⟩,?_⟩
 ·have:=h2 z hz;rw [hi] at this;obtain⟨v,hv,hc⟩:=Option.map_eq_some_iff.1 this;exact⟨v,hv,hc⟩
 ·unfold zq4 at h3
  split at h3
  ·rename_i d hd;simp only [bAT,beq_iff_eq] at h3;refine⟨d,hd,h3.1,?_⟩;have h4:=h3.2;generalize i.kind=k at h4
   cases k <;> simp only [zr9] at h4
   case other=>trivial
   case bool=>split at h4 <;> simp_all
   case string=>split at h4 <;> simp_all
   case int k=>split at h4 <;> simp_all
   case slice e esz =>
    split at h4
    ·simp only [bAT] at h4;obtain⟨⟨⟨a,b⟩,c⟩,e⟩:=h4;exact⟨by rw [Nat.eq_of_beq_eq_true a],Nat.eq_of_beq_eq_true b,zbM c e⟩
    ·cases h4
   case array n e esz eagg =>
    split at h4
    ·simp only [bAT,beq_iff_eq] at h4;obtain⟨⟨⟨⟨⟨a,b⟩,c⟩,e⟩,f⟩,g⟩:=h4;have a':=Nat.eq_of_beq_eq_true a;have b':=Nat.eq_of_beq_eq_true b;subst a' b';exact⟨rfl,Nat.eq_of_beq_eq_true c,e,zbM f g⟩
    ·cases h4
   case struct fs =>
    split at h4
    ·rename_i F;simp only [bAT,dE,List.all_eq_true] at h4;exact⟨F,rfl,h4.1,fun f hf=>zbM (h4.2 f hf).1 (h4.2 f hf).2⟩
    ·cases h4
   case map k v =>
    split at h4
    ·simp only [bAT] at h4;rw [Nat.eq_of_beq_eq_true h4.1,Nat.eq_of_beq_eq_true h4.2]
    ·cases h4
   case ptr e =>
    split at h4
    ·rw [Nat.eq_of_beq_eq_true h4]
    ·cases h4
  ·cases h3
inductive TTok (P:Program):TT->Prop
 | nil:TTok P []
 | cons {t:Nat} {i:TI} {r:TT} (h:TIok P t i) (k:TTok P r):TTok P ((t,i)::r)
theorem TTok.get {P:Program}:∀ {τ:TT},TTok P τ->∀ t i,TT.get τ t=some i->TIok P t i
 | [],_,t,i,h=>by simp [TT.get] at h
 | (u,j)::r,.cons hj hr,t,i,h=>by
  simp only [TT.get] at h
  cases hb:Nat.beq u t with
  | true =>
   rw [hb] at h;simp only [Option.some.injEq] at h;have e:=Nat.eq_of_beq_eq_true hb;subst e h;exact hj
  | false=>rw [hb] at h;exact hr.get t i h
def zrm (P:Program) (lo hi:Nat) (no:List Nat):Bool :=
 (List.range (hi-lo)).all fun k=>match zm5 (lo+k) no with
  | false=>true
  | true=>match P.funcs[lo+k]? with
   | some fn => fn.name != "runtime.NumGoroutine" && fn.body.isSome
   | none=>false
theorem zsF {P:Program} {lo hi:Nat} {no:List Nat} (h:zrm P lo hi no=true):∀ g,lo<=g->g<hi->zm5 g no=true->∀ args w,(callFunc g args).run P w = .ok (.enter g args) w:=by
 intro g h1 h2 hn args w;simp only [zrm,List.all_eq_true,List.mem_range] at h;have h3:=h (g-lo) (by omega);rw [show lo+(g-lo)=g by omega,hn] at h3;dsimp only at h3
 split at h3
 ·rename_i fn hf;simp only [bAT,bne_iff_ne,ne_eq] at h3;simp [callFunc,hf,h3.1,Option.isSome_iff_ne_none.1 h3.2]
 ·cases h3
theorem nm {α:Sort _} (a:α):∃ x,x=a:=⟨a,rfl⟩
def cvFx (E:VEnv):VEnv->List (Option Value)
 | []=>[]
 | (t,_)::r=>VEnv.find E t::cvFx E r
def cvGx:VEnv->List (Option Value)
 | []=>[]
 | (_,v)::r=>some v::cvGx r
theorem cvLx {E:VEnv}:∀ {E0:VEnv},cvFx E E0=cvGx E0->CovL E E0
 | [],_ => .nil
 | (t,v)::r,h => .cons (List.head_eq_of_cons_eq h) (cvLx (List.tail_eq_of_cons_eq h))
theorem cvE {E E0:Env} (h:cvFx E.vs E0.vs=cvGx E0.vs) (d:E.ds=E0.ds):Cov E E0:=⟨cvLx h,d⟩
theorem biE {b:Bool} {A B:Prop} (h:b=true->A) (k:b=false->B):(b=true->A)/\(b=false->B):=⟨h,k⟩
end Go.Vc
namespace Go.Vc
open Go.RowKit
def za1 (E:Env) (x:Operand) (f:Value->Prop):Prop:=match opd E x with | some v=>f v | none=>False
def zjj (E:Env):List Operand->(List Value->Prop)->Prop
 | [],f=>f []
 | x::r,f=>za1 E x fun v=>zjj E r fun vs=>f (v::vs)
theorem zap {E:Env} {x:Operand} {f:Value->Prop} (h:za1 E x f):∃ v,opd E x=some v/\f v:=by
 unfold za1 at h
 split at h
 ·exact⟨_,by assumption,h⟩
 ·exact h.elim
theorem zcW {S:Sig} {E:Env}:∀ {l:List Operand} {f:List Value->Prop},zjj E l f->∃ vs,f vs/\∀ a,Agrees S a E->l.map a.eval=vs
 | [],f,h=>⟨[],h,fun _ _=>rfl⟩
 | x::r,f,h=>by
  obtain⟨v,hv,h⟩:=zap h;obtain⟨vs,hf,ha⟩:=zcW (S:=S) h;exact⟨v::vs,hf,fun a hag=>by simp only [List.map_cons,hag.eval hv,ha a hag]⟩
def zod (P:Program) (m:Sem Value) (K:Value->Prop):Prop:=∃ v,(∀ w,m.run P w = .ok v w)/\K v
def zjf (P:Program) (w:World) (m:Sem Value) (K:Value->Prop):Prop:=∃ v,(∀ w2,Bw w w2->m.run P w2 = .ok v w2)/\K v
def kEq (k k':IntKind):Bool:=decide (k=k')
def intE (op:BinOp) (k:IntKind) (a b:Int) (K:Value->Prop):Prop :=
 match op with
 | .lss=>K (.bool (decide (a<b)))
 | .leq=>K (.bool (decide (a<=b)))
 | .gtr=>K (.bool (decide (b<a)))
 | .geq=>K (.bool (decide (b<=a)))
 | .eql=>K (.bool (decide (a=b)))
 | .neq=>K (.bool (!decide (a=b)))
 | .add=>Ar k (a+b) K
 | .sub=>Ar k (a-b) K
 | .mul=>Ar k (a*b) K
 | .quo=>b≠0/\Ar k (a.tdiv b) K
 | .rem=>b≠0/\∃ r,a.tmod b=r/\K (.int k r)
 | .and=>∃ r,k.wrap ((BitVec.ofInt k.bits a&&&BitVec.ofInt k.bits b).toNat)=r/\K (.int k r)
 | .or=>∃ r,k.wrap ((BitVec.ofInt k.bits a|||BitVec.ofInt k.bits b).toNat)=r/\K (.int k r)
 | .xor=>∃ r,k.wrap ((BitVec.ofInt k.bits a ^^^ BitVec.ofInt k.bits b).toNat)=r/\K (.int k r)
 | .andNot=>∃ r,k.wrap ((BitVec.ofInt k.bits a &&& ~~~ BitVec.ofInt k.bits b).toNat)=r/\K (.int k r)
 | _=>False
def binE (P:Program) (op:BinOp) (T:TypeId) (x y:Operand) (vx vy:Value) (K:Value->Prop):Prop :=
 match vx,vy with
 | .int k a,.int k' b =>
  match op with
  | .shl=>0<=b/\Ar k (a*2^(min b.toNat k.bits)) K
  | .shr=>0<=b/\∃ r,a.fdiv (2^(min b.toNat k.bits))=r/\K (.int k r)
  | op=>match kEq k k' with
   | true=>intE op k a b K
   | false=>False
 | vx,vy=>zod P (do eqGuard op T x y vx vy;binOp op T vx vy) K
def zkO (o:Option TI) (f:Nat) (g:Nat->Nat->Bool->Prop):Prop :=
 match o with
 | some { kind := .struct fs,.. }=>(match fs[f]? with
  | some (off,sz,agg)=>g off sz agg
  | none=>False)
 | _=>False
def zlx (off sz:Nat) (agg:Bool) (cs:List Value) (K:Value->Prop):Prop :=
 match agg with
 | true=>K (.agg ((cs.drop off).take sz).toArray)
 | false=>match cs[off]? with
  | some v=>K v
  | none=>False
def idx (vi:Value) (n:Nat) (g:Nat->Prop):Prop :=
 match vi with
 | .int _ i=>∃ j:Nat,(j:Int)=i/\j<n/\g j
 | _=>False
def zfx (o:Option TI) (vx vi:Value) (K:Value->Prop):Prop :=
 match o with
 | some { kind := .slice _ esz,.. }=>(match vx with
  | .slice (some ⟨b,o,none⟩) len _=>idx vi len fun j=>K (.pointer (some ⟨b,o+j*esz,none⟩))
  | _=>False)
 | some { kind := .array n _ esz _,.. }=>(match vx with
  | .pointer (some ⟨b,o,none⟩)=>idx vi n fun j=>K (.pointer (some ⟨b,o+j*esz,none⟩))
  | _=>False)
 | _=>False
def bnd (o:Option Value) (dflt top:Nat) (g:Nat->Prop):Prop :=
 match o with
 | none=>g dflt
 | some (.int _ i)=>∃ j:Nat,(j:Int)=i/\j<=top/\g j
 | some _=>False
def zbt (base:Option Addr) (m l esz:Nat):Option Addr:=if m=l then base else base.map (·.add (l*esz))
def zmt (o:Option TI) (vx:Value) (lo hi:Option Value) (K:Value->Prop):Prop :=
 match o with
 | some { kind := .slice _ esz,.. }=>(match vx with
  | .slice base len cap=>bnd hi len cap fun h=>bnd lo 0 h fun l=>K (.slice (zbt base cap l esz) (h-l) (cap-l))
  | _=>False)
 | some { kind := .array n _ esz _,.. }=>(match vx with
  | .pointer (some a)=>bnd hi n n fun h=>bnd lo 0 h fun l=>K (.slice (zbt (some a) n l esz) (h-l) (n-l))
  | _=>False)
 | some { kind := .string,.. }=>(match vx with
  | .string s=>bnd hi s.size s.size fun h=>bnd lo 0 h fun l=>K (.string (s.extract l h))
  | _=>False)
 | _=>False
def zmc (E:Env) (o:Option Operand) (f:Option Value->Prop):Prop :=
 match o with
 | none=>f none
 | some x=>za1 E x fun v=>f (some v)
def zjw (l:List Value) (off:Nat):List Value->List Value
 | []=>l
 | v::r=>zjw (l.set off v) (off+1) r
def zha (place:Nat->Option (Nat×Nat)) (cells:List Value):List (Nat×Value)->Option (List Value)
 | []=>some cells
 | (i,v)::rest=>match place i with
  | none=>none
  | some (off,sz)=>match Nat.beq v.cells.size sz&&Nat.ble (off+sz) cells.length with
   | true=>zha place (zjw cells off v.cells.toList) rest
   | false=>none
def zipN:List (Nat×Operand)->List Value->List (Nat×Value)
 | (i,_)::r,v::vs=>(i,v)::zipN r vs
 | _,_=>[]
def zku (fs:List (Nat×Nat×Bool)) (i:Nat):Option (Nat×Nat) :=
 match fs[i]? with
 | some (off,sz,_)=>some (off,sz)
 | none=>none
def zpP (o:Option TI) (ps:List (Nat×Operand)) (vs:List Value) (K:Value->Prop):Prop :=
 match o with
 | some { kind := .struct fs,zero:=some z,.. }=>∃ cells,zha (zku fs) z (zipN ps vs)=some cells/\K (.agg cells.toArray)
 | some { kind := .array _ _ esz _,zero:=some z,.. }=>∃ cells,zha (fun i=>some (i*esz,esz)) z (zipN ps vs)=some cells/\K (.agg cells.toArray)
 | _=>False
def zrep (z:List Value):Nat->List Value
 | 0=>[]
 | n+1=>z++zrep z n
def isN (op:Op):Bool :=
 match op with
 | .move _ | .assign _ | .pick .. | .binOp .. | .unOp .. | .field .. | .index .. | .fieldAddr .. | .indexAddr .. | .slice .. | .extract .. | .makeFunc .. | .nilCheck _ | .build .. => true
 | _=>false
def zqp (S:Sig) (E:Env) (op:Op) (w:World) (K:Value->Prop):Prop :=
 match op with
 | .move x=>za1 E x K
 | .assign x=>za1 E x K
 | .pick c a b=>za1 E c fun vc=>za1 E a fun va=>za1 E b fun vb=>(match vc with
  | .bool t=>K (match t with | true=>va | false=>vb)
  | _=>False)
 | .binOp op T x y _=>za1 E x fun vx=>za1 E y fun vy=>binE S.P op T x y vx vy K
 | .unOp op _ x=>za1 E x fun v=>(match op,v with
  | .not,.bool b=>K (.bool (!b))
  | .neg,.int k n=>Ar k (0-n) K
  | op,v=>zod S.P (Op.unary op v) K)
 | .convert s d x=>za1 E x fun v=>(match TT.get S.τ s,TT.get S.τ d,v with
  | some _,some { kind := .int k,.. },.int _ n=>Ar k n K
  | _,_,v=>zjf S.P w (convert s d v) K)
 | .field T x f=>za1 E x fun v=>zkO (TT.get S.τ T) f fun off sz agg=>(match v with
  | .agg cs=>zlx off sz agg cs.toList K
  | _=>False)
 | .index T x i=>za1 E x fun vx=>za1 E i fun vi=>(match TT.get S.τ T,vx with
  | some { kind := .array n _ esz eagg,.. },.agg cs=>idx vi n fun j=>zlx (j*esz) esz eagg cs.toList K
  | some { kind := .string,.. },.string s=>idx vi s.size fun j=>∃ u,s.data.toList[j]?=some u/\K (.int .u8 u.toNat)
  | _,_=>False)
 | .fieldAddr T x f=>za1 E x fun v=>zkO (TT.get S.τ T) f fun off sz _=>(match Nat.beq sz 0 with
  | true=>False
  | false=>(match v with
   | .pointer (some ⟨b,o,none⟩)=>K (.pointer (some ⟨b,o+off,none⟩))
   | _=>False))
 | .indexAddr T x i=>za1 E x fun vx=>za1 E i fun vi=>zfx (TT.get S.τ T) vx vi K
 | .slice T x lo hi mx=>za1 E x fun vx=>zmc E lo fun l=>zmc E hi fun h=>(match mx with
  | none=>zmt (TT.get S.τ T) vx l h K
  | some _=>False)
 | .lookup T x i ok=>za1 E x fun vx=>za1 E i fun vi=>zjf S.P w (Instr.lookup T vx vi ok) K
 | .build T ps=>zjj E (ps.toList.map (·.2)) fun vs=>zpP (TT.get S.τ T) ps.toList vs K
 | .extract t i=>za1 E t fun v=>(match v with
  | .tuple vs=>(match vs.toList[i]? with
   | some u=>K u
   | none=>False)
  | _=>False)
 | .makeFunc fn first captured=>zjj E first.toList fun fs=>zjj E captured.toList fun cs=>K (.func fn fs.toArray cs.toArray)
 | .nilCheck x=>za1 E x fun v=>(match v with
  | .pointer (some a)=>K (.pointer (some a))
  | .func (.func f) a b=>K (.func (.func f) a b)
  | _=>False)
 | .load T a=>za1 E a fun v=>(match v with
  | .pointer (some p)=>(match TT.get S.τ T with
   | some { agg:=true,size:=sz,.. }=>∃ vs:List Value,vs.length=sz/\zax w p vs/\(p.block<w.heap.size)/\K (.agg vs.toArray)
   | some { agg:=false,.. }=>∃ u,w.cell? p=some u/\K u
   | none=>False)
  | _=>False)
 | .call c=>(match c.callee with
  | .builtin .len=>(match c.args.toList,c.argTypes.toList with
   | [x],[T]=>za1 E x fun v=>(match TT.get S.τ T,v with
    | some { kind := .slice _ _,.. },.slice _ n _=>K (.int .i64 n)
    | some { kind := .string,.. },.string s=>K (.int .i64 s.size)
    | some { kind := .array n _ _ _,.. },_=>K (.int .i64 n)
    | _,_=>False)
   | _,_=>False)
  | _=>False)
 | _=>False
section
variable {P:Program} {w:World}
theorem zdk (b o:Nat) (j:Nat):(⟨b,o,none⟩:Addr).add j=⟨b,o+j,none⟩:=by
 unfold Addr.add;split <;> simp_all
theorem zoW {op:BinOp} {k:IntKind} {a b:Int} {K:Value->Prop} (T:TypeId) (x y:Operand) (h1:op ≠ .shl) (h2:op ≠ .shr) (h:intE op k a b K) :
  ∃ v,K v/\∀ w,(do eqGuard op T x y (.int k a) (.int k b);binOp op T (.int k a) (.int k b):Sem Value).run P w = .ok v w:=by
 have hg:∀ w,(eqGuard op T x y (.int k a) (.int k b)).run P w = .ok () w:=by
  intro w;unfold eqGuard;cases op <;> simp
 have hb:∀ v,(∀ w,(binOp op T (.int k a) (.int k b)).run P w = .ok v w)->∀ w,(do eqGuard op T x y (.int k a) (.int k b);binOp op T (.int k a) (.int k b):Sem Value).run P w = .ok v w:=by
  intro v hv w;rw [Sem.run_bind,hg w,Result.andThen_ok,hv w]
 cases op <;> simp only [intE] at h
 case lss=>exact⟨_,h,hb _ fun w=>by simp [binOp,Op.intCmp]⟩
 case leq=>exact⟨_,h,hb _ fun w=>by simp [binOp,Op.intCmp]⟩
 case gtr=>exact⟨_,h,hb _ fun w=>by simp [binOp,Op.intCmp]⟩
 case geq=>exact⟨_,h,hb _ fun w=>by simp [binOp,Op.intCmp]⟩
 case eql=>exact⟨_,h,hb _ fun w=>by simp [binOp,Op.intCmp];rfl⟩
 case neq=>exact⟨_,h,hb _ fun w=>by simp [binOp,Op.intCmp];rfl⟩
 case add=>obtain⟨r,e,hk⟩:=h;exact⟨_,hk,hb _ fun w=>by simp [binOp,Op.intArith,e]⟩
 case sub=>obtain⟨r,e,hk⟩:=h;exact⟨_,hk,hb _ fun w=>by simp [binOp,Op.intArith,e]⟩
 case mul=>obtain⟨r,e,hk⟩:=h;exact⟨_,hk,hb _ fun w=>by simp [binOp,Op.intArith,e]⟩
 case quo=>obtain⟨h0,r,e,hk⟩:=h;exact⟨_,hk,hb _ fun w=>by simp [binOp,Op.intDiv,e,h0]⟩
 case rem=>obtain⟨h0,r,e,hk⟩:=h;exact⟨_,hk,hb _ fun w=>by simp [binOp,Op.intDiv,e,h0]⟩
 case and=>obtain⟨r,e,hk⟩:=h;exact⟨_,hk,hb _ fun w=>by simp only [binOp,ne_eq,not_true_eq_false,if_false,Op.intBits,Sem.run_pure,e]⟩
 case or=>obtain⟨r,e,hk⟩:=h;exact⟨_,hk,hb _ fun w=>by simp only [binOp,ne_eq,not_true_eq_false,if_false,Op.intBits,Sem.run_pure,e]⟩
 case xor=>obtain⟨r,e,hk⟩:=h;exact⟨_,hk,hb _ fun w=>by simp only [binOp,ne_eq,not_true_eq_false,if_false,Op.intBits,Sem.run_pure,e]⟩
 case andNot=>obtain⟨r,e,hk⟩:=h;exact⟨_,hk,hb _ fun w=>by simp only [binOp,ne_eq,not_true_eq_false,if_false,Op.intBits,Sem.run_pure,e]⟩
theorem zpe {op:BinOp} {T:TypeId} {x y:Operand} {vx vy:Value} {K:Value->Prop} (h:binE P op T x y vx vy K) :
  ∃ v,K v/\∀ w,(do eqGuard op T x y vx vy;binOp op T vx vy:Sem Value).run P w = .ok v w:=by
 unfold binE at h
 split at h
 ·rename_i k a k' b
  split at h
  ·obtain⟨h0,r,e,hk⟩:=h;exact⟨_,hk,fun w=>by simp [eqGuard,binOp,Op.shift,e,Int.not_lt.2 h0]⟩
  ·obtain⟨h0,r,e,hk⟩:=h;exact⟨_,hk,fun w=>by simp [eqGuard,binOp,Op.shift,e,Int.not_lt.2 h0]⟩
  ·rename_i n1 n2
   split at h
   ·rename_i hk;have:k=k':=(by simpa [kEq] using hk);subst this;exact zoW T x y n1 n2 h
   ·exact h.elim
 ·obtain⟨v,hv,hk⟩:=h;exact⟨v,hk,hv⟩
theorem ziI {off sz:Nat} {agg:Bool} {cs:Array Value} {K:Value->Prop} {t:TypeId} (h:zlx off sz agg cs.toList K)
  (ha:((P.underlying t).map zii).getD false=agg) (hs:P.cellsOf t=sz) (hn:zjg P t) :
  ∃ v,K v/\∀ w,(part t cs off).run P w = .ok v w:=by
 obtain⟨⟨i,hi⟩,d,hd⟩:=hn;have hagg:∀ w,(isAgg t).run P w = .ok agg w:=by
  intro w;rw [hd] at ha;simp only [Option.map_some,Option.getD_some] at ha;simp only [isAgg,Sem.run_bind,run_underlying hd,Result.andThen_ok];rw [<- ha]
  cases d <;> rfl
 have hsz:∀ w,(sizeOf t).run P w = .ok sz w:=by
  intro w;rw [<- hs];simp [sizeOf,typeInfo,hi,Program.cellsOf]
 unfold zlx at h
 split at h
 ·refine⟨_,h,fun w=>?_⟩;simp only [part,Sem.run_bind,hagg w,Result.andThen_ok,if_true,hsz w,Sem.run_pure];congr 2;apply Array.toList_inj.1;simp [Array.toList_extract,List.extract_eq_take_drop]
 ·split at h
  ·rename_i v hv;refine⟨_,h,fun w=>?_⟩;have hv':cs[off]?=some v:=by simpa using hv
   simp only [part,Sem.run_bind,hagg w,Result.andThen_ok,hv',Bool.false_eq_true,if_false,Sem.run_pure]
  ·exact h.elim
theorem zcT {t:TypeId} {sz:Nat} (hn:zjg P t) (hs:P.cellsOf t=sz):∀ w,(sizeOf t).run P w = .ok sz w:=by
 intro w;obtain⟨⟨i,hi⟩,_⟩:=hn;rw [<- hs];simp [sizeOf,typeInfo,hi,Program.cellsOf]
theorem znZ {o:Option Value} {top dflt:Nat} {code:BoundsCode} {g:Nat->Prop} (h:bnd o dflt top g) :
  ∃ j,g j/\j<=(match o with | none=>dflt | some _=>top)/\∀ w,(match o with | some v=>Instr.sliceBound v top code | none=>pure dflt:Sem Nat).run P w = .ok j w:=by
 unfold bnd at h
 split at h
 ·exact⟨dflt,h,Nat.le_refl _,fun w=>rfl⟩
 ·rename_i k i;obtain⟨j,rfl,hj,hg⟩:=h;refine⟨j,hg,hj,fun w=>?_⟩;have h1:(0:Int)<=(j:Int)/\(j:Int)<=(top:Int):=⟨by omega,by omega⟩;simp [Instr.sliceBound,asIntOf,h1]
 ·exact h.elim
theorem zc2 {isSlice:Bool} {len cap:Nat} {lo hi:Option Value} {g:Nat->Nat->Prop} (h:bnd hi len cap fun h=>bnd lo 0 h fun l=>g h l) :
  ∃ l h,g h l/\∀ w,(Instr.sliceBounds isSlice len cap lo hi none).run P w = .ok (l,h,cap) w:=by
 obtain⟨hh,h2,_,r1⟩:=znZ (P:=P) (code:=if isSlice then .sliceAcap else .sliceAlen) h;obtain⟨l,h3,_,r2⟩:=znZ (P:=P) (code := .sliceB) h2;refine⟨l,hh,h3,fun w=>?_⟩;have e1:=r1 w;have e2:=r2 w;unfold Instr.sliceBounds
 cases hi <;> cases lo <;> simp_all
theorem zkq (off:Nat):∀ (vs:List Value) (j:Nat) (l:List Value),((vs.toArray.zipIdx j).foldl (fun cs (c,j)=>cs.setIfInBounds (off+j) c) l.toArray)=(zjw l (off+j) vs).toArray
 | [],j,l=>by rw [<- Array.foldl_toList];simp [zjw]
 | v::r,j,l=>by
  have ih:=zkq off r (j+1) (l.set (off+j) v);simp only [zjw];rw [<- Nat.add_assoc] at ih;rw [<- ih,<- Array.foldl_toList,<- Array.foldl_toList];simp
theorem zf3 {place:Nat->Option (Nat×Nat)}:∀ (parts:List (Nat×Value)) (cells out:List Value),zha place cells parts=some out->Instr.fill place cells.toArray parts=some out.toArray
 | [],cells,out,h=>by simp only [zha,Option.some.injEq] at h;subst h;rfl
 | (i,v)::r,cells,out,h=>by
  simp only [zha] at h
  split at h
  ·cases h
  ·rename_i off sz hp
   split at h
   ·rename_i hc;simp only [bAT,Nat.ble_eq] at hc;have h1:=Nat.eq_of_beq_eq_true hc.1;have ih:=zf3 r _ out h;have e:=zkq off v.cells.toList 0 cells;simp only [Nat.add_zero] at e;simp only [Instr.fill,hp,h1,ne_eq,not_true_eq_false,decide_false,Bool.false_or,List.size_toArray,dE,gt_iff_lt];rw [if_neg (by omega),<- ih];congr 1
   ·cases h
theorem zhE (z:List Value):∀ n,(zrep z n).length=n*z.length
 | 0=>by simp [zrep]
 | n+1=>by simp only [zrep,lap,zhE z n,Nat.add_mul];omega
theorem zka (z:List Value) (hz:0<z.length):∀ (n i:Nat),i<n*z.length->(zrep z n)[i]?=z[i%z.length]?
 | 0,i,h=>by omega
 | n+1,i,h=>by
  simp only [zrep,List.getElem?_append]
  split
  ·rename_i hi;rw [Nat.mod_eq_of_lt hi]
  ·rename_i hi;rw [Nat.add_mul] at h;rw [zka z hz n (i-z.length) (by omega)];rw [show i%z.length=(i-z.length)%z.length from Nat.mod_eq_sub_mod (by omega)]
theorem zl5 (z:List Value) (hz:0<z.length) (n:Nat):((Array.range (n*z.length)).map (z.toArray[· % z.toArray.size]!))=(zrep z n).toArray:=by
 apply Array.ext
 ·simp [zhE]
 ·intro i h1 h2;have h1':i<n*z.length:=by simpa using h1
  have hm:i%z.length<z.length:=Nat.mod_lt _ hz;have:=zka z hz n i h1';rw [gE hm] at this;simp only [Array.getElem_map,Array.getElem_range,List.size_toArray,List.getElem_toArray];have h3:(zrep z n)[i]?=some (zrep z n)[i]:=gE (by simpa using h2);rw [h3] at this;simp only [Option.some.injEq] at this;rw [this,getElem!_pos _ _ (by simpa using hm)];rfl
end
theorem zem {w w2:World} (hb:Bw w w2) {p:Addr} {u:Value} (h:w.cell? p=some u):w2.cell? p=some u :=
 (hb.cell (World.block_lt_of_cell? w p h)).trans h
theorem zf1 {vi:Value} {n:Nat} {g:Nat->Prop} (h:idx vi n g):∃ k j,vi = .int k (j:Nat)/\j<n/\g j:=by
 unfold idx at h
 split at h
 ·rename_i k i;obtain⟨j,rfl,hj,hg⟩:=h;exact⟨k,j,rfl,hj,hg⟩
 ·exact h.elim
theorem zgC {P:Program} {w:World} {T:Nat} {i:TI} (ht:TIok P T i) (ha:i.agg=true) {p:Addr} {vs:List Value} (hl:vs.length=i.size) (hc:zax w p vs) :
  (loadVar T p).run P w = .ok (.agg vs.toArray) w:=by
 obtain⟨⟨inf,hi,hs,_,_⟩,d,hd,hda,_⟩:=ht;have hagg:(isAgg T).run P w = .ok true w:=by
  simp only [isAgg,Sem.run_bind,run_underlying hd,Result.andThen_ok];rw [<- ha,<- hda];cases d <;> rfl
 have hsz:(sizeOf T).run P w = .ok vs.length w:=by
  rw [hl,<- hs];simp [sizeOf,typeInfo,hi]
 have hld:=run_loadCells_list (P:=P) w p vs hc;simp only [loadVar,Sem.run_bind,hagg,Result.andThen_ok,if_true,hsz,hld,Sem.run_pure]
theorem zgB {P:Program} {w:World} {T:Nat} {i:TI} (ht:TIok P T i) (ha:i.agg=false) {p:Addr} {u:Value} (hc:w.cell? p=some u) :
  (loadVar T p).run P w = .ok u w:=by
 obtain⟨_,d,hd,hda,_⟩:=ht;have hagg:(isAgg T).run P w = .ok false w:=by
  simp only [isAgg,Sem.run_bind,run_underlying hd,Result.andThen_ok];rw [<- ha,<- hda];cases d <;> rfl
 simp only [loadVar,Sem.run_bind,hagg,Result.andThen_ok,Bool.false_eq_true,if_false,run_load,hc]
theorem zae {w w2:World} (hb:Bw w w2) {p:Addr} {vs:List Value} (h:zax w p vs):zax w2 p vs :=
 fun i v hv=>zem hb (h i v hv)
def zsN (S:Sig) (E:Env) (o:Oper) (w:World) (v:Value):Prop :=
 ∀ a,Agrees S a E->∀ w2,(isN o.op=true\/Bw w w2)->(execOp a.eval o).run S.P w2 = .ok (.value v) w2
theorem zg8 {S:Sig} (hS:SigOk S) {T:Nat} {vx vi:Value} {K:Value->Prop} (h:zfx (TT.get S.τ T) vx vi K) :
  ∃ v,K v/\∀ w,(Instr.indexAt T vx vi).run S.P w = .ok v w:=by
 unfold zfx at h
 split at h
 ·rename_i e esz _ _ _ _ ht;obtain⟨_,d,hd,_,hk⟩:=hS.ty _ _ ht;obtain⟨rfl,he,hn⟩:=hk
  split at h
  ·rename_i b o len cap;obtain⟨k,j,rfl,hj,hg⟩:=zf1 h;refine⟨_,hg,fun w=>?_⟩;simp [Instr.indexAt,asIntOf,run_underlying hd,zcT hn he,hj,zdk]
  ·exact h.elim
 ·rename_i n e esz eagg _ _ _ _ ht;obtain⟨_,d,hd,_,hk⟩:=hS.ty _ _ ht;obtain⟨rfl,he,_,hn⟩:=hk
  split at h
  ·rename_i b o;obtain⟨k,j,rfl,hj,hg⟩:=zf1 h;refine⟨_,hg,fun w=>?_⟩;simp [Instr.indexAt,asIntOf,run_underlying hd,zcT hn he,hj,zdk,Instr.sureAddr]
  ·exact h.elim
 ·exact h.elim
theorem zlk {S:Sig} (hS:SigOk S) {T:Nat} {vx:Value} {lo hi:Option Value} {K:Value->Prop} (h:zmt (TT.get S.τ T) vx lo hi K) :
  ∃ v,K v/\∀ w,(Instr.sliceAt T vx lo hi none).run S.P w = .ok v w:=by
 unfold zmt at h
 split at h
 ·rename_i e esz _ _ _ _ ht;obtain⟨_,d,hd,_,hk⟩:=hS.ty _ _ ht;obtain⟨rfl,he,hn⟩:=hk
  split at h
  ·rename_i base len cap;obtain⟨l,hh,hg,hr⟩:=zc2 (P:=S.P) (isSlice:=true) h;refine⟨_,hg,fun w=>?_⟩;simp only [Instr.sliceAt,Sem.run_bind,run_underlying hd,Result.andThen_ok,Instr.slice,hr w,zcT hn he w,Sem.run_pure,zbt]
  ·exact h.elim
 ·rename_i n e esz eagg _ _ _ _ ht;obtain⟨_,d,hd,_,hk⟩:=hS.ty _ _ ht;obtain⟨rfl,he,_,hn⟩:=hk
  split at h
  ·rename_i a;obtain⟨l,hh,hg,hr⟩:=zc2 (P:=S.P) (isSlice:=false) h;refine⟨_,hg,fun w=>?_⟩;simp only [Instr.sliceAt,Sem.run_bind,run_underlying hd,Result.andThen_ok,hr w,zcT hn he w,Sem.run_pure,Instr.sureAddr,zbt]
   split <;> simp_all
  ·exact h.elim
 ·rename_i _ _ _ _ ht;obtain⟨_,d,hd,_,hk⟩:=hS.ty _ _ ht;obtain rfl:=hk
  split at h
  ·rename_i s;obtain⟨l,hh,hg,hr⟩:=zc2 (P:=S.P) (isSlice:=false) h;refine⟨_,hg,fun w=>?_⟩;simp only [Instr.sliceAt,Sem.run_bind,run_underlying hd,Result.andThen_ok,Instr.slice,hr w,Sem.run_pure,Option.isSome_none,Bool.false_eq_true,if_false]
  ·exact h.elim
 ·exact h.elim
theorem zgO {S:Sig} (hS:SigOk S) {T f:Nat} {g:Nat->Nat->Bool->Prop} (h:zkO (TT.get S.τ T) f g) :
  ∃ (F:Array Field) (fd:Field),S.P.underlying T=some (.struct F)/\F[f]?=some fd/\g fd.offset (S.P.cellsOf fd.type) (((S.P.underlying fd.type).map zii).getD false)/\zjg S.P fd.type:=by
 unfold zkO at h
 split at h
 ·rename_i fs _ _ _ _ ht;obtain⟨_,d,hd,_,hk⟩:=hS.ty _ _ ht;obtain⟨F,rfl,rfl,hn⟩:=hk
  split at h
  ·rename_i off sz agg hf;rw [List.getElem?_map] at hf
   cases hF:F.toList[f]? with
   | none=>rw [hF] at hf;simp at hf
   | some fd =>
    rw [hF] at hf;simp only [Option.map_some,Option.some.injEq,Prod.mk.injEq] at hf;obtain⟨rfl,rfl,rfl⟩:=hf;exact⟨F,fd,hd,by simpa using hF,h,hn fd (List.mem_of_getElem? hF)⟩
  ·exact h.elim
 ·exact h.elim
theorem zgn {S:Sig} (hS:SigOk S) {E:Env} {o:Oper} {w:World} {K:Value->Prop} (h:zqp S E o.op w K):∃ v,K v/\zsN S E o w v:=by
 obtain⟨dst,op,type,pos,after,guard⟩:=o
 cases op <;> simp only [zqp] at h
 case move x =>
  obtain⟨v,hv,hk⟩:=zap h;exact⟨v,hk,fun a ha w2 _=>by simp [execOp,ha.eval hv]⟩
 case assign x =>
  obtain⟨v,hv,hk⟩:=zap h;exact⟨v,hk,fun a ha w2 _=>by simp [execOp,ha.eval hv]⟩
 case pick c x y =>
  replace h:=zap h;obtain⟨vc,hc,h⟩:=h;replace h:=zap h;obtain⟨va,hx,h⟩:=h;replace h:=zap h;obtain⟨vb,hy,h⟩:=h
  split at h
  ·rename_i t;refine⟨_,h,fun a ha w2 _=>?_⟩;simp only [execOp,ha.eval hc,ha.eval hx,ha.eval hy,asBool,Sem.run_bind,Sem.run_pure,Result.andThen_ok]
   cases t <;> rfl
  ·exact h.elim
 case binOp op T x y yt =>
  replace h:=zap h;obtain⟨vx,hx,h⟩:=h;replace h:=zap h;obtain⟨vy,hy,h⟩:=h;obtain⟨v,hk,hr⟩:=zpe h;refine⟨v,hk,fun a ha w2 _=>?_⟩;simp only [execOp,ha.eval hx,ha.eval hy];rw [Sem.run_bind,hr w2];rfl
 case unOp op T x =>
  replace h:=zap h;obtain⟨v,hv,h⟩:=h
  split at h
  ·exact⟨_,h,fun a ha w2 _=>by simp [execOp,ha.eval hv,Op.unary]⟩
  ·obtain⟨r,e,hk⟩:=h;exact⟨_,hk,fun a ha w2 _=>by simp only [Int.zero_sub] at e;simp [execOp,ha.eval hv,Op.unary,Op.intArith,e]⟩
  ·obtain⟨u,hu,hk⟩:=h;exact⟨u,hk,fun a ha w2 _=>by simp only [execOp,ha.eval hv];rw [Sem.run_bind,hu w2];rfl⟩
 case convert s d x =>
  replace h:=zap h;obtain⟨v,hv,h⟩:=h
  split at h
  ·rename_i hs hd;obtain⟨_,ds,hds,_⟩:=hS.ty _ _ hs;obtain⟨_,dd,hdd,_,hk⟩:=hS.ty _ _ hd;obtain rfl:=hk;obtain⟨r,e,hk⟩:=h;refine⟨_,hk,fun a ha w2 _=>?_⟩;simp only [execOp,ha.eval hv,Sem.run_bind,convert,run_underlying hds,run_underlying hdd,Result.andThen_ok,Conv.intToInt,Sem.run_pure,e]
  ·obtain⟨u,hu,hk⟩:=h;exact⟨u,hk,fun a ha w2 hb=>by simp only [execOp,ha.eval hv];rw [Sem.run_bind,hu w2 (hb.resolve_left (by simp [isN]))];rfl⟩
 case field T x f =>
  replace h:=zap h;obtain⟨v,hv,h⟩:=h;obtain⟨F,fd,hu,hf,h,hn⟩:=zgO hS h
  split at h
  ·rename_i cs;obtain⟨v',hk,hr⟩:=ziI h rfl rfl hn;refine⟨v',hk,fun a ha w2 _=>?_⟩;simp only [execOp,ha.eval hv,Sem.run_bind,Instr.field,run_underlying hu,Result.andThen_ok,hf,asAgg,Sem.run_pure,hr w2]
  ·exact h.elim
 case index T x i =>
  replace h:=zap h;obtain⟨vx,hx,h⟩:=h;replace h:=zap h;obtain⟨vi,hi,h⟩:=h
  split at h
  ·rename_i n e esz eagg _ _ _ _ cs ht;obtain⟨_,d,hd,_,hk⟩:=hS.ty _ _ ht;obtain⟨rfl,he,hag,hn⟩:=hk;obtain⟨k,j,rfl,hj,hg⟩:=zf1 h;obtain⟨v',hk,hr⟩:=ziI hg hag he hn;refine⟨v',hk,fun a ha w2 _=>?_⟩;have h1:(0:Int)<=(j:Int)/\(j:Int)<(n:Int):=⟨by omega,by omega⟩;simp only [execOp,ha.eval hx,ha.eval hi,Sem.run_bind,Instr.index,asIntOf,Sem.run_pure,run_underlying hd,Result.andThen_ok,h1,and_self,if_true,zcT hn he,Int.toNat_natCast,hr w2]
  ·rename_i s ht;obtain⟨_,d,hd,_,hk⟩:=hS.ty _ _ ht;obtain rfl:=hk;obtain⟨k,j,rfl,hj,u,hu,hg⟩:=zf1 h;refine⟨_,hg,fun a ha w2 _=>?_⟩;have hu':s[j]?=some u:=by
    have h2:s.data[j]?=some u:=(by simpa using hu);obtain⟨hlt,e⟩:=Array.getElem?_eq_some_iff.1 h2;rw [getElem?_pos s j hj];exact congrArg some e
   simp [execOp,ha.eval hx,ha.eval hi,Instr.index,asIntOf,run_underlying hd,hu']
  ·exact h.elim
 case fieldAddr T x f =>
  replace h:=zap h;obtain⟨v,hv,h⟩:=h;obtain⟨F,fd,hu,hf,h,hn⟩:=zgO hS h
  split at h
  ·exact h.elim
  ·rename_i hz;have hz':S.P.cellsOf fd.type≠0:=fun e=>by rw [e] at hz;simp at hz
   split at h
   ·rename_i b o;refine⟨_,h,fun a ha w2 _=>?_⟩;simp only [execOp,ha.eval hv,Sem.run_bind,Instr.fieldAt,run_underlying hu,Result.andThen_ok,hf,Sem.run_pure,Instr.sureAddr,fieldPlace,zcT hn rfl w2,hz',if_false,zdk]
   ·exact h.elim
 case indexAddr T x i =>
  replace h:=zap h;obtain⟨vx,hx,h⟩:=h;replace h:=zap h;obtain⟨vi,hi,h⟩:=h;obtain⟨v,hk,hr⟩:=zg8 hS h;exact⟨v,hk,fun a ha w2 _=>by simp only [execOp,ha.eval hx,ha.eval hi];rw [Sem.run_bind,hr w2];rfl⟩
 case slice T x lo hi mx =>
  replace h:=zap h;obtain⟨vx,hx,h⟩:=h;have oe:∀ {o:Option Operand} {f:Option Value->Prop},zmc E o f->∃ ov,f ov/\∀ a,Agrees S a E->o.map a.eval=ov:=by
   intro o f h
   cases o with
   | none=>exact⟨none,h,fun _ _=>rfl⟩
   | some x=>obtain⟨v,hv,hf⟩:=zap h;exact⟨some v,hf,fun a ha=>by simp [ha.eval hv]⟩
  obtain⟨l,h,hl⟩:=oe h;obtain⟨hh,h,hhh⟩:=oe h
  split at h
  ·obtain⟨v,hk,hr⟩:=zlk hS h;exact⟨v,hk,fun a ha w2 _=>by simp only [execOp,ha.eval hx,hl a ha,hhh a ha,Option.map_none];rw [Sem.run_bind,hr w2];rfl⟩
  ·exact h.elim
 case lookup T x i ok =>
  replace h:=zap h;obtain⟨vx,hx,h⟩:=h;replace h:=zap h;obtain⟨vi,hi,u,hu,hk⟩:=h;exact⟨u,hk,fun a ha w2 hb=>by simp only [execOp,ha.eval hx,ha.eval hi];rw [Sem.run_bind,hu w2 (hb.resolve_left (by simp [isN]))];rfl⟩
 case build T ps =>
  obtain⟨vs,h,hvs⟩:=zcW (S:=S) h;have e:∀ a,Agrees S a E->(ps.map fun (i,x)=>(i,a.eval x)).toList=zipN ps.toList vs:=fun a ha=>by
   rw [<- hvs a ha];simp only [Array.toList_map,List.map_map];generalize ps.toList=l
   induction l with
   | nil=>rfl
   | cons p r ih=>obtain⟨i,x⟩:=p;simp only [List.map_cons,Function.comp_apply,zipN,ih]
  unfold zpP at h
  split at h
  ·rename_i fs _ _ _ z ht;obtain⟨⟨inf,hi,_,_,hzz⟩,d,hd,_,hk⟩:=hS.ty _ _ ht;obtain⟨F,rfl,rfl,hkn⟩:=hk;obtain⟨zv,hzv,hzc⟩:=hzz z rfl;obtain⟨cells,hf,hk⟩:=h;refine⟨_,hk,fun a ha w2 _=>?_⟩;have hzr:(zeroValue T).run S.P w2 = .ok zv w2:=by simp [zeroValue,typeInfo,hi,hzv]
   have hpl:(F.mapM fun f=>do pure (f.offset,<- sizeOf f.type):Sem (Array (Nat×Nat))).run S.P w2 = .ok (F.map fun f=>(f.offset,S.P.cellsOf f.type)) w2:=by
    rw [Array.mapM_eq_mapM_toList,Sem.run_map];have key:∀ l:List Field,(∀ f∈l,zjg S.P f.type)->(l.mapM fun f=>do pure (f.offset,<- sizeOf f.type):Sem (List (Nat×Nat))).run S.P w2 = .ok (l.map fun f=>(f.offset,S.P.cellsOf f.type)) w2:=by
     intro l
     induction l with
     | nil=>intro _;rfl
     | cons f r ih =>
      intro hl;simp only [List.mapM_cons,Sem.run_bind,zcT (hl f List.mem_cons_self) rfl w2,Result.andThen_ok,Sem.run_pure,ih (fun g hg=>hl g (List.mem_cons_of_mem _ hg)),List.map_cons]
    rw [key F.toList hkn];simp only [Result.andThen_ok];congr 1;rw [<- Array.toList_inj];simp
   have hfl:=zf3 _ _ _ hf;have hplace:(fun i=>(F.map fun f=>(f.offset,S.P.cellsOf f.type))[i]?)=zku (F.toList.map fun f=>(f.offset,S.P.cellsOf f.type,((S.P.underlying f.type).map zii).getD false)):=by
    funext i;simp only [zku,List.getElem?_map,Array.getElem?_map,Array.getElem?_toList]
    cases F[i]? <;> rfl
   simp only [execOp,Sem.run_bind,Instr.build,hzr,Result.andThen_ok,run_underlying hd,hpl];rw [hplace,e a ha];have hz2:zv.cells=z.toArray:=by rw [<- hzc]
   rw [hz2,hfl];rfl
  ·rename_i n e0 esz eagg _ _ _ z ht;obtain⟨⟨inf,hi,_,_,hzz⟩,d,hd,_,hk⟩:=hS.ty _ _ ht;obtain⟨rfl,he,_,hkn⟩:=hk;obtain⟨zv,hzv,hzc⟩:=hzz z rfl;obtain⟨cells,hf,hk⟩:=h;refine⟨_,hk,fun a ha w2 _=>?_⟩;have hzr:(zeroValue T).run S.P w2 = .ok zv w2:=by simp [zeroValue,typeInfo,hi,hzv]
   have hfl:=zf3 _ _ _ hf;simp only [execOp,Sem.run_bind,Instr.build,hzr,Result.andThen_ok,run_underlying hd,zcT hkn he w2];rw [e a ha];have hz2:zv.cells=z.toArray:=by rw [<- hzc]
   rw [hz2,hfl];rfl
  ·exact h.elim
 case extract t i =>
  replace h:=zap h;obtain⟨v,hv,h⟩:=h
  split at h
  ·rename_i vs
   split at h
   ·rename_i u hu;refine⟨_,h,fun a ha w2 _=>?_⟩;have hu':vs[i]?=some u:=(by simpa using hu);simp [execOp,ha.eval hv,Instr.extract,hu']
   ·exact h.elim
  ·exact h.elim
 case makeFunc fn first captured =>
  obtain⟨fs,h,hf⟩:=zcW (S:=S) h;obtain⟨cs,h,hc⟩:=zcW (S:=S) h;refine⟨_,h,fun a ha w2 _=>?_⟩;have e1:first.map a.eval=fs.toArray:=by rw [<- hf a ha,<- Array.toList_map]
  have e2:captured.map a.eval=cs.toArray:=by rw [<- hc a ha,<- Array.toList_map]
  simp [execOp,Instr.makeFunc,e1,e2]
 case nilCheck x =>
  replace h:=zap h;obtain⟨v,hv,h⟩:=h
  split at h
  ·exact⟨_,h,fun a ha w2 _=>by simp [execOp,ha.eval hv]⟩
  ·exact⟨_,h,fun a ha w2 _=>by simp [execOp,ha.eval hv]⟩
  ·exact h.elim
 case load T x =>
  replace h:=zap h;obtain⟨v,hv,h⟩:=h
  split at h
  ·split at h
   ·rename_i sz _ _ ht;obtain⟨vs,hl,hc,_,hk⟩:=h;refine⟨_,hk,fun a ha w2 hb=>?_⟩;replace hb:=hb.resolve_left (by simp [isN]);simp only [execOp,ha.eval hv,Sem.run_bind,Instr.loadAt,Instr.sureAddr,Sem.run_pure,Result.andThen_ok,zgC (hS.ty _ _ ht) rfl hl (zae hb hc)]
   ·rename_i _ _ _ _ ht;obtain⟨u,hc,hk⟩:=h;refine⟨_,hk,fun a ha w2 hb=>?_⟩;replace hb:=hb.resolve_left (by simp [isN]);simp only [execOp,ha.eval hv,Sem.run_bind,Instr.loadAt,Instr.sureAddr,Sem.run_pure,Result.andThen_ok,zgB (hS.ty _ _ ht) rfl (zem hb hc)]
   ·exact h.elim
  ·exact h.elim
 case call c =>
  obtain⟨callee,args,argTypes⟩:=c
  split at h
  ·rename_i hc;dsimp only at hc;subst hc
   split at h
   ·rename_i x T hx hT;have ex:args = #[x]:=(by rw [<- Array.toList_inj];simpa using hx);have eT:argTypes = #[T]:=(by rw [<- Array.toList_inj];simpa using hT);subst ex eT;replace h:=zap h;obtain⟨v,hv,h⟩:=h
    split at h
    ·rename_i e esz _ _ _ _ a n c ht;obtain⟨_,d,hd,_,hk⟩:=hS.ty _ _ ht;obtain⟨rfl,_⟩:=hk;exact⟨_,h,fun a ha w2 _=>by simp [execOp,resolve,invoke,builtin,Builtin.len_,ha.eval hv,run_underlying hd,goInt]⟩
    ·rename_i _ _ _ _ s ht;obtain⟨_,d,hd,_,hk⟩:=hS.ty _ _ ht;obtain rfl:=hk;exact⟨_,h,fun a ha w2 _=>by simp [execOp,resolve,invoke,builtin,Builtin.len_,ha.eval hv,run_underlying hd,goInt]⟩
    ·rename_i n e esz eagg _ _ _ _ ht;obtain⟨_,d,hd,_,hk⟩:=hS.ty _ _ ht;obtain⟨rfl,_⟩:=hk;refine⟨_,h,fun a ha w2 _=>?_⟩;simp [execOp,resolve,invoke,builtin,Builtin.len_,ha.eval hv,run_underlying hd,goInt]
    ·exact h.elim
   ·exact h.elim
  ·exact h.elim
def NN:Nat:=1000
def CallR (P:Program) (g:Nat) (args:Array Value) (w:World) (K:Value->World->Prop) (KP:List PanicEntry->World->Prop):Prop :=
 Calls P g args w fun e w'=>match e with
  | .returned v=>K v w'
  | .panicked ch=>KP ch w'
  | .outgrown=>False
theorem CallR.mk {P:Program} {g:Nat} {args:Array Value} {w:World} {K:Value->World->Prop} {KP:List PanicEntry->World->Prop} {R:Ending->World->Prop}
  (h:Calls P g args w R) (k:∀ e w',R e w'->∃ v,e = .returned v/\K v w'):CallR P g args w K KP :=
 h.mono fun e w' r=>by obtain⟨v,rfl,hk⟩:=k e w' r;exact hk
def YieldR (P:Program) (l:Nat) (args:Array Value) (w:World) (K:Value->World->Prop):Prop :=
 YieldAt (FR none) (NN-1) P l args w fun e w'=>match e with
  | .returned v=>K v w'
  | _=>False
def zbP (S:Sig) (g:Nat):Bool:=Nat.ble S.lo g&&Nat.blt g S.hi&&zm5 g S.no
def zpb (S:Sig) (vf:Value) (vs:List Value) (w:World) (K:Value->World->Prop) (KP:List PanicEntry->World->Prop):Prop :=
 match vf with
 | .func (.func g) first captured=>(match zbP S g with
  | true=>CallR S.P g (first.toList++vs++captured.toList).toArray w K KP
  | false=>False)
 | .func (.yield l) first _=>YieldR S.P l (first.toList++vs).toArray w K
 | .func fn first captured=>∃ g args,(invoke (.fn fn captured) (first.toList++vs).toArray).run S.P w = .ok (.enter g args) w/\CallR S.P g args w K KP
 | _=>False
def zkX (S:Sig) (b:Builtin) (argTypes:Array TypeId) (type:TypeId) (vs:List Value) (w:World) (K:Value->World->Prop) (KP:List PanicEntry->World->Prop):Prop :=
 match b with
 | .append=>SatR ((Builtin.append_ argTypes type vs.toArray).run S.P w) K
 | .copy=>SatR ((Builtin.copy_ argTypes type vs.toArray).run S.P w) K
 | .cap=>SatR ((Builtin.cap_ argTypes type vs.toArray).run S.P w) K
 | .len=>SatR ((Builtin.len_ argTypes type vs.toArray).run S.P w) K
 | .min=>SatR ((Builtin.min_ argTypes type vs.toArray).run S.P w) K
 | .max=>SatR ((Builtin.max_ argTypes type vs.toArray).run S.P w) K
 | .delete=>SatR ((Builtin.delete_ argTypes type vs.toArray).run S.P w) K
 | .clear=>SatR ((Builtin.clear_ argTypes type vs.toArray).run S.P w) K
 | .panic=>∃ v w',(Instr.panic (vs.toArray.getD 0 .nilIface)).run S.P w = .halt (.panic v) w'/\KP [{ v,recovered:=false }] w'
 | _=>False
def effE (S:Sig) (E:Env) (o:Oper) (w:World) (K:Value->World->Prop) (KP:List PanicEntry->World->Prop):Prop :=
 match o.op with
 | .alloc T=>(match TT.get S.τ T with
  | some { zero:=some z,.. }=>K (.pointer (some ⟨w.heap.size,0,none⟩)) (w.alloc (.cells z.toArray T))
  | _=>False)
 | .box T x=>za1 E x fun v=>K (.pointer (some ⟨w.heap.size,0,none⟩)) (w.alloc (.cells v.cells T))
 | .buildSlice T n ps=>zjj E (ps.toList.map (·.2)) fun vs=>(match TT.get S.τ T with
  | some { kind := .slice e esz,.. }=>(match TT.get S.τ e with
   | some { zero:=some z,.. }=>(n*esz<=16777216/\0<esz/\z.length=esz)/\∃ cells:List Value,
     zha (fun i=>some (i*esz,esz)) (zrep z n) (zipN ps.toList vs)=some cells /\
     K (.slice (some ⟨w.heap.size,0,none⟩) n n) (w.alloc (.cells cells.toArray e))
   | _=>False)
  | _=>False)
 | .store T a x=>za1 E a fun va=>za1 E x fun vx=>(match va with
  | .pointer (some p)=>SatR ((storeVar T p vx).run S.P w) fun _ w'=>K undef w'
  | _=>False)
 | .makeSlice T l c=>za1 E l fun vl=>za1 E c fun vc=>SatR ((Instr.makeSlice T vl vc).run S.P w) K
 | .makeMap T r=>zmc E r fun vr=>SatR ((Instr.makeMap T vr).run S.P w) K
 | .makeInterface T x=>za1 E x fun v=>SatR ((Instr.makeInterface T v).run S.P w) K
 | .mapUpdate T m k x=>za1 E m fun vm=>za1 E k fun vk=>za1 E x fun vx=>SatR ((Instr.mapUpdate T vm vk vx).run S.P w) fun _ w'=>K undef w'
 | .insert T m k x=>za1 E m fun vm=>za1 E k fun vk=>za1 E x fun vx=>SatR ((Instr.mapUpdate T vm vk vx).run S.P w) fun _ w'=>K undef w'
 | .mapEntry T m k=>za1 E m fun vm=>za1 E k fun vk=>SatR ((Instr.mapEntry T vm vk).run S.P w) K
 | .entryStore T m s x=>za1 E m fun vm=>za1 E s fun vs=>za1 E x fun vx=>SatR ((Instr.entryStore T vm vs vx).run S.P w) fun _ w'=>K undef w'
 | .range T x=>za1 E x fun v=>SatR ((Instr.range T v).run S.P w) K
 | .next it s=>za1 E it fun v=>SatR ((Instr.next v s o.type).run S.P w) K
 | .entry it=>za1 E it fun v=>SatR ((Instr.entry v).run S.P w) K
 | .typeAssert x T a ok=>za1 E x fun v=>SatR ((Instr.typeAssert v T a ok).run S.P w) K
 | .nilCheck x=>za1 E x fun v=>SatR ((execOp (fun _=>v) { o with op := .nilCheck (.tmp 0) }).run S.P w) fun nx w'=>(match nx with
  | .value u=>K u w'
  | _=>False)
 | .panic x=>za1 E x fun v=>∃ u w',(Instr.panic v).run S.P w = .halt (.panic u) w'/\KP [{ v:=u,recovered:=false }] w'
 | .call c=>zjj E c.args.toList fun vs=>(match c.callee with
  | .value f=>za1 E f fun vf=>zpb S vf vs w K KP
  | .builtin b=>zkX S b c.argTypes o.type vs w K KP
  | .invoke r m=>za1 E r fun vr=>∃ g args,(callMethod vr m vs.toArray).run S.P w = .ok (.enter g args) w/\CallR S.P g args w K KP)
 | _=>False
theorem zel {P:Program} {r:Option Nat} {n g:Nat} {args:Array Value} {w:World} {R:Ending->World->Prop} (h:Calls P g args w R):CallsIn (FR r) n P g args w R:=by
 have h1:CallsIn Fence.wide n P g args w R:=callsIn_wide.2 h;exact⟨trivial,fun cs _=>h1.2 cs (room_wide _)⟩
theorem SatR.elim {α:Type} {r:Result α} {K:α->World->Prop} (h:SatR r K):∃ v w',r = .ok v w'/\K v w':=h
section
variable {S:Sig} {E:Env} {o:Oper} {w:World} {K:Value->World->Prop} {KP:List PanicEntry->World->Prop} {a:Act} {n:Nat}
 {next:Act->World->Prop} {Q:Exit->Act->World->Prop}
def UponE (S:Sig) (n:Nat) (o:Oper) (a:Act) (w:World) (next:Act->World->Prop) (Q:Exit->Act->World->Prop):Prop :=
 match (execOp a.eval o).run S.P w with
 | .ok (.value v) w'=>next (a.put o.dst v) w'
 | .ok .skip w'=>next (a.put o.dst undef) w'
 | .ok (.enter f args) w'=>CallsIn (FR S.r) (n-1) S.P f args w' fun
   | .returned v,w''=>next (a.put o.dst v) w''
   | .panicked chain,w''=>Q (.panic chain) a w''
   | .outgrown,_=>False
 | .ok (.round l f tmps assign body) w'=>RoundIn (FR S.r) (n-1) S.P l f tmps assign body w' fun
   | .returned v,w''=>next (a.put o.dst v) w''
   | .panicked chain,w''=>Q (.panic chain) a w''
   | .outgrown,_=>False
 | .halt (.panic v) w'=>Q (.panic [{ v,recovered:=false }]) a w'
 | _=>False
theorem UponE.wpIn (hd:∀ c,o.op ≠ .defer c) (h:UponE S n o a w next Q):o.wpIn (FR S.r) n S.P a w next Q:=by
 refine⟨fun _ _=>trivial,?_⟩;rw [Oper.semAt_eq _ _ _ hd];unfold UponE at h
 split at h
 case h_1 hr=>rw [hr];exact h
 case h_2 hr=>rw [hr];exact h
 case h_3 hr =>
  rw [hr,Oper.uponIn_enter];exact⟨fun h=>by simp [FR] at h,h.mono fun e w'' he=>by cases e <;> first | exact he | exact he.elim⟩
 case h_4 hr =>
  rw [hr,Oper.uponIn_round];exact⟨fun h=>by simp [FR] at h,h.mono fun e w'' he=>by cases e <;> first | exact he | exact he.elim⟩
 case h_5 hr=>rw [hr];exact h
 case h_6=>exact h.elim
theorem zaV {v:Value} {w':World} (_hd:∀ c,o.op ≠ .defer c) (hr:(execOp a.eval o).run S.P w = .ok (.value v) w') (hk:next (a.put o.dst v) w') :
  UponE S n o a w next Q:=by unfold UponE;rw [hr];exact hk
theorem zec {w':World} (_hd:∀ c,o.op ≠ .defer c) (hr:(execOp a.eval o).run S.P w = .ok .skip w') (hk:next (a.put o.dst undef) w') :
  UponE S n o a w next Q:=by unfold UponE;rw [hr];exact hk
theorem zhc {v:Value} {w':World} (_hd:∀ c,o.op ≠ .defer c) (hr:(execOp a.eval o).run S.P w = .halt (.panic v) w') (hk:Q (.panic [{ v,recovered:=false }]) a w') :
  UponE S n o a w next Q:=by unfold UponE;rw [hr];exact hk
theorem zfh {g:Nat} {args:Array Value} {w':World} (_hd:∀ c,o.op ≠ .defer c) (hr:(execOp a.eval o).run S.P w = .ok (.enter g args) w') (hc:CallR S.P g args w' K KP)
  (hn:∀ v w',K v w'->next (a.put o.dst v) w') (hp:∀ ch w',KP ch w'->Q (.panic ch) a w') :
  UponE S n o a w next Q:=by
 unfold UponE;rw [hr];refine zel (hc.mono fun e w'' he=>?_)
 cases e with
 | returned v=>exact hn _ _ he
 | panicked ch=>exact hp _ _ he
 | outgrown=>exact he.elim
theorem zdL {P:Program} {r r':Option Nat} {n n' l g:Nat} {tmps:Array Value} {assign body:Code} {w:World} {R:Ending->World->Prop} (h:RoundIn (FR r) n P l g tmps assign body w R) :
  RoundIn (FR r') n' P l g tmps assign body w R :=
 ⟨trivial,fun c cs _=>h.2 c cs (fun d hd=>by simp [FR] at hd)⟩
theorem zfz (hS:SigOk S) (h:effE S E o w K KP) (ha:Agrees S a E)
  (hn:∀ v w',K v w'->next (a.put o.dst v) w') (hp:∀ ch w',KP ch w'->Q (.panic ch) a w'):UponE S n o a w next Q:=by
 obtain⟨dst,op,type,pos,after,guard⟩:=o;have oe:∀ {o:Option Operand} {f:Option Value->Prop},zmc E o f->∃ ov,f ov/\o.map a.eval=ov:=by
  intro o f h
  cases o with
  | none=>exact⟨none,h,rfl⟩
  | some x=>obtain⟨v,hv,hf⟩:=zap h;exact⟨some v,hf,by simp [ha.eval hv]⟩
 cases op <;> simp only [effE] at h
 case alloc T =>
  split at h
  ·rename_i z ht;obtain⟨⟨inf,hi,_,_,hzz⟩,_⟩:=hS.ty _ _ ht;obtain⟨v,hz,hc⟩:=hzz z rfl;refine zaV (fun c=>by simp) ?_ (hn _ _ h);have hzv:(zeroValue T).run S.P w = .ok v w:=by simp [zeroValue,typeInfo,hi,hz]
   have e:v.cells=z.toArray:=by rw [<- hc]
   simp [execOp,Instr.alloc,hzv,newVar,newRow,newObj,Sem.run,e]
  ·exact h.elim
 case box T x =>
  obtain⟨v,hv,h'⟩:=zap h;refine zaV (fun c=>by simp) ?_ (hn _ _ h');simp [execOp,Instr.box,ha.eval hv,newVar,newRow,newObj,Sem.run]
 case buildSlice T k ps =>
  obtain⟨vs,h',hvs⟩:=zcW (S:=S) h;have e:(ps.map fun (i,x)=>(i,a.eval x)).toList=zipN ps.toList vs:=by
   rw [<- hvs a ha];simp only [Array.toList_map,List.map_map];generalize ps.toList=l
   induction l with
   | nil=>rfl
   | cons p r ih=>obtain⟨i,x⟩:=p;simp only [List.map_cons,Function.comp_apply,zipN,ih]
  split at h'
  ·rename_i e1 esz _ _ _ _ ht
   split at h'
   ·rename_i z hte;obtain⟨_,d,hd,_,hk⟩:=hS.ty _ _ ht;obtain⟨rfl,he,hkn⟩:=hk;obtain⟨⟨inf,hi,_,_,hzz⟩,_⟩:=hS.ty _ _ hte;obtain⟨v,hz,hc⟩:=hzz z rfl;obtain⟨⟨hle,hpos,hlen⟩,cells,hf,hk⟩:=h';have hf:=zf3 _ _ _ hf;subst hlen;rw [<- zl5 z hpos k] at hf;refine zaV (fun c=>by simp) ?_ (hn _ _ hk);have hzv:∀ w,(zeroValue e1).run S.P w = .ok v w:=(by intro w;simp [zeroValue,typeInfo,hi,hz]);have ec:v.cells=z.toArray:=(by rw [<- hc]);have hle':¬ (k*z.length > 2^24):=(by omega);simp only [execOp,Instr.buildSlice,Sem.run_bind,run_underlying hd,Result.andThen_ok,zcT hkn he w,hle',if_false];by_cases h0:k*z.length=0
    ·rw [e];simp only [h0,if_true,Sem.run_bind,Sem.run_pure,Result.andThen_ok];rw [h0] at hf;have e0:(Array.map (fun x=>(#[]:Array Value)[x%(#[]:Array Value).size]!) (Array.range 0))=(Array.map (fun x=>z.toArray[x%z.toArray.size]!) (Array.range 0)):=(by simp);rw [e0,hf];simp [newRow,newObj,Sem.run]
    ·rw [e];simp only [h0,if_false,Sem.run_bind,hzv,Result.andThen_ok,Sem.run_pure,ec,hf];simp [newRow,newObj,Sem.run]
   ·exact h'.elim
  ·exact h'.elim
 case store T x y =>
  obtain⟨va,hva,h'⟩:=zap h;obtain⟨vx,hvx,h'⟩:=zap h'
  split at h'
  ·obtain⟨_,w',hr,hk⟩:=SatR.elim h';refine zec (fun c=>by simp) ?_ (hn _ _ hk);simp only [execOp,ha.eval hva,ha.eval hvx,Instr.storeAt,Instr.sureAddr,Sem.run_bind,Sem.run_pure,Result.andThen_ok,hr]
  ·exact h'.elim
 case makeSlice T l c =>
  obtain⟨vl,hl,h'⟩:=zap h;obtain⟨vc,hc,h'⟩:=zap h';obtain⟨v,w',hr,hk⟩:=SatR.elim h';refine zaV (fun c=>by simp) ?_ (hn _ _ hk);simp only [execOp,ha.eval hl,ha.eval hc];rw [Sem.run_bind,hr];rfl
 case makeMap T r =>
  obtain⟨vr,h',hvr⟩:=oe h;obtain⟨v,w',hr,hk⟩:=SatR.elim h';refine zaV (fun c=>by simp) ?_ (hn _ _ hk);simp only [execOp,hvr];rw [Sem.run_bind,hr];rfl
 case makeInterface T x =>
  obtain⟨vx,hx,h'⟩:=zap h;obtain⟨v,w',hr,hk⟩:=SatR.elim h';refine zaV (fun c=>by simp) ?_ (hn _ _ hk);simp only [execOp,ha.eval hx];rw [Sem.run_bind,hr];rfl
 case mapUpdate T m k x =>
  obtain⟨vm,hm,h'⟩:=zap h;obtain⟨vk,hk,h'⟩:=zap h';obtain⟨vx,hx,h'⟩:=zap h';obtain⟨v,w',hr,hkk⟩:=SatR.elim h';refine zec (fun c=>by simp) ?_ (hn _ _ hkk);simp only [execOp,ha.eval hm,ha.eval hk,ha.eval hx];rw [Sem.run_bind,hr];rfl
 case insert T m k x =>
  obtain⟨vm,hm,h'⟩:=zap h;obtain⟨vk,hk,h'⟩:=zap h';obtain⟨vx,hx,h'⟩:=zap h';obtain⟨v,w',hr,hkk⟩:=SatR.elim h';refine zec (fun c=>by simp) ?_ (hn _ _ hkk);simp only [execOp,ha.eval hm,ha.eval hk,ha.eval hx];rw [Sem.run_bind,hr];rfl
 case mapEntry T m k =>
  obtain⟨vm,hm,h'⟩:=zap h;obtain⟨vk,hk,h'⟩:=zap h';obtain⟨v,w',hr,hkk⟩:=SatR.elim h';refine zaV (fun c=>by simp) ?_ (hn _ _ hkk);simp only [execOp,ha.eval hm,ha.eval hk];rw [Sem.run_bind,hr];rfl
 case entryStore T m k x =>
  obtain⟨vm,hm,h'⟩:=zap h;obtain⟨vk,hk,h'⟩:=zap h';obtain⟨vx,hx,h'⟩:=zap h';obtain⟨v,w',hr,hkk⟩:=SatR.elim h';refine zec (fun c=>by simp) ?_ (hn _ _ hkk);simp only [execOp,ha.eval hm,ha.eval hk,ha.eval hx];rw [Sem.run_bind,hr];rfl
 case range T x =>
  obtain⟨vx,hx,h'⟩:=zap h;obtain⟨v,w',hr,hk⟩:=SatR.elim h';refine zaV (fun c=>by simp) ?_ (hn _ _ hk);simp only [execOp,ha.eval hx];rw [Sem.run_bind,hr];rfl
 case next it s =>
  obtain⟨vx,hx,h'⟩:=zap h;obtain⟨v,w',hr,hk⟩:=SatR.elim h';refine zaV (fun c=>by simp) ?_ (hn _ _ hk);simp only [execOp,ha.eval hx];rw [Sem.run_bind,hr];rfl
 case entry it =>
  obtain⟨vx,hx,h'⟩:=zap h;obtain⟨v,w',hr,hk⟩:=SatR.elim h';refine zaV (fun c=>by simp) ?_ (hn _ _ hk);simp only [execOp,ha.eval hx];rw [Sem.run_bind,hr];rfl
 case typeAssert x T y ok =>
  obtain⟨vx,hx,h'⟩:=zap h;obtain⟨v,w',hr,hk⟩:=SatR.elim h';refine zaV (fun c=>by simp) ?_ (hn _ _ hk);simp only [execOp,ha.eval hx];rw [Sem.run_bind,hr];rfl
 case nilCheck x =>
  obtain⟨vx,hx,h'⟩:=zap h;obtain⟨nx,w',hr,hk⟩:=SatR.elim h'
  split at hk
  ·refine zaV (fun c=>by simp) ?_ (hn _ _ hk);simp only [execOp,ha.eval hx];simpa only [execOp] using hr
  ·exact hk.elim
 case panic x =>
  obtain⟨vx,hx,u,w',hr,hk⟩:=zap h;refine zhc (fun c=>by simp) ?_ (hp _ _ hk);simp only [execOp,ha.eval hx];rw [Sem.run_bind,hr];rfl
 case call c =>
  obtain⟨callee,args,argTypes⟩:=c;obtain⟨vs,h',hvs⟩:=zcW (S:=S) h;have ev:args.map a.eval=vs.toArray:=by rw [<- hvs a ha,<- Array.toList_map]
  dsimp only at h'
  split at h'
  ·rename_i f;obtain⟨vf,hf,h'⟩:=zap h';unfold zpb at h'
   split at h'
   ·rename_i g first captured
    split at h'
    ·rename_i hok;simp only [zbP,bAT,Nat.ble_eq,Nat.blt_eq] at hok;refine zfh (fun c=>by simp) ?_ h' hn hp;have e2:first++vs.toArray++captured=(first.toList++vs++captured.toList).toArray:=by
      rw [<- Array.toList_inj];simp
     simp only [execOp,resolve,ev,ha.eval hf,Deferred.ofValue,Sem.run_bind,Sem.run_pure,Result.andThen_ok,invoke,e2];exact hS.call g hok.1.1 hok.1.2 hok.2 _ _
    ·exact h'.elim
   ·rename_i l first captured
    obtain⟨fn,tmps,assign,body,hy,hR⟩:=h';have e2:first++vs.toArray=(first.toList++vs).toArray:=by
     rw [<- Array.toList_inj];simp
    have hr:(execOp a.eval ⟨dst,.call ⟨.value f,args,argTypes⟩,type,pos,after,guard⟩).run S.P w = .ok (.round l fn tmps assign body) w:=by
     simp only [execOp,resolve,ev,ha.eval hf,Deferred.ofValue,Sem.run_bind,Sem.run_pure,Result.andThen_ok,invoke,e2];exact hy
    unfold UponE;rw [hr];refine zdL (hR.mono fun e w'' he=>?_)
    cases e with
    | returned v=>exact hn _ _ he
    | panicked ch=>exact he.elim
    | outgrown=>exact he.elim
   ·rename_i fn first captured _ _
    obtain⟨g,args',hi,hc⟩:=h';refine zfh (fun c=>by simp) ?_ hc hn hp;have e2:first++vs.toArray=(first.toList++vs).toArray:=by
     rw [<- Array.toList_inj];simp
    simp only [execOp,resolve,ev,ha.eval hf,Deferred.ofValue,Sem.run_bind,Sem.run_pure,Result.andThen_ok,e2];exact hi
   ·exact h'.elim
  ·rename_i b;unfold zkX at h'
   split at h'
   case h_9 =>
    obtain⟨u,w',hr,hk⟩:=h';refine zhc (fun c=>by simp) ?_ (hp _ _ hk);simp only [execOp,resolve,ev,invoke,builtin,Sem.run_bind,Sem.run_pure,Result.andThen_ok,hr,Result.andThen_halt]
   case h_10=>exact h'.elim
   all_goals
    obtain⟨v,w',hr,hk⟩:=SatR.elim h';refine zaV (fun c=>by simp) ?_ (hn _ _ hk);simp only [execOp,resolve,ev,invoke,builtin,Sem.run_bind,Sem.run_pure,Result.andThen_ok,hr]
  ·rename_i r m;obtain⟨vr,hvr,g,args',hi,hc⟩:=zap h';refine zfh (fun c=>by simp) ?_ hc hn hp;have hx:(#[vr]++vs.toArray).extract 1 (#[vr]++vs.toArray).size=vs.toArray:=by
    rw [<- Array.toList_inj];simp
   have h0:(#[vr]++vs.toArray)[0]?=some vr:=by simp
   simp only [execOp,resolve,ev,ha.eval hvr,Sem.run_bind,Sem.run_pure,Result.andThen_ok,invoke,h0,hx];exact hi
end
def zgG (τ : TT) (op : Op) : Bool :=
  match op with
  | .move _ | .assign _ | .pick .. | .binOp .. | .unOp .. | .convert .. | .field .. | .index .. | .fieldAddr .. | .indexAddr .. | .slice .. | .extract .. | .makeFunc .. | .nilCheck _ | .load .. | .lookup .. | .build .. => true
  | .call c => (match c.callee with
    | .builtin .len => (match c.argTypes.toList with
      | [T] => (match TT.get τ T with
        | some { kind := .map _ _, .. } => false
        | _ => true)
      | _ => true)
    | _ => false)
  | _ => false
def memN (i : Nat) : List Nat → Bool
  | [] => false
  | k :: r => match Nat.beq k i with
    | true => true
    | false => memN i r
def zcx (op : Op) : Bool := match op with | .select .. | .defer .. | .go .. => false | _ => true
def PV (P : Program) (o : Oper) (a : Act) (w : World) (v : Value) : Prop := ∀ w2, (isN o.op = true ∨ Below w.heap.size w w2) → (execOp a.eval o).run P w2 = .ok (.value v) w2
def PQ (QP : List PanicEntry → World → Prop) : Exit → Act → World → Prop := fun ex _ w => match ex with
  | .panic ch => QP ch w
  | _ => False
def zca (S : Sig) (X : List Nat) (n : Nat) (QP : List PanicEntry → World → Prop) (ops : Array Oper) (i : Nat) (K : Act → World → Prop) (a : Act) (w : World) : Prop :=
  match ops[i]? with
  | none => K a w
  | some o => if Region.wanted o (yielded ops a.tmps) then
      (if zgG S.τ o.op then ∃ v, PV S.P o a w v ∧ K (a.put o.dst v) w
       else UponE S n o a w (fun a' w' => (memN i X = false → Below w.heap.size w w') ∧ K a' w') (PQ QP))
    else K (a.put o.dst undef) w
def zjJ (S : Sig) (X : List Nat) (n : Nat) (QP : List PanicEntry → World → Prop) (ops : Array Oper) (K : Act → World → Prop) : List Nat → Act → World → Prop
  | [], a, w => K a w
  | i :: r, a, w => zca S X n QP ops i (zjJ S X n QP ops K r) a w
section
variable {S : Sig} {X : List Nat} {n : Nat} {QP : List PanicEntry → World → Prop} {ops : Array Oper}
theorem zfj {o : Oper} {a a' : Act} {w : World} {next next' : Act → World → Prop} (he : execOp a'.eval o = execOp a.eval o)
    (hn : ∀ u w', next (a'.put o.dst u) w' → next' (a.put o.dst u) w') (h : UponE S n o a' w next (PQ QP)) : UponE S n o a w next' (PQ QP) := by
  unfold UponE at *
  rw [he] at h
  split at h
  · exact hn _ _ h
  · exact hn _ _ h
  · exact CallsIn.mono h fun e w'' he => by cases e <;> first | exact hn _ _ he | exact he
  · exact RoundIn.mono h fun e w'' he => by cases e <;> first | exact hn _ _ he | exact he
  · exact h
  · exact h
theorem zfm {i : Nat} {K K' : Act → World → Prop} {a : Act} {w : World} (h : ∀ a w, K a w → K' a w) (hh : zca S X n QP ops i K a w) : zca S X n QP ops i K' a w := by
  unfold zca at *
  split
  · rename_i ho; simp only [ho] at hh; exact h _ _ hh
  · rename_i o ho
    simp only [ho] at hh
    split
    · rename_i hw
      simp only [hw, if_true] at hh
      split
      · rename_i hp; simp only [hp, if_true] at hh; obtain ⟨v, h1, h2⟩ := hh; exact ⟨v, h1, h _ _ h2⟩
      · rename_i hp; simp only [hp, Bool.false_eq_true, if_false] at hh; exact zfj rfl (fun u w' hk => ⟨hk.1, h _ _ hk.2⟩) hh
    · rename_i hw; simp only [hw] at hh; exact h _ _ hh
structure Indep (S : Sig) (X : List Nat) (ops : Array Oper) (k i : Nat) : Prop where
  h : ∀ ok oi, ops[k]? = some ok → ops[i]? = some oi → ok.apart ops oi = true ∧ zgG S.τ ok.op = true ∧ zcx ok.op = true ∧ zcx oi.op = true ∧ (zgG S.τ oi.op = true ∨ memN i X = false ∨ isN ok.op = true)
theorem zgv {op : Op} (h : zcx op = true) : ∀ cs b, op ≠ .select cs b := fun cs b e => by subst e; simp [zcx] at h
theorem zcw {op : Op} (h : zcx op = true) : ∀ c, op ≠ .defer c := fun c e => by subst e; simp [zcx] at h
theorem PV.below {P : Program} {o : Oper} {a : Act} {w w' : World} {v : Value} (h : PV P o a w v) (hb : isN o.op = true ∨ Below w.heap.size w w') : PV P o a w' v :=
  fun w2 h2 => h w2 (by rcases hb with hb | hb
                        · exact .inl hb
                        · exact h2.imp id (fun h2 => hb.trans (h2.mono hb.size)))
theorem zfl {k i : Nat} (hk : Indep S X ops k i) {K : Act → World → Prop} {a : Act} {w : World} (h : zca S X n QP ops k (zca S X n QP ops i K) a w) : zca S X n QP ops i (zca S X n QP ops k K) a w := by
  cases hok : ops[k]? with
  | none =>
    have e : ∀ K', zca S X n QP ops k K' = K' := fun K' => by funext a w; simp [zca, hok]
    rw [e] at h ⊢; exact h
  | some ok =>
    cases hoi : ops[i]? with
    | none =>
      have e : ∀ K', zca S X n QP ops i K' = K' := fun K' => by funext a w; simp [zca, hoi]
      rw [e] at h; rw [e]; exact h
    | some oi =>
      obtain ⟨hap, hp, hsk, hsi, hx⟩ := hk.h ok oi hok hoi
      obtain ⟨h1, h2, h3⟩ := Oper.apart_spec hap
      have core : ∀ v, ((Region.wanted ok (yielded ops a.tmps) = true ∧ PV S.P ok a w v) ∨ (Region.wanted ok (yielded ops a.tmps) = false ∧ v = undef)) →
          zca S X n QP ops i K (a.put ok.dst v) w → zca S X n QP ops i (zca S X n QP ops k K) a w := by
        intro v hv h
        have after : ∀ u w', (isN ok.op = true ∨ Below w.heap.size w w') → K ((a.put ok.dst v).put oi.dst u) w' → zca S X n QP ops k K (a.put oi.dst u) w' := by
          intro u w' hb hK
          unfold zca
          simp only [hok, hp, if_true]
          rw [wanted_put ok a oi.dst u h3]
          rw [Act.put_comm a v u h2] at hK
          rcases hv with ⟨hw, hpv⟩ | ⟨hw, rfl⟩
          · simp only [hw, if_true]
            refine ⟨v, fun w2 h2 => ?_, hK⟩
            rw [execOp_put ok (zgv hsk) a oi.dst u h3]
            exact (hpv.below hb) w2 h2
          · simp only [hw]; exact hK
        unfold zca at h ⊢
        simp only [hoi] at h ⊢
        rw [wanted_put oi a ok.dst v h1] at h
        split
        · rename_i hwi
          simp only [hwi, if_true] at h
          split
          · rename_i hpi
            simp only [hpi, if_true] at h
            obtain ⟨u, hu, hK⟩ := h
            refine ⟨u, fun w2 hb => ?_, after u w (.inr (Below.refl _ _)) hK⟩
            have := hu w2 hb
            rwa [execOp_put oi (zgv hsi) a ok.dst v h1] at this
          · rename_i hpi
            simp only [hpi, Bool.false_eq_true, if_false] at h
            exact zfj (execOp_put oi (zgv hsi) a ok.dst v h1) (fun u w' hh => ⟨hh.1, after u w' ((hx.resolve_left hpi).elim (fun hm => .inr (hh.1 hm)) .inl) hh.2⟩) h
        · rename_i hwi
          simp only [hwi] at h
          exact after undef w (.inr (Below.refl _ _)) h
      have h' := h
      unfold zca at h
      simp only [hok, hp, if_true] at h
      cases hw : Region.wanted ok (yielded ops a.tmps) with
      | true =>
        simp only [hw, if_true] at h
        obtain ⟨v, hv, hK⟩ := h
        exact core v (.inl ⟨hw, hv⟩) hK
      | false =>
        simp only [hw] at h
        exact core undef (.inr ⟨hw, rfl⟩) h
theorem zgD {K : Act → World → Prop} {i : Nat} : ∀ (L : List Nat), L.Nodup → i ∈ L → (∀ k, [k, i].Sublist L → Indep S X ops k i) → ∀ (a : Act) (w : World), zjJ S X n QP ops K L a w →
    zca S X n QP ops i (zjJ S X n QP ops K (L.filter (· ≠ i))) a w
  | [], _, hi, _, _, _, _ => by simp at hi
  | k :: r, hn, hi, hind, a, w, h => by
    obtain ⟨hkr, hr⟩ := List.nodup_cons.1 hn
    by_cases hki : k = i
    · subst hki
      have e : (k :: r).filter (· ≠ k) = r := by
        rw [List.filter_cons]
        simp only [ne_eq, not_true_eq_false, decide_false, Bool.false_eq_true, if_false]
        exact List.filter_eq_self.2 fun x hx => by simp; rintro rfl; exact hkr hx
      rw [e]
      exact h
    · have hir : i ∈ r := by
        cases hi with
        | head => exact absurd rfl hki
        | tail _ h => exact h
      have e : (k :: r).filter (· ≠ i) = k :: r.filter (· ≠ i) := by
        rw [List.filter_cons]; simp [hki]
      rw [e]
      have hik : Indep S X ops k i := hind k (List.Sublist.cons_cons k (List.singleton_sublist.2 hir))
      have h2 : zca S X n QP ops k (zca S X n QP ops i (zjJ S X n QP ops K (r.filter (· ≠ i)))) a w :=
        zfm (fun a w hh => zgD r hr hir (fun k' hs => hind k' (hs.cons k)) a w hh) h
      exact zfl hik h2
def zhG (ops : Array Oper) : Nat → Nat → Nat → Bool
  | 0, _, _ => false
  | f + 1, k, i => match ops[i]? with
    | some o => o.after.toList.any fun e => Region.binds .any e && (Nat.beq e.on k || (Nat.blt k e.on && zhG ops f k e.on))
    | none => false
theorem zd0 {L : Array Bool} (hc : ∀ j o, L.getD j false = true → ops[j]? = some o → ∀ e ∈ o.after, Region.binds .any e = true → L.getD e.on false = true) :
    ∀ (f k i : Nat) (o : Oper), ops[i]? = some o → (∀ e ∈ o.after, Region.binds .any e = true → L.getD e.on false = true) → zhG ops f k i = true → L.getD k false = true
  | 0, _, _, _, _, _, h => by simp [zhG] at h
  | f + 1, k, i, o, ho, hl, h => by
    simp only [zhG, ho, List.any_eq_true, Bool.and_eq_true, Bool.or_eq_true, Array.mem_toList_iff] at h
    obtain ⟨e, he, hb, h⟩ := h
    rcases h with h | ⟨_, h⟩
    · have := Nat.eq_of_beq_eq_true h
      subst this
      exact hl e he hb
    · cases hj : ops[e.on]? with
      | none => cases f <;> simp [zhG, hj] at h
      | some oj => exact zd0 hc f k e.on oj hj (fun e' he' hb' => hc e.on oj (hl e he hb) hj e' he' hb') h
structure OrdOk (S : Sig) (X : List Nat) (ops : Array Oper) (L : List Nat) : Prop where
  nodup : L.Nodup
  mem : ∀ i, i ∈ L ↔ i < ops.size
  pair : ∀ k i, [k, i].Sublist L → (∃ f, zhG ops f k i = true) ∨ Indep S X ops k i
  topo : ∀ i o e, ops[i]? = some o → e ∈ o.after → Region.binds .any e = true → [e.on, i].Sublist L
theorem zkz {x y : Nat} (hne : x ≠ y) : ∀ {L : List Nat}, L.Nodup → [x, y].Sublist L → [y, x].Sublist L → False
  | [], _, h, _ => by cases h
  | z :: r, hn, h, h' => by
    obtain ⟨hz, hr⟩ := List.nodup_cons.1 hn
    cases h with
    | cons _ h =>
      cases h' with
      | cons _ h' => exact zkz hne hr h h'
      | cons_cons _ h' => exact hz (h.subset (by simp))
    | cons_cons _ h =>
      cases h' with
      | cons _ h' => exact hz (h'.subset (by simp))
      | cons_cons _ h' => exact hne rfl
theorem zp0 {o : Oper} {a : Act} {w : World} {next : Act → World → Prop} {Q : Exit → Act → World → Prop} (hQ : ∀ ch w, QP ch w → Q (.panic ch) a w) (h : UponE S n o a w next (PQ QP)) : UponE S n o a w next Q := by
  unfold UponE at *
  split at h
  · exact h
  · exact h
  · exact CallsIn.mono h fun e w'' he => by cases e <;> first | exact hQ _ _ he | exact he
  · exact RoundIn.mono h fun e w'' he => by cases e <;> first | exact hQ _ _ he | exact he
  · exact hQ _ _ h
  · exact h
theorem zdD {Q : Exit → Act → World → Prop} {i : Nat} {o : Oper} {K K' : Act → World → Prop} {a : Act} {w : World} (hsel : zcx o.op = true) (ho : ops[i]? = some o)
    (hQ : ∀ ch w, QP ch w → Q (.panic ch) a w) (hnext : ∀ u w, K (a.put o.dst u) w → K' (a.put o.dst u) w) (h2 : zca S X n QP ops i K a w) : wpOpIn (FR S.r) n S.P ops Q i K' a w := by
  unfold wpOpIn
  unfold zca at h2
  simp only [ho] at h2 ⊢
  split
  · rename_i hw
    simp only [hw, if_true] at h2
    split at h2
    · obtain ⟨v, hv, hK⟩ := h2
      exact (zaV (S := S) (Q := Q) (zcw hsel) (hv w (.inr (Below.refl _ _))) (hnext _ _ hK)).wpIn (zcw hsel)
    · have h3 : UponE S n o a w K' (PQ QP) := zfj rfl (fun u w' hh => hnext _ _ hh.2) h2
      exact (zp0 hQ h3).wpIn (zcw hsel)
  · rename_i hw
    simp only [hw] at h2
    exact ⟨fun _ _ => trivial, hnext _ _ h2⟩
theorem zg3 {Q : Exit → Act → World → Prop} {I : Act → Prop} (hI : ∀ a dst v, I a → I (a.put dst v)) (hQ : ∀ ch a w, I a → QP ch w → Q (.panic ch) a w) (hS : ∀ o, o ∈ ops → zcx o.op = true) {L0 : List Nat} (hO : OrdOk S X ops L0) :
    ∀ (m : Nat) (L : List Nat) (listed : Array Bool) (a : Act) (w : World), L.length = m → L.Sublist L0 → listed.size = ops.size → (∀ i, i ∈ L ↔ (i < ops.size ∧ listed.getD i false = false)) →
      (∀ j o, listed.getD j false = true → ops[j]? = some o → ∀ e ∈ o.after, Region.binds .any e = true → listed.getD e.on false = true) →
      I a → zjJ S X n QP ops (fun a w => Q .normal a w) L a w → wpAnyIn (FR S.r) n S.P .any ops Q m listed a w
  | 0, L, listed, a, w, hm, _, hsz, hmem, _, _, h => by
    have hL : L = [] := List.eq_nil_of_length_eq_zero hm
    subst hL
    refine ⟨?_, h⟩
    rw [List.eq_nil_iff_forall_not_mem]
    intro i hi
    obtain ⟨hl, o, ho, _⟩ := mem_ready.1 hi
    have hlt : i < ops.size := (Array.getElem?_eq_some_iff.1 ho).1
    have : i ∈ ([] : List Nat) := (hmem i).2 ⟨hlt, by
      have hls : i < listed.size := by omega
      simp [hls] at hl ⊢; exact hl⟩
    simp at this
  | m + 1, L, listed, a, w, hm, hsub, hsz, hmem, hcl, hia, h => by
    have hnd : L.Nodup := hO.nodup.sublist hsub
    have hget : ∀ i, i < ops.size → (listed.getD i true = false ↔ listed.getD i false = false) := fun i hi => by
      have hls : i < listed.size := by omega
      simp [hls]
    have hready : ∀ i, i ∈ Region.ready .any ops listed → i ∈ L := fun i hi => by
      obtain ⟨hl, o, ho, _⟩ := mem_ready.1 hi
      have hlt : i < ops.size := (Array.getElem?_eq_some_iff.1 ho).1
      exact (hmem i).2 ⟨hlt, (hget i hlt).1 hl⟩
    refine ⟨fun h0 => ?_, fun i hi => ?_⟩
    ·
      exfalso
      cases L with
      | nil => simp at hm
      | cons i r =>
        have hil := (hmem i).1 List.mem_cons_self
        have : i ∈ Region.ready .any ops listed := by
          refine mem_ready.2 ⟨(hget i hil.1).2 hil.2, ops[i], Array.getElem?_eq_getElem hil.1, fun e he hb => ?_⟩
          have ht := hO.topo i _ e (Array.getElem?_eq_getElem hil.1) he hb
          cases hle : listed.getD e.on false with
          | true => rfl
          | false =>
            exfalso
            have heo : e.on < ops.size := (hO.mem e.on).1 (ht.subset (by simp))
            have hel : e.on ∈ i :: r := (hmem e.on).2 ⟨heo, hle⟩
            have hne : e.on ≠ i := fun he => by
              have := hO.nodup.sublist ht
              simp [he] at this
            have hir : e.on ∈ r := by
              cases hel with
              | head => exact absurd rfl hne
              | tail _ h => exact h
            have h1 : [i, e.on].Sublist L0 := (List.Sublist.cons_cons i (List.singleton_sublist.2 hir)).trans hsub
            exact (zkz hne hO.nodup ht h1).elim
        rw [h0] at this
        simp at this
    · have hiL := hready i hi
      obtain ⟨hl, o, ho, hall⟩ := mem_ready.1 hi
      have hlt : i < ops.size := (Array.getElem?_eq_some_iff.1 ho).1
      have hind : ∀ k, [k, i].Sublist L → Indep S X ops k i := fun k hs => by
        rcases hO.pair k i (hs.trans hsub) with ⟨f, hf⟩ | hind
        · exfalso
          have hk : k ∈ L := hs.subset (by simp)
          have h1 := ((hmem k).1 hk).2
          have h2 := zd0 hcl f k i o ho hall hf
          rw [h1] at h2; simp at h2
        · exact hind
      have h2 := zgD L hnd hiL hind a w h
      have hnext : ∀ a w, I a → zjJ S X n QP ops (fun a w => Q .normal a w) (L.filter (· ≠ i)) a w → wpAnyIn (FR S.r) n S.P .any ops Q m (listed.setIfInBounds i true) a w := fun a w hia hh => by
        refine zg3 hI hQ hS hO m _ _ a w ?_ (List.filter_sublist.trans hsub) (by simpa using hsz) ?_ ?_ hia hh
        · have : (L.filter (· ≠ i)) = L.erase i := by rw [hnd.erase_eq_filter]; exact List.filter_congr fun x _ => by by_cases h : x = i <;> simp [h]
          rw [this, List.length_erase_of_mem hiL]; omega
        · intro j
          rw [List.mem_filter, hmem j]
          by_cases hji : j = i
          · subst hji
            simp [hsz, hlt]
          · have hij : ¬ i = j := fun e => hji e.symm
            simp [hji, hij]
        · intro j oj hj hoj e he hb
          by_cases hji : j = i
          · subst hji
            rw [ho] at hoj; cases hoj
            have := hall e he hb
            by_cases hei : e.on = j
            · simp [hei, hsz, hlt]
            · have hei' : ¬ j = e.on := fun e => hei e.symm
              simpa [Array.getElem?_setIfInBounds, hei'] using this
          · have hij : ¬ i = j := fun e => hji e.symm
            have hj' : listed.getD j false = true := by simpa [Array.getElem?_setIfInBounds, hij] using hj
            have := hcl j oj hj' hoj e he hb
            by_cases hei : e.on = i
            · simp [hei, hsz, hlt]
            · have hei' : ¬ i = e.on := fun e => hei e.symm
              simpa [Array.getElem?_setIfInBounds, hei'] using this
      exact zdD (hS o (Array.mem_of_getElem? ho)) ho (fun ch w => hQ ch a w hia) (fun u w => hnext _ w (hI _ _ _ hia)) h2
inductive OT where
  | nil
  | op (i : Nat) (t : OT)
  | alt (a b : OT)
def zfO (S : Sig) (X : List Nat) (n : Nat) (QP : List PanicEntry → World → Prop) (ops : Array Oper) (K : Act → World → Prop) : OT → Act → World → Prop
  | .nil, a, w => K a w
  | .op i t, a, w => zca S X n QP ops i (zfO S X n QP ops K t) a w
  | .alt x y, a, w => zfO S X n QP ops K x a w ∧ zfO S X n QP ops K y a w
def OT.first (ind : Nat → Nat → Bool) (i : Nat) : OT → Option OT
  | .nil => none
  | .op k t => if k = i then some t else if ind k i = true then (OT.first ind i t).map (.op k) else none
  | .alt x y => match OT.first ind i x with
    | some x' => some x'
    | none => OT.first ind i y
theorem zdF {K : Act → World → Prop} {i : Nat} {ind : Nat → Nat → Bool} (hind : ∀ k, ind k i = true → Indep S X ops k i) : ∀ (T T' : OT), OT.first ind i T = some T' → ∀ (a : Act) (w : World), zfO S X n QP ops K T a w →
    zca S X n QP ops i (zfO S X n QP ops K T') a w
  | .nil, _, h, _, _, _ => by simp [OT.first] at h
  | .op k t, T', h, a, w, hh => by
    simp only [OT.first] at h
    split at h
    · rename_i e
      subst e
      cases h
      exact hh
    · split at h
      · rename_i hk
        obtain ⟨t', ht', rfl⟩ := Option.map_eq_some_iff.1 h
        exact zfl (hind k hk) (zfm (fun a w hh => zdF hind t t' ht' a w hh) hh)
      · cases h
  | .alt x y, T', h, a, w, hh => by
    simp only [OT.first] at h
    split at h
    · rename_i u hx
      simp only [Option.some.injEq] at h
      subst h
      exact zdF hind x u hx a w hh.1
    · exact zdF hind y T' h a w hh.2
def covT (ind : Nat → Nat → Bool) (ops : Array Oper) : Nat → Array Bool → OT → Bool
  | 0, listed, T => (Region.ready .any ops listed).isEmpty && (match T with | .nil => true | _ => false)
  | m + 1, listed, T => !(Region.ready .any ops listed).isEmpty && (Region.ready .any ops listed).all fun i =>
      match OT.first ind i T with
      | some T' => covT ind ops m (listed.setIfInBounds i true) T'
      | none => false
theorem zg2 {Q : Exit → Act → World → Prop} {I : Act → Prop} (hI : ∀ a dst v, I a → I (a.put dst v)) (hQ : ∀ ch a w, I a → QP ch w → Q (.panic ch) a w) (hS : ∀ o, o ∈ ops → zcx o.op = true) {ind : Nat → Nat → Bool} (hind : ∀ k i, ind k i = true → Indep S X ops k i) :
    ∀ (m : Nat) (listed : Array Bool) (T : OT) (a : Act) (w : World), covT ind ops m listed T = true →
      I a → zfO S X n QP ops (fun a w => Q .normal a w) T a w → wpAnyIn (FR S.r) n S.P .any ops Q m listed a w
  | 0, listed, T, a, w, hc, _, h => by
    simp only [covT, Bool.and_eq_true, List.isEmpty_iff] at hc
    obtain ⟨h1, h2⟩ := hc
    split at h2
    · exact ⟨h1, h⟩
    · cases h2
  | m + 1, listed, T, a, w, hc, hia, h => by
    simp only [covT, Bool.and_eq_true, Bool.not_eq_true', List.isEmpty_eq_false_iff, List.all_eq_true] at hc
    refine ⟨fun h0 => absurd h0 hc.1, fun i hi => ?_⟩
    obtain ⟨_, o, ho, _⟩ := mem_ready.1 hi
    have hc' := hc.2 i hi
    split at hc'
    · rename_i T' hT'
      have h2 := zdF (fun k hk => hind k i hk) T T' hT' a w h
      have hnext : ∀ a w, I a → zfO S X n QP ops (fun a w => Q .normal a w) T' a w → wpAnyIn (FR S.r) n S.P .any ops Q m (listed.setIfInBounds i true) a w := fun a w hia hh =>
        zg2 hI hQ hS hind m _ T' a w hc' hia hh
      exact zdD (hS o (Array.mem_of_getElem? ho)) ho (fun ch w => hQ ch a w hia) (fun u w => hnext _ w (hI _ _ _ hia)) h2
    · cases hc'
end
def OT.firsts (ind : Nat → Nat → Bool) (i : Nat) : OT → List OT
  | .nil => []
  | .op k t => if k = i then [t] else if ind k i = true then (OT.firsts ind i t).map (.op k) else []
  | .alt x y => OT.firsts ind i x ++ OT.firsts ind i y
def covA (ind : Nat → Nat → Bool) (ops : Array Oper) : Nat → Array Bool → OT → Bool
  | 0, listed, T => (Region.ready .any ops listed).isEmpty && (match T with | .nil => true | _ => false)
  | m + 1, listed, T => !(Region.ready .any ops listed).isEmpty && (Region.ready .any ops listed).all fun i =>
      (OT.firsts ind i T).any fun T' => covA ind ops m (listed.setIfInBounds i true) T'
section
variable {S : Sig} {X : List Nat} {n : Nat} {QP : List PanicEntry → World → Prop} {ops : Array Oper}
theorem zdf {K : Act → World → Prop} {i : Nat} {ind : Nat → Nat → Bool} (hind : ∀ k, ind k i = true → Indep S X ops k i) : ∀ (T T' : OT), T' ∈ OT.firsts ind i T → ∀ (a : Act) (w : World), zfO S X n QP ops K T a w →
    zca S X n QP ops i (zfO S X n QP ops K T') a w
  | .nil, _, h, _, _, _ => by simp [OT.firsts] at h
  | .op k t, T', h, a, w, hh => by
    simp only [OT.firsts] at h
    split at h
    · rename_i e
      subst e
      rw [List.mem_singleton] at h
      subst h
      exact hh
    · split at h
      · rename_i hk
        obtain ⟨t', ht', rfl⟩ := List.mem_map.1 h
        exact zfl (hind k hk) (zfm (fun a w hh => zdf hind t t' ht' a w hh) hh)
      · cases h
  | .alt x y, T', h, a, w, hh => by
    simp only [OT.firsts, List.mem_append] at h
    rcases h with h | h
    · exact zdf hind x T' h a w hh.1
    · exact zdf hind y T' h a w hh.2
theorem zfN {Q : Exit → Act → World → Prop} {I : Act → Prop} (hI : ∀ a dst v, I a → I (a.put dst v)) (hQ : ∀ ch a w, I a → QP ch w → Q (.panic ch) a w) (hS : ∀ o, o ∈ ops → zcx o.op = true) {ind : Nat → Nat → Bool} (hind : ∀ k i, ind k i = true → Indep S X ops k i) :
    ∀ (m : Nat) (listed : Array Bool) (T : OT) (a : Act) (w : World), covA ind ops m listed T = true →
      I a → zfO S X n QP ops (fun a w => Q .normal a w) T a w → wpAnyIn (FR S.r) n S.P .any ops Q m listed a w
  | 0, listed, T, a, w, hc, _, h => by
    simp only [covA, Bool.and_eq_true, List.isEmpty_iff] at hc
    obtain ⟨h1, h2⟩ := hc
    split at h2
    · exact ⟨h1, h⟩
    · cases h2
  | m + 1, listed, T, a, w, hc, hia, h => by
    simp only [covA, Bool.and_eq_true, Bool.not_eq_true', List.isEmpty_eq_false_iff, List.all_eq_true] at hc
    refine ⟨fun h0 => absurd h0 hc.1, fun i hi => ?_⟩
    obtain ⟨_, o, ho, _⟩ := mem_ready.1 hi
    have hc' := hc.2 i hi
    rw [List.any_eq_true] at hc'
    obtain ⟨T', hT', hc'⟩ := hc'
    have h2 := zdf (fun k hk => hind k i hk) T T' hT' a w h
    have hnext : ∀ a w, I a → zfO S X n QP ops (fun a w => Q .normal a w) T' a w → wpAnyIn (FR S.r) n S.P .any ops Q m (listed.setIfInBounds i true) a w := fun a w hia hh =>
      zfN hI hQ hS hind m _ T' a w hc' hia hh
    exact zdD (hS o (Array.mem_of_getElem? ho)) ho (fun ch w => hQ ch a w hia) (fun u w => hnext _ w (hI _ _ _ hia)) h2
end
def zqG (all : List Oper) (i : Nat) : Bool := all.any fun o => match o.guard with | some (j, _) => Nat.beq j i | none => false
def splB (g : Bool) (v : Value) (K : Value → Prop) : Prop :=
  match g with
  | true => (match v with
    | .bool b => Br b (K (.bool true)) (K (.bool false))
    | v => K v)
  | false => K v
def zjF : List Oper → Nat → Option Oper
  | [], _ => none
  | o :: _, 0 => some o
  | _ :: r, i + 1 => zjF r i
def gval (all : List Oper) (E : Env) (j : Nat) : Option (Option Bool) :=
  match zjF all j with
  | some o => (match o.dst with
    | some d => (match Env.find E d with
      | some (.bool b) => some (some b)
      | some (.tuple _) => some none
      | _ => none)
    | none => none)
  | none => none
def zqK (all : List Oper) (i : Nat) (op : Op) : Bool := match op with | .move _ => zqG all i | _ => false
def zjS (S : Sig) (all : List Oper) (dr : Bool) (i : Nat) (o : Oper) (E : Env) (w : World) (K : Env → World → Prop) (KP : Env → List PanicEntry → World → Prop) : Prop :=
  match zgG S.τ o.op with
  | true => zqp S E o.op w fun v => splB (zqK all i o.op) v fun v => K (setE o.dst v E) w
  | false => (match dr with
    | false => effE S E o w (fun v w' => K (setE o.dst v E) w') (KP E)
    | true => effE S E o w (fun v w' => Below w.heap.size w w' ∧ K (setE o.dst v E) w') (KP E))
def zdl (S : Sig) (all : List Oper) (dr : Bool) (i : Nat) (o : Oper) (E : Env) (w : World) (K : Env → World → Prop) (KP : Env → List PanicEntry → World → Prop) : Prop :=
  match zoM S.n o.dst with
  | false => False
  | true => (match o.guard with
    | none => zjS S all dr i o E w K KP
    | some (j, want) => (match gval all E j with
      | some (some b) => (match b, want with
        | true, true => zjS S all dr i o E w K KP
        | false, false => zjS S all dr i o E w K KP
        | true, false => K (setE o.dst undef E) w
        | false, true => K (setE o.dst undef E) w)
      | some none => K (setE o.dst undef E) w
      | none => False))
def opsE (S : Sig) (all : List Oper) : Nat → List Oper → Env → World → (Env → World → Prop) → (Env → List PanicEntry → World → Prop) → Prop
  | _, [], E, w, K, _ => K E w
  | i, o :: r, E, w, K, KP => zdl S all false i o E w (fun E' w' => opsE S all (i + 1) r E' w' K KP) KP
def opsO (S : Sig) (all : List Oper) (X : List Nat) (QP : List PanicEntry → World → Prop) : List Nat → Env → World → (Env → World → Prop) → Prop
  | [], E, w, K => K E w
  | i :: r, E, w, K => (match zjF all i with
    | some o => zdl S all (!memN i X) i o E w (fun E' w' => opsO S all X QP r E' w' K) (fun _ ch w => QP ch w)
    | none => False)
def opsT (S : Sig) (all : List Oper) (X : List Nat) (QP : List PanicEntry → World → Prop) : OT → Env → World → (Env → World → Prop) → Prop
  | .nil, E, w, K => K E w
  | .op i t, E, w, K => (match zjF all i with
    | some o => zdl S all (!memN i X) i o E w (fun E' w' => opsT S all X QP t E' w' K) (fun _ ch w => QP ch w)
    | none => False)
  | .alt x y, E, w, K => opsT S all X QP x E w K ∧ opsT S all X QP y E w K
def ze6 (τ : TT) (X : List Nat) (ops : Array Oper) (k i : Nat) : Bool :=
  match ops[k]?, ops[i]? with
  | some ok, some oi => ok.apart ops oi && zgG τ ok.op && zcx ok.op && zcx oi.op && (zgG τ oi.op || !memN i X || isN ok.op)
  | _, _ => false
def zkw (τ : TT) (X : List Nat) (ops : Array Oper) : List Nat → Bool
  | [] => true
  | k :: r => r.all (fun i => zhG ops ops.size k i || ze6 τ X ops k i) && !r.contains k && zkw τ X ops r
def ordB (τ : TT) (X : List Nat) (ops : Array Oper) (L : List Nat) : Bool :=
  Nat.beq L.length ops.size && zkw τ X ops L && L.all (fun i => Nat.blt i ops.size) && (List.range ops.size).all (fun i => L.contains i) &&
  (List.range ops.size).all (fun i => match ops[i]? with
    | some o => o.after.all fun e => !Region.binds .any e || [e.on, i].isSublist L
    | none => true) && ops.all (fun o => zcx o.op)
theorem zeF {S : Sig} {X : List Nat} {ops : Array Oper} {k i : Nat} (hd : ze6 S.τ X ops k i = true) : Indep S X ops k i := by
  refine ⟨fun ok oi hk ho => ?_⟩
  simp only [ze6, hk, ho, Bool.and_eq_true, Bool.or_eq_true, Bool.not_eq_true'] at hd
  exact ⟨hd.1.1.1.1, hd.1.1.1.2, hd.1.1.2, hd.1.2, by rcases hd.2 with (h | h) | h; exact .inl h; exact .inr (.inl h); exact .inr (.inr h)⟩
theorem zgs {S : Sig} {X : List Nat} {ops : Array Oper} : ∀ {L : List Nat}, zkw S.τ X ops L = true → L.Nodup ∧ ∀ k i, [k, i].Sublist L → (∃ f, zhG ops f k i = true) ∨ Indep S X ops k i
  | [], _ => ⟨List.nodup_nil, fun _ _ h => by cases h⟩
  | x :: r, h => by
    simp only [zkw, Bool.and_eq_true, List.all_eq_true, Bool.or_eq_true, Bool.not_eq_true', List.contains_eq_mem, decide_eq_false_iff_not] at h
    obtain ⟨⟨h1, h2⟩, h3⟩ := h
    obtain ⟨hn, hp⟩ := zgs h3
    refine ⟨List.nodup_cons.2 ⟨h2, hn⟩, fun k i hs => ?_⟩
    cases hs with
    | cons _ hs => exact hp k i hs
    | cons_cons _ hs =>
      have hi : i ∈ r := List.singleton_sublist.1 hs
      rcases h1 i hi with hw | hd
      · exact .inl ⟨_, hw⟩
      · exact .inr (zeF hd)
theorem zmX {S : Sig} {X : List Nat} {ops : Array Oper} {L : List Nat} (h : ordB S.τ X ops L = true) : L.length = ops.size ∧ OrdOk S X ops L ∧ ∀ o, o ∈ ops → zcx o.op = true := by
  simp only [ordB, Bool.and_eq_true, List.all_eq_true, Nat.blt_eq, List.mem_range, List.contains_eq_mem, decide_eq_true_eq] at h
  obtain ⟨⟨⟨⟨⟨h0, h1⟩, h2⟩, h3⟩, h4⟩, h5⟩ := h
  obtain ⟨hn, hp⟩ := zgs h1
  refine ⟨Nat.eq_of_beq_eq_true h0, ⟨hn, fun i => ⟨h2 i, h3 i⟩, hp, fun i o e ho he hb => ?_⟩, fun o ho => ?_⟩
  · have hi : i < ops.size := (Array.getElem?_eq_some_iff.1 ho).1
    have := h4 i hi
    simp only [ho, Array.all_eq_true_iff_forall_mem] at this
    have := this e he
    simp only [hb, Bool.not_true, Bool.false_or] at this
    exact List.isSublist_iff_sublist.1 this
  · simp only [Array.all_eq_true_iff_forall_mem] at h5
    exact h5 o ho
theorem zfX : ∀ (l : List Oper) (i : Nat), zjF l i = l[i]?
  | [], i => by simp [zjF]
  | _ :: _, 0 => rfl
  | _ :: r, i + 1 => by simp only [zjF, List.getElem?_cons_succ]; exact zfX r i
section
variable {S : Sig} {n : Nat} {ops : Array Oper} {E : Env} {a : Act} {w : World}
theorem ze7 (ha : Agrees S a E) {j : Nat} {r : Option Bool} (h : gval ops.toList E j = some r) : yielded ops a.tmps j = r := by
  unfold gval at h
  rw [zfX] at h
  split at h
  · rename_i o ho
    split at h
    · rename_i d hd
      have ho' : ops[j]? = some o := by simpa using ho
      split at h
      · rename_i b hf
        cases h
        have := ha.val d _ hf
        simp [yielded, ho', hd, this]
      · rename_i t hf
        cases h
        have := ha.val d _ hf
        simp [yielded, ho', hd, this]
      · cases h
    · cases h
  · cases h
theorem zit {g : Bool} {v : Value} {K : Value → Prop} (h : splB g v K) : K v := by
  unfold splB at h
  split at h
  · split at h
    · rename_i b
      cases b
      · exact h.2 rfl
      · exact h.1 rfl
    · exact h
  · exact h
theorem zmn (hS : SigOk S) {i : Nat} {o : Oper} (ho : ops[i]? = some o) (hs : zcx o.op = true) {K : Env → World → Prop} {KP : Env → List PanicEntry → World → Prop}
    {next : Act → World → Prop} {Q : Exit → Act → World → Prop} (h : zdl S ops.toList false i o E w K KP) (ha : Agrees S a E)
    (hn : ∀ E' a' w', Agrees S a' E' → K E' w' → next a' w') (hp : ∀ ch w', KP E ch w' → Q (.panic ch) a w') :
    wpOpIn (FR S.r) n S.P ops Q i next a w := by
  unfold zdl at h
  split at h
  · exact h.elim
  · rename_i hd
    have ex : zjS S ops.toList false i o E w K KP → o.wpIn (FR S.r) n S.P a w next Q := fun h => by
      unfold zjS at h
      split at h
      · obtain ⟨v, hk, hr⟩ := zgn hS h
        exact (zaV (S := S) (n := n) (zcw hs) (hr a ha w (.inr (Below.refl _ _))) (hn _ _ _ (ha.put hd v) (zit hk))).wpIn (zcw hs)
      · exact (zfz hS h ha (fun v w' hk => hn _ _ _ (ha.put hd v) hk) hp).wpIn (zcw hs)
    have sk : K (setE o.dst undef E) w → (∀ f, o.about S.P w a.eval = some f → (FR S.r).fn f) ∧ next (a.put o.dst undef) w := fun h => ⟨fun _ _ => trivial, hn _ _ _ (ha.put hd undef) h⟩
    unfold wpOpIn
    simp only [ho]
    split at h
    · rename_i hg
      have : Region.wanted o (yielded ops a.tmps) = true := by simp [Region.wanted, hg]
      rw [if_pos this]; exact ex h
    · rename_i j want hg
      split at h
      · rename_i b hgv
        have hy := ze7 ha hgv
        have hw : Region.wanted o (yielded ops a.tmps) = (b == want) := by simp [Region.wanted, hg, hy]
        rw [hw]
        cases b <;> cases want <;> simp only [] at h <;> first | exact ex h | exact sk h
      · rename_i hgv
        have hy := ze7 ha hgv
        have hw : Region.wanted o (yielded ops a.tmps) = false := by simp [Region.wanted, hg, hy]
        rw [hw]
        exact sk h
      · exact h.elim
theorem zgf (hS : SigOk S) {X : List Nat} {i : Nat} {o : Oper} (ho : ops[i]? = some o) (_hs : zcx o.op = true) {K : Env → World → Prop}
    {next : Act → World → Prop} {QP : List PanicEntry → World → Prop} (h : zdl S ops.toList (!memN i X) i o E w K (fun _ ch w => QP ch w)) (ha : Agrees S a E)
    (hn : ∀ E' a' w', Agrees S a' E' → K E' w' → next a' w') :
    zca S X n QP ops i next a w := by
  unfold zdl at h
  split at h
  · exact h.elim
  · rename_i hd
    have ex : zjS S ops.toList (!memN i X) i o E w K (fun _ ch w => QP ch w) → (if zgG S.τ o.op = true then ∃ v, PV S.P o a w v ∧ next (a.put o.dst v) w
       else UponE S n o a w (fun a' w' => (memN i X = false → Below w.heap.size w w') ∧ next a' w') (PQ QP)) := fun h => by
      unfold zjS at h
      split at h
      · rename_i hp
        rw [if_pos hp]
        obtain ⟨v, hk, hr⟩ := zgn hS h
        exact ⟨v, fun w2 hb => hr a ha w2 hb, hn _ _ _ (ha.put hd v) (zit hk)⟩
      · rename_i hp
        rw [if_neg (by simp [hp])]
        split at h
        · rename_i hm
          have hm' : memN i X = true := by simpa using hm
          exact zfz hS h ha (fun v w' hk => ⟨fun hf => (by rw [hm'] at hf; cases hf), hn _ _ _ (ha.put hd v) hk⟩) (fun _ _ h => h)
        · exact zfz hS h ha (fun v w' hk => ⟨fun _ => hk.1, hn _ _ _ (ha.put hd v) hk.2⟩) (fun _ _ h => h)
    have sk : K (setE o.dst undef E) w → next (a.put o.dst undef) w := fun h => hn _ _ _ (ha.put hd undef) h
    unfold zca
    simp only [ho]
    split at h
    · rename_i hg
      have : Region.wanted o (yielded ops a.tmps) = true := by simp [Region.wanted, hg]
      rw [if_pos this]; exact ex h
    · rename_i j want hg
      split at h
      · rename_i b hgv
        have hy := ze7 ha hgv
        have hw : Region.wanted o (yielded ops a.tmps) = (b == want) := by simp [Region.wanted, hg, hy]
        rw [hw]
        cases b <;> cases want <;> simp only [] at h <;> first | exact ex h | exact sk h
      · rename_i hgv
        have hy := ze7 ha hgv
        have hw : Region.wanted o (yielded ops a.tmps) = false := by simp [Region.wanted, hg, hy]
        rw [hw]
        exact sk h
      · exact h.elim
end
section
variable {S : Sig} {n : Nat}
def lift (S : Sig) (Q : Exit → Env → World → Prop) : Exit → Act → World → Prop := fun ex a w => ∃ E, Agrees S a E ∧ Q ex E w
theorem zhl (hS : SigOk S) {ops : Array Oper} (hsel : ∀ o ∈ ops, zcx o.op = true) {Q : Exit → Env → World → Prop} :
    ∀ (r : List Oper) (i : Nat) (E : Env) (a : Act) (w : World), (∀ k o, r[k]? = some o → ops[i + k]? = some o) → Agrees S a E →
      opsE S ops.toList i r E w (fun E w => Q .normal E w) (fun E ch w => Q (.panic ch) E w) →
      wpOpsIn (FR S.r) n S.P ops (lift S Q) (List.range' i r.length) a w
  | [], i, E, a, w, _, ha, h => by simp only [List.length_nil, List.range'_zero, wpOpsIn]; exact ⟨E, ha, h⟩
  | o :: r, i, E, a, w, hr, ha, h => by
    rw [List.length_cons, List.range'_succ, wpOpsIn_cons]
    have ho : ops[i]? = some o := by simpa using hr 0 o rfl
    refine zmn hS ho (hsel o (Array.mem_of_getElem? ho)) h ha (fun E' a' w' ha' hk => ?_) (fun ch w' hk => ⟨E, ha, hk⟩)
    exact zhl hS hsel r (i + 1) E' a' w' (fun k o' hk => by have := hr (k + 1) o' (by simpa using hk); rwa [Nat.add_assoc, Nat.add_comm 1 k]) ha' hk
theorem zhk (hS : SigOk S) {X : List Nat} {QP : List PanicEntry → World → Prop} {ops : Array Oper} (hsel : ∀ o ∈ ops, zcx o.op = true) {K : Env → World → Prop} :
    ∀ (L : List Nat) (E : Env) (a : Act) (w : World), Agrees S a E → opsO S ops.toList X QP L E w K →
      zjJ S X n QP ops (fun a w => ∃ E, Agrees S a E ∧ K E w) L a w
  | [], E, _, _, ha, h => ⟨E, ha, h⟩
  | i :: r, E, a, w, ha, h => by
    simp only [opsO, zfX] at h
    split at h
    · rename_i o ho
      have ho' : ops[i]? = some o := by simpa using ho
      exact zgf hS ho' (hsel o (Array.mem_of_getElem? ho')) h ha (fun E' a' w' ha' hk => zhk hS hsel r E' a' w' ha' hk)
    · exact h.elim
theorem zdu (hS : SigOk S) {X : List Nat} {QP : List PanicEntry → World → Prop} {ops : Array Oper} (hsel : ∀ o ∈ ops, zcx o.op = true) {K : Env → World → Prop} :
    ∀ (T : OT) (E : Env) (a : Act) (w : World), Agrees S a E → opsT S ops.toList X QP T E w K →
      zfO S X n QP ops (fun a w => ∃ E, Agrees S a E ∧ K E w) T a w
  | .nil, E, _, _, ha, h => ⟨E, ha, h⟩
  | .op i t, E, a, w, ha, h => by
    simp only [opsT, zfX] at h
    split at h
    · rename_i o ho
      have ho' : ops[i]? = some o := by simpa using ho
      exact zgf hS ho' (hsel o (Array.mem_of_getElem? ho')) h ha (fun E' a' w' ha' hk => zdu hS hsel t E' a' w' ha' hk)
    · exact h.elim
  | .alt x y, E, a, w, ha, h => ⟨zdu hS hsel x E a w ha h.1, zdu hS hsel y E a w ha h.2⟩
def DrawE (S : Sig) (ops : Array Oper) (E : Env) (w : World) (K : Env → World → Prop) (QP : List PanicEntry → World → Prop) : Prop :=
  (∃ X L : List Nat, ordB S.τ X ops L = true ∧ opsO S ops.toList X QP L E w.drew K) ∨
  (∃ (X : List Nat) (T : OT), (covT (ze6 S.τ X ops) ops ops.size (Array.replicate ops.size false) T && ops.all (fun o => zcx o.op)) = true ∧ opsT S ops.toList X QP T E w.drew K) ∨
  (∃ (X : List Nat) (T : OT), (covA (ze6 S.τ X ops) ops ops.size (Array.replicate ops.size false) T && ops.all (fun o => zcx o.op)) = true ∧ opsT S ops.toList X QP T E w.drew K)
theorem DrawE.ord {S : Sig} {ops : Array Oper} {E : Env} {w : World} {K : Env → World → Prop} {QP : List PanicEntry → World → Prop} (X L : List Nat) (h : ordB S.τ X ops L = true) (k : opsO S ops.toList X QP L E w.drew K) : DrawE S ops E w K QP :=
  .inl ⟨X, L, h, k⟩
def zpR (ops : List Oper) : Bool := ops.all fun o => zcx o.op
def zrA (body : Env → World → (Exit → Env → World → Prop) → Prop) (E : Env) (w : World) (Q : Exit → Env → World → Prop) : Prop :=
  ∃ (σ : Type) (env : σ → Env) (inv : σ → World → Prop) (μ : σ → Nat) (s0 : σ), Cov E (env s0) ∧ inv s0 w ∧
    ∀ s w, inv s w → body (env s) w fun ex E' w' => match ex with
      | .normal => ∃ s', Cov E' (env s') ∧ inv s' w' ∧ μ s' < μ s
      | ex => Q ex E' w'
def zlc (S : Sig) (f : Operand) (params : Array Tmp) (assign body : Code) (E : Env) (w : World) (Q : Exit → Env → World → Prop) : Prop :=
  ∀ a, Agrees S a E → (Code.rangeFunc f params assign body).wpIn (FR S.r) NN S.P (lift S Q) a w
def wpE (S : Sig) : Code → Env → World → (Exit → Env → World → Prop) → Prop
  | .skip, E, w, Q => Q .normal E w
  | .region _ ops draw, E, w, Q => (match draw with
    | false => (match zpR ops.toList with
      | true => opsE S ops.toList 0 ops.toList E w (fun E w => Q .normal E w) (fun E ch w => Q (.panic ch) E w)
      | false => False)
    | true => DrawE S ops E w (fun E w => Q .normal E w) (fun ch w => Q (.panic ch) ⟨[], E.ds⟩ w))
  | .seq x y, E, w, Q => wpE S x E w fun ex E' w' => match ex with
    | .normal => wpE S y E' w' Q
    | ex => Q ex E' w'
  | .cond c x y, E, w, Q => (match opd E c with
    | some (.bool b) => Br b (wpE S x E w Q) (wpE S y E w Q)
    | _ => False)
  | .block id x, E, w, Q => wpE S x E w fun ex E' w' => match ex with
    | .exit id' => (match Nat.beq id' id with
      | true => Q .normal E' w'
      | false => Q (.exit id') E' w')
    | ex => Q ex E' w'
  | .loop x, E, w, Q => zrA (fun E w Q => wpE S x E w Q) E w Q
  | .rangeFunc f ps ags x, E, w, Q => zlc S f ps ags x E w Q
  | .exit id, E, w, Q => Q (.exit id) E w
  | .scope _, _, _, _ => False
  | .label _, E, w, Q => Q .normal E w
  | .goto l, E, w, Q => Q (.goto l) E w
  | .ret, E, w, Q => Q .ret E w
  | .refuse _, _, _, _ => False
theorem zbf (hS : SigOk S) : ∀ (c : Code) (E : Env) (a : Act) (w : World) (Q : Exit → Env → World → Prop), Agrees S a E → wpE S c E w Q → c.wpIn (FR S.r) NN S.P (lift S Q) a w
  | .skip, E, a, w, Q, ha, h => wpIn_skip ⟨E, ha, h⟩
  | .region id ops draw, E, a, w, Q, ha, h => by
    cases draw with
    | false =>
      simp only [wpE] at h
      split at h
      · rename_i hs
        refine wpIn_region ?_
        rw [List.range_eq_range']
        have hs' : ∀ o ∈ ops, zcx o.op = true := fun o ho => by
          simp only [zpR, List.all_eq_true] at hs
          exact hs o (Array.mem_toList_iff.2 ho)
        have := zhl (n := NN) hS hs' ops.toList 0 E a w (fun k o hk => by simpa using hk) ha h
        simpa using this
      · exact h.elim
    | true =>
      simp only [wpE] at h
      refine wpIn_region_any hS.mixed ?_
      have hI : ∀ (b : Act) (dst : Option Tmp) (v : Value), (b.tmps.size = S.n ∧ b.defers = E.ds) → ((b.put dst v).tmps.size = S.n ∧ (b.put dst v).defers = E.ds) := fun b dst v hb => by
        cases dst with
        | none => exact hb
        | some d => exact ⟨by simp [Act.put, hb.1], hb.2⟩
      have hQ : ∀ ch (b : Act) w, (b.tmps.size = S.n ∧ b.defers = E.ds) → Q (.panic ch) ⟨[], E.ds⟩ w → lift S Q (.panic ch) b w := fun ch b w hb hq => ⟨⟨[], E.ds⟩, ⟨hb.1, hb.2, fun t v hv => by simp [Env.find, VEnv.find] at hv⟩, hq⟩
      have hia : a.tmps.size = S.n ∧ a.defers = E.ds := ⟨ha.size, ha.defers⟩
      rcases h with ⟨X, L, hL, h⟩ | ⟨X, T, hT, h⟩ | ⟨X, T, hT, h⟩
      · obtain ⟨hlen, hO, hs⟩ := zmX hL
        have h1 := zhk (n := NN) hS hs L E a w.drew ha h
        refine zg3 (Q := lift S Q) hI hQ hs hO ops.size L (Array.replicate ops.size false) a w.drew hlen (List.Sublist.refl _) (by simp) (fun i => ?_) (fun j o hj => ?_) hia h1
        · rw [hO.mem i]
          refine ⟨fun hi => ⟨hi, by simp [hi]⟩, fun hi => hi.1⟩
        · exfalso
          by_cases hjs : j < ops.size <;> simp [hjs] at hj
      · simp only [Bool.and_eq_true, Array.all_eq_true_iff_forall_mem] at hT
        exact zg2 (Q := lift S Q) hI hQ hT.2 (fun k i h => zeF h) ops.size _ T a w.drew hT.1 hia (zdu (n := NN) hS hT.2 T E a w.drew ha h)
      · simp only [Bool.and_eq_true, Array.all_eq_true_iff_forall_mem] at hT
        exact zfN (Q := lift S Q) hI hQ hT.2 (fun k i h => zeF h) ops.size _ T a w.drew hT.1 hia (zdu (n := NN) hS hT.2 T E a w.drew ha h)
  | .seq x y, E, a, w, Q, ha, h => by
    refine wpIn_seq ?_
    refine wpIn_mono (zbf hS x E a w _ ha h) ?_
    rintro ex a' w' ⟨E', ha', hq⟩
    cases ex with
    | normal => exact zbf hS y E' a' w' Q ha' hq
    | _ => exact ⟨E', ha', hq⟩
  | .cond c x y, E, a, w, Q, ha, h => by
    simp only [wpE] at h
    split at h
    · rename_i b hb
      refine wpIn_cond_split (ha.eval hb) (fun e => zbf hS x E a w Q ha (h.1 e)) (fun e => zbf hS y E a w Q ha (h.2 e))
    · exact h.elim
  | .block id x, E, a, w, Q, ha, h => by
    refine wpIn_block ?_
    refine wpIn_mono (zbf hS x E a w _ ha h) ?_
    rintro ex a' w' ⟨E', ha', hq⟩
    cases ex with
    | exit id' =>
      simp only [Exit.inBlock]
      dsimp only at hq
      split at hq
      · rename_i hb; rw [if_pos (Nat.eq_of_beq_eq_true hb)]; exact ⟨E', ha', hq⟩
      · rename_i hb; rw [if_neg (Nat.ne_of_beq_eq_false hb)]; exact ⟨E', ha', hq⟩
    | _ => exact ⟨E', ha', hq⟩
  | .loop x, E, a, w, Q, ha, h => by
    obtain ⟨σ, env, inv, μ, s0, hc, hi, hb⟩ := h
    have key : ∀ m s a w, μ s = m → Agrees S a (env s) → inv s w → (Code.loop x).wpIn (FR S.r) NN S.P (lift S Q) a w := by
      intro m s a w hm ha hi
      refine wpIn_loop (fun a w => ∃ s, Agrees S a (env s) ∧ inv s w) (fun a w => leastOf (fun k => ∃ s, Agrees S a (env s) ∧ inv s w ∧ μ s = k)) ⟨s, ha, hi⟩ ?_
      intro a w ⟨s1, ha1, hi1⟩
      obtain ⟨⟨s2, ha2, hi2, hm2⟩, _⟩ := leastOf_spec (p := fun k => ∃ s, Agrees S a (env s) ∧ inv s w ∧ μ s = k) ⟨_, s1, ha1, hi1, rfl⟩
      refine wpIn_mono (zbf hS x (env s2) a w _ ha2 (hb s2 w hi2)) ?_
      rintro ex a' w' ⟨E', ha', hq⟩
      cases ex with
      | normal =>
        obtain ⟨s', hc', hi', hlt⟩ := hq
        refine ⟨⟨s', ha'.cov hc', hi'⟩, ?_⟩
        have := (leastOf_spec (p := fun k => ∃ s, Agrees S a' (env s) ∧ inv s w' ∧ μ s = k) ⟨_, s', ha'.cov hc', hi', rfl⟩).2
        rw [← hm2]
        exact Nat.lt_of_le_of_lt (this _ ⟨s', ha'.cov hc', hi', rfl⟩) hlt
      | _ => exact ⟨E', ha', hq⟩
    exact key _ s0 a w rfl (ha.cov hc) hi
  | .rangeFunc f ps ags x, E, a, w, Q, ha, h => h a ha
  | .exit id, E, a, w, Q, ha, h => wpIn_exit ⟨E, ha, h⟩
  | .scope _, _, _, _, _, _, h => h.elim
  | .label _, E, a, w, Q, ha, h => wpIn_label ⟨E, ha, h⟩
  | .goto l, E, a, w, Q, ha, h => wpIn_goto ⟨E, ha, h⟩
  | .ret, E, a, w, Q, ha, h => wpIn_ret ⟨E, ha, h⟩
  | .refuse _, _, _, _, _, _, h => h.elim
def resE (E : Env) (w : World) : (τ : TT) → List ResultVar → (List Value → Prop) → Prop
  | _, [], K => K []
  | τ, .tmp t :: r, K => za1 E (.tmp t) fun v => resE E w τ r fun vs => K (v :: vs)
  | τ, .cell t T :: r, K => za1 E (.tmp t) fun va => (match va with
    | .pointer (some p) => (match TT.get τ T with
      | some { agg := true, size := sz, .. } => ∃ us : List Value, us.length = sz ∧ zax w p us ∧ resE E w τ r fun vs => K (.agg us.toArray :: vs)
      | some { agg := false, .. } => ∃ u, w.cell? p = some u ∧ resE E w τ r fun vs => K (u :: vs)
      | none => False)
    | _ => False)
def zjB : List Value → Value
  | [v] => v
  | l => .tuple l.toArray
theorem zfT {S : Sig} (hS : SigOk S) {E : Env} {a : Act} {w : World} (ha : Agrees S a E) : ∀ (l : List ResultVar) (K : List Value → Prop), resE E w S.τ l K →
    ∃ vs, K vs ∧ (l.mapM fun | .tmp t => pure (a.tmps.getD t undef) | .cell q t => do loadVar t (← asAddr (a.tmps.getD q undef)) : Sem (List Value)).run S.P w = .ok vs w
  | [], K, h => ⟨[], h, rfl⟩
  | .tmp t :: r, K, h => by
    obtain ⟨v, hv, h⟩ := zap h
    obtain ⟨vs, hk, hr⟩ := zfT hS ha r _ h
    have : a.tmps.getD t undef = v := ha.eval hv
    refine ⟨_, hk, ?_⟩
    simp only [List.mapM_cons, Sem.run_bind, Sem.run_pure, Result.andThen_ok, this]
    rw [hr]
    rfl
  | .cell q T :: r, K, h => by
    simp only [resE] at h
    replace h := zap h
    obtain ⟨va, hv, h⟩ := h
    have e0 : a.tmps.getD q undef = va := ha.eval hv
    split at h
    · rename_i p
      split at h
      · rename_i sz _ _ ht
        obtain ⟨us, hl, hc, h⟩ := h
        obtain ⟨vs, hk, hr⟩ := zfT hS ha r _ h
        refine ⟨_, hk, ?_⟩
        have e : asAddr (a.tmps.getD q undef) = pure p := by rw [e0]; rfl
        simp only [List.mapM_cons, Sem.run_bind, Sem.run_pure, Result.andThen_ok, e, zgC (hS.ty _ _ ht) rfl hl hc]
        rw [hr]
        rfl
      · rename_i _ _ _ _ ht
        obtain ⟨u, hc, h⟩ := h
        obtain ⟨vs, hk, hr⟩ := zfT hS ha r _ h
        refine ⟨_, hk, ?_⟩
        have e : asAddr (a.tmps.getD q undef) = pure p := by rw [e0]; rfl
        simp only [List.mapM_cons, Sem.run_bind, Sem.run_pure, Result.andThen_ok, e, zgB (hS.ty _ _ ht) rfl hc]
        rw [hr]
        rfl
      · exact h.elim
    · exact h.elim
theorem zjt {S : Sig} (hS : SigOk S) {E : Env} {a : Act} {w : World} (ha : Agrees S a E) {fn : Func} {K : Value → Prop} (h : resE E w S.τ fn.results.toList fun vs => K (zjB vs)) :
    ∃ v, K v ∧ (results fn a.tmps).run S.P w = .ok v w := by
  obtain ⟨vs, hk, hr⟩ := zfT hS ha _ _ h
  refine ⟨_, hk, ?_⟩
  unfold results
  rw [Sem.run_bind, Array.mapM_eq_mapM_toList, Sem.run_map]
  refine Eq.trans (congrArg (fun x => Result.andThen (Result.andThen x _) _) hr) ?_
  simp only [Result.andThen_ok, Sem.run_pure]
  congr 1
  match vs with
  | [] => simp [zjB]
  | [v] => simp [zjB]
  | v :: u :: r => simp [zjB]
def zkE : List Deferred → World → (World → Prop) → Prop
  | [], w, K => K w
  | d :: r, w, K => ∃ b, d.target = .collected b ∧ w.heap[b]? = some (.deferred (some [])) ∧ zkE r (w.putObj b (.deferred none)) K
def zoD (S : Sig) (fn : Func) (R : Ending → World → Prop) : Exit → Env → World → Prop
  | .normal, E, w => zkE E.ds w fun w' => resE E w' S.τ fn.results.toList fun vs => R (.returned (zjB vs)) w'
  | .ret, E, w => zkE E.ds w fun w' => resE E w' S.τ fn.results.toList fun vs => R (.returned (zjB vs)) w'
  | .panic ch, E, w => E.ds = [] ∧ R (.panicked ch) w
  | _, _, _ => False
theorem zcL {S : Sig} (hS : SigOk S) {fn : Func} {R : Ending → World → Prop} {a : Act} {E : Env} (ha : Agrees S a E) : ∀ (ds : List Deferred) (w : World),
    (zkE ds w fun w' => resE E w' S.τ fn.results.toList fun vs => R (.returned (zjB vs)) w') → LeavesInM (FR none) NN S.P fn a.tmps R ds .returning w
  | [], w, h => by
    obtain ⟨v, hk, hr⟩ := zjt hS ha (K := fun v => R (.returned v) w) h
    exact ⟨v, hr, hk⟩
  | d :: r, w, ⟨b, hd, hb, h⟩ => ⟨by simp, .inl ⟨b, _, hd, run_takeDeferred hb, zcL hS ha r _ h⟩⟩
def zhb : Nat → List Value → VEnv
  | _, [] => []
  | i, v :: r => (i, v) :: zhb (i + 1) r
theorem zfE : ∀ (l : List Value) (i t : Nat) (v : Value), VEnv.find (zhb i l) t = some v → i ≤ t ∧ l[t - i]? = some v
  | [], _, _, _, h => by simp [zhb, VEnv.find] at h
  | u :: r, i, t, v, h => by
    simp only [zhb, VEnv.find] at h
    cases hb : Nat.beq i t with
    | true =>
      rw [hb] at h
      have e : i = t := Nat.eq_of_beq_eq_true hb
      subst e
      simp only [Option.some.injEq] at h
      subst h
      simp
    | false =>
      rw [hb] at h
      obtain ⟨h1, h2⟩ := zfE r (i + 1) t v h
      refine ⟨by omega, ?_⟩
      have : t - i = (t - (i + 1)) + 1 := by omega
      rw [this]
      simpa using h2
theorem zbd {S : Sig} (hS : SigOk S) {f : FuncId} {fn : Func} {c : Code} {args : List Value} {w : World} {R : Ending → World → Prop}
    (hf : S.P.funcs[f]? = some fn) (hb : fn.body = some c) (hn : fn.ntmps = S.n) (hle : args.length ≤ S.n) (hr : S.r = none)
    (h : wpE S c ⟨zhb 0 args, []⟩ w (zoD S fn R)) : Calls S.P f args.toArray w R := by
  rw [← callsIn_wide (n := NN)]
  have hF : FR none = Fence.wide := rfl
  rw [← hF]
  refine callsIn_of_wp_marks hf hb trivial ?_
  have ha : Agrees S { tmps := args.toArray ++ Array.replicate (fn.ntmps - args.toArray.size) undef, defers := [] } ⟨zhb 0 args, []⟩ := by
    refine ⟨?_, rfl, fun t v hv => ?_⟩
    · simp [hn]; omega
    · obtain ⟨_, h2⟩ := zfE _ _ _ _ hv
      simp only [Nat.sub_zero] at h2
      have hlt : t < args.length := (List.getElem?_eq_some_iff.1 h2).1
      simp only [Array.getElem?_append, List.size_toArray, hlt, if_true]
      simpa using h2
  have h1 := zbf hS c _ _ w _ ha h
  rw [hr] at h1
  refine wpIn_mono h1 ?_
  rintro ex a' w' ⟨E', ha', hq⟩
  cases ex with
  | normal => have := zcL hS ha' _ _ hq; rw [← ha'.defers] at this; exact this
  | ret => have := zcL hS ha' _ _ hq; rw [← ha'.defers] at this; exact this
  | panic ch =>
    obtain ⟨hd, hR⟩ := hq
    show LeavesInM _ _ _ _ _ _ a'.defers _ _
    rw [ha'.defers, hd]
    exact hR
  | exit _ => exact hq.elim
  | goto _ => exact hq.elim
  | outgrown => exact hq.elim
end
theorem rb {a b:Bool} (h:a=b):Ending.returned (.bool a)=Ending.returned (.bool b):=by rw [h]
theorem ri {k:IntKind} {a b:Int} (h:a=b):Ending.returned (.int k a)=Ending.returned (.int k b):=by rw [h]
theorem zaj {a:Int} (h : -9223372036854775808<=a/\a<=9223372036854775807):IntKind.i64.wrap a=a:=by
 unfold IntKind.wrap;simp only [IntKind.bits,IntKind.signed,Bool.true_and,show ((2:Int)^64)=18446744073709551616 from rfl,show ((2:Int)^(64-1))=9223372036854775808 from rfl]
 split
 ·rename_i h2;have:=dT h2;omega
 ·rename_i h2;have h3:a%18446744073709551616<9223372036854775808:=by simpa using h2
  omega
theorem nxI {k:Nat} {K:Int->Prop} (h:(k:Int)+1<=9223372036854775807) (x:K ((k+1:Nat):Int)):∃ m,IntKind.i64.wrap ((k:Int)+1)=m/\K m:=⟨_,(zaj (by omega)).trans (by omega),x⟩
theorem zhF {a:Int} (h:0<=a/\a<=255):IntKind.u8.wrap a=a:=by
 unfold IntKind.wrap;simp only [IntKind.bits,IntKind.signed,Bool.false_and,Bool.false_eq_true,if_false];omega
theorem zsY (x:UInt8):(x.toNat:Int)<=255:=by have:=x.toNat_lt;omega
theorem zaN (x:UInt8):IntKind.i64.wrap (x.toNat:Int)=(x.toNat:Int):=zaj (by have:=zsY x;omega)
theorem zbj {x y:UInt8}:((x.toNat:Int)=(y.toNat:Int))↔x=y :=
 ⟨fun h=>UInt8.toNat_inj.1 (by omega),fun h=>by rw [h]⟩
def u8 (x:UInt8):Value := .int .u8 x.toNat
theorem zlP {w:World} {b o:Nat} {v:Value} {vs:List Value} (h:zax w ⟨b,o,none⟩ (v::vs)):w.cell? ⟨b,o,none⟩=some v:=by
 have:=h 0 v rfl
 rwa [zdk] at this
theorem zac {w:World} {b o:Nat} {vs:List Value} (h:zax w ⟨b,o,none⟩ vs) {i:Nat} {v:Value} (hv:vs[i]?=some v):w.cell? ⟨b,o+i,none⟩=some v:=by
 have:=h i v hv
 rwa [zdk] at this
theorem zcG {w:World} {b o:Nat} {vs:List Value} (h:∀ i v,vs[i]?=some v->w.cell? ⟨b,o+i,none⟩=some v):zax w ⟨b,o,none⟩ vs :=
 fun i v hv=>by rw [zdk];exact h i v hv
theorem zaC {w:World} {b o n m:Nat} {vs:List Value} (h:zax w ⟨b,o,none⟩ vs):zax w ⟨b,o+n,none⟩ ((vs.drop n).take m):=by
 refine zcG fun i v hv=>?_;rw [List.getElem?_take] at hv
 split at hv
 ·rw [List.getElem?_drop] at hv;have:=zac h hv
  rwa [<- Nat.add_assoc] at this
 ·cases hv
theorem zab {w:World} {g:Nat} {cs:Array Value} {t:TypeId} {fr:Nat×Nat} (h:w.heap[g]?=some (.cells cs t fr)):zax w ⟨g,0,none⟩ cs.toList:=by
 refine zcG fun i v hv=>?_;rw [cell_of_row w g (0+i) cs t fr h,Nat.zero_add];simpa using hv
theorem zea {w:World} {g o n:Nat} {cs:Array Value} {t:TypeId} {fr:Nat×Nat} (h:w.heap[g]?=some (.cells cs t fr)):zax w ⟨g,o,none⟩ ((cs.toList.drop o).take n):=by
 have:=zaC (n:=o) (m:=n) (zab h)
 rwa [Nat.zero_add] at this
theorem zjd {w:World} {cs:Array Value} {t:TypeId}:zax (w.alloc (.cells cs t)) ⟨w.heap.size,0,none⟩ cs.toList :=
 zab (heap_alloc_new w _)
theorem zaa {w w2:World} (hb:Bw w w2) {g:Nat} {o:Obj} (h:w.heap[g]?=some o):w2.heap[g]?=some o :=
 (hb.block g (Array.getElem?_eq_some_iff.1 h).1).trans h
structure Enc (α:Type) where
 enc:α->List Value
 sz:Nat
 len:∀ a,(enc a).length=sz
 pos:0<sz
 one:∀ a,∀ u∈enc a,u.oneCell'=true
def SlR {α:Type} (E:Enc α) (w:World) (p:Option Addr) (l:List α):Prop :=
 l=[]\/∃ b o,p=some ⟨b,o,none⟩/\b<w.heap.size/\∀ i (h:i<l.length),zax w ⟨b,o+i*E.sz,none⟩ (E.enc l[i])
section
variable {α:Type} {E:Enc α} {w w2:World} {p:Option Addr} {l:List α}
theorem SlR.nil {E:Enc α} {w:World} {p:Option Addr}:SlR E w p [] := .inl rfl
theorem SlR.at (h:SlR E w p l) {i:Nat} (hi:i<l.length):∃ b o,p=some ⟨b,o,none⟩/\b<w.heap.size/\∀ i (h:i<l.length),zax w ⟨b,o+i*E.sz,none⟩ (E.enc l[i]):=by
 rcases h with rfl | h
 ·simp at hi
 ·exact h
theorem SlR.below (h:SlR E w p l) (hb:Bw w w2):SlR E w2 p l:=by
 rcases h with rfl | ⟨b,o,hp,hlt,hc⟩
 ·exact .inl rfl
 ·exact .inr ⟨b,o,hp,nL hlt hb.size,fun i hi=>zae hb (hc i hi)⟩
theorem zf2 (l:List α) (i:Nat) (hi:i<l.length):(((l.flatMap E.enc).drop (i*E.sz)).take E.sz)=E.enc l[i]:=by
 induction l generalizing i with
 | nil=>simp at hi
 | cons a r ih =>
  rw [List.flatMap_cons]
  cases i with
  | zero=>simp [<- E.len a]
  | succ i =>
   have e:(i+1)*E.sz=(E.enc a).length+i*E.sz:=by rw [E.len,Nat.add_mul];omega
   rw [e,<- List.drop_drop,List.drop_left];simpa using ih i (by simpa using hi)
theorem zbg (l:List α):(l.flatMap E.enc).length=l.length*E.sz:=by
 induction l with
 | nil=>simp
 | cons a r ih=>rw [List.flatMap_cons,lap,ih,E.len,List.length_cons,Nat.add_mul];omega
theorem zh5 (l:List α):∀ u∈l.flatMap E.enc,u.oneCell'=true:=fun u hu=>by
 obtain⟨a,_,h⟩:=List.mem_flatMap.1 hu;exact E.one a u h
theorem SlR.of_cells {b o:Nat} (hb:b<w.heap.size) (h:zax w ⟨b,o,none⟩ (l.flatMap E.enc)):SlR E w (some ⟨b,o,none⟩) l :=
 .inr ⟨b,o,rfl,hb,fun i hi=>by rw [<- zf2 l i hi];exact zaC h⟩
theorem SlR.cells {b o:Nat} (h:SlR E w (some ⟨b,o,none⟩) l):zax w ⟨b,o,none⟩ (l.flatMap E.enc):=by
 rcases h with rfl | ⟨b',o',hp,hlt,hc⟩
 ·intro i v hv;simp at hv
 ·cases hp
  refine zcG fun j v hv=>?_;have hj:j<l.length*E.sz:=by rw [<- zbg (E:=E) l];exact (List.getElem?_eq_some_iff.1 hv).1
  have hs:=E.pos;have hd:j/E.sz<l.length:=Nat.div_lt_of_lt_mul (by rw [Nat.mul_comm];exact hj);have h2:(E.enc l[j/E.sz])[j%E.sz]?=some v:=by
   rw [<- zf2 l _ hd,List.getElem?_take,if_pos (Nat.mod_lt _ hs),List.getElem?_drop,Nat.mul_comm,Nat.div_add_mod];exact hv
  have h3:=zac (hc _ hd) h2
  rwa [Nat.add_assoc,Nat.mul_comm,Nat.div_add_mod] at h3
def OwnS (E:Enc α) (T:TypeId) (B:Nat) (w:World) (p:Option Addr) (cap:Nat) (l:List α):Prop :=
 w.ownsRow B T E.sz (.slice p l.length cap) l.length (l.flatMap E.enc)
theorem OwnS.nil {E:Enc α} {T B:Nat} {w:World}:OwnS E T B w none 0 []:=by
 unfold OwnS;exact World.ownsRow_nil _ _ _ _
theorem OwnS.inv {T B cap:Nat} (h:OwnS E T B w p cap l):(p=none/\cap=0/\l=[]) \/
  ∃ g cur,p=some ⟨g,0,none⟩/\B<=g/\w.heap[g]?=some (.cells cur T (0,0))/\l.length<=cap/\cap<=maxLen/\cur.size=cap*E.sz/\cur.toList.take (l.length*E.sz)=l.flatMap E.enc:=by
 obtain⟨h1,h2⟩:=h;rcases h2 with ⟨h2,h3⟩ | ⟨g,cap',cur,h2,hb,hg,hn,hm,hs,ht⟩
 ·simp only [Value.slice.injEq] at h2;exact .inl ⟨h2.1,h2.2.2,List.eq_nil_of_length_eq_zero h3⟩
 ·simp only [Value.slice.injEq,true_and] at h2;obtain⟨rfl,rfl⟩:=h2;exact .inr ⟨g,cur,rfl,hb,hg,hn,hm,hs,ht⟩
theorem OwnS.row {T B cap:Nat} (h:OwnS E T B w p cap l):SlR E w p l:=by
 rcases h.inv with ⟨_,_,rfl⟩ | ⟨g,cur,rfl,_,hg,_,_,_,ht⟩
 ·exact .inl rfl
 ·refine SlR.of_cells (Array.getElem?_eq_some_iff.1 hg).1 ?_;rw [<- ht];exact zea (o:=0) hg
theorem OwnS.kept {T B cap:Nat} (h:OwnS E T B w p cap l) {w':World} {row:Option Nat} (hg:w.grownBy w' row) (hne:∀ g,p=some ⟨g,0,none⟩->row≠some g):OwnS E T B w' p cap l:=by
 refine World.ownsRow.kept h hg ?_;rcases h.inv with ⟨rfl,_⟩ | ⟨g,_,rfl,_⟩
 ·exact .inl rfl
 ·exact .inr (fun e=>hne g rfl e.symm)
theorem OwnS.below {T B cap:Nat} (h:OwnS E T B w p cap l) (hb:Bw w w2):OwnS E T B w2 p cap l :=
 h.kept (row:=none) ⟨hb.os,hb.tape,hb.output,hb.size,fun k hk _=>hb.block k hk⟩ (fun _ _ h=>by cases h)
theorem OwnS.alloc {T B cap:Nat} (h:OwnS E T B w p cap l) (o:Obj):OwnS E T B (w.alloc o) p cap l :=
 h.below ((Below.refl _ w).alloc (Nat.le_refl _) o)
theorem OwnS.drew {T B cap:Nat} (h:OwnS E T B w p cap l):OwnS E T B w.drew p cap l:=h.below (Below.refl _ w).drew
theorem zbJ {P:Program} {t T ty B cap m c:Nat} {a:Addr} {news:List α} {iT:TI} {z:List Value} (hu:P.underlying t=some (.slice T)) (hT:TIok P T iT) (hz:iT.zero=some z)
  (hs:iT.size=E.sz) (hzl:z.length=E.sz) (ho:OwnS E T B w p cap l) (hm:news.length=m) (hn:zax w a (news.flatMap E.enc)) (hB:B<=w.heap.size)
  (h1:l.length+m<=9223372036854775807) (h2:(l.length+m)*iT.bytes<=140737488355328) {K:Value->World->Prop}
  (k:∀ p' cap' w',OwnS E T B w' p' cap' (l++news)->w.grownBy w' (Value.slice p l.length cap).ownBlock->Below B w w' ->
   (∀ a,p'=some a->p=some a\/a.block=w.heap.size)->K (.slice p' (l++news).length cap') w') :
  SatR ((Builtin.append_ #[t,t] ty #[.slice p l.length cap,.slice (some a) m c]).run P w) K:=by
 obtain⟨⟨inf,hi,hsz,hby,hzz⟩,_⟩:=hT;obtain⟨zv,hzv,hzc⟩:=hzz z hz;have hown:=run_append_own_at (P:=P) w B t ty T inf zv E.sz iT.bytes hu hi hzv (hsz.trans hs) hby (by rw [<- hzl,<- hzc];simp) E.pos (.slice p l.length cap) l.length (l.flatMap E.enc) ho a m c (news.flatMap E.enc)
  (by rw [zbg,hm]) hn (zh5 news) (by unfold maxLen;omega) h2 hB
 obtain⟨v',w',hr,ho',hg,_,hat⟩:=hown;refine SatR.mk hr ?_;have hl:l.length+m=(l++news).length:=by simp [hm]
 have hf:l.flatMap E.enc++news.flatMap E.enc=(l++news).flatMap E.enc:=by rw [List.flatMap_append]
 rw [hl,hf] at ho';have hb:Below B w w':=(Below.refl B w).grown hg hB (fun k e=>(World.ownsRow.lt ho k e).1);rcases ho'.2 with ⟨rfl,h0⟩ | ⟨g,cap',cur,rfl,rest⟩
 ·have:K (.slice none (l++news).length 0) w':=k none 0 w' (by unfold OwnS;rw [h0] at ho' ⊢;exact ho') hg hb (fun _ h=>by cases h);rw [h0] at this;exact this
 ·refine k _ _ w' ho' hg hb fun a ha=>?_
  cases ha
  rcases hat with h1 | h1
  ·rcases ho.inv with ⟨rfl,_⟩ | ⟨g',_,rfl,_⟩
   ·simp [Value.ownBlock] at h1
   ·simp [Value.ownBlock] at h1;exact .inl (by rw [h1])
  ·simp [Value.ownBlock] at h1;exact .inr h1
theorem OwnS.same {T B cap:Nat} (h:OwnS E T B w p cap l) {w':World} (hs:∀ a,p=some a->w'.heap[a.block]?=w.heap[a.block]?):OwnS E T B w' p cap l:=by
 obtain⟨h1,h2⟩:=h;refine⟨h1,?_⟩;rcases h2 with h2 | ⟨g,cap',cur,h2,hb,hg,rest⟩
 ·exact .inl h2
 ·refine .inr ⟨g,cap',cur,h2,hb,?_,rest⟩;simp only [Value.slice.injEq] at h2;rw [<- hg];exact hs _ h2.1
end
theorem hnew (w:World) (o:Obj):(w.alloc o).heap[w.heap.size]?=some o:=by
 show (w.heap.push o)[w.heap.size]?=some o;simp
theorem hold {w:World} {i:Nat} {x:Obj} (o:Obj) (h:w.heap[i]?=some x):(w.alloc o).heap[i]?=some x:=by
 have hi:i<w.heap.size:=(Array.getElem?_eq_some_iff.1 h).1;show (w.heap.push o)[i]?=some x;rw [Array.getElem?_push,if_neg (Nat.ne_of_lt hi)];exact h
theorem hrow {w:World} {i g:Nat} {x:Obj} (cs:Array Value) (hne:i≠g) (h:w.heap[i]?=some x):(w.setRow g cs).heap[i]?=some x:=by
 rw [setRow_other w g i cs hne];exact h
theorem hdr {w:World} {i:Nat} {x:Obj} (h:w.heap[i]?=some x):w.drew.heap[i]?=some x:=h
theorem hlt {w:World} {i:Nat} {x:Obj} (h:w.heap[i]?=some x):i<w.heap.size:=(Array.getElem?_eq_some_iff.1 h).1
theorem zaq {P:Program} {w:World} {T g:Nat} {iT:TI} (hT:TIok P T iT) {cs:Array Value} {t:TypeId} (hg:w.heap[g]?=some (.cells cs t (0,0))) {v:Value} (hv:v.cells.size=iT.size)
  (hc:cs.size=iT.size) (h0:v.cells.toList.all Value.oneCell'=true) {K:World->Prop} (k:K (w.setRow g v.cells)):SatR ((storeVar T ⟨g,0,none⟩ v).run P w) fun _ w'=>K w':=by
 obtain⟨⟨inf,hi,hs,_,_⟩,_⟩:=hT;have h1:∀ u∈v.cells.toList,u.oneCell'=true:=List.all_eq_true.1 h0;have hst:=run_storeCells_at P g 0 t v.cells.toList 0 cs w hg (by simp;omega) h1;refine SatR.mk (v:=()) (w':=w.setRow g v.cells) ?_ k;have hsz:(sizeOf T).run P w = .ok iT.size w:=by simp [sizeOf,typeInfo,hi,hs]
 simp only [storeVar,Sem.run_bind,hsz,Result.andThen_ok,hv,ne_eq,not_true_eq_false,if_false];rw [hst];congr 2;apply Array.toList_inj.1;simp [hc,hv]
theorem zal {w:World} {g:Nat} {cs cs':Array Value} {t:TypeId} {fr:Nat×Nat} (hg:w.heap[g]?=some (.cells cs t fr)):(w.setRow g cs').heap[g]?=some (.cells cs' t fr):=setRow_heap w g cs cs' t fr hg
theorem zan {w:World} {g k:Nat} {cs:Array Value} (h:k≠g):(w.setRow g cs).heap[k]?=w.heap[k]?:=setRow_other w g k cs h
theorem zah {B:Nat} {a w:World} (h:Below B a w) {g:Nat} (hg:B<=g) (cs:Array Value):Below B a (w.setRow g cs) :=
 h.trans ⟨rfl,rfl,rfl,by simp,fun k hk=>zan (by omega)⟩
theorem zbr (w:World) (g:Nat) (cs:Array Value):w.grownBy (w.setRow g cs) (some g) :=
 ⟨rfl,rfl,rfl,by simp,fun k _ hne=>zan (fun e=>hne (by rw [e]))⟩
end Go.Vc
namespace Go.Sei
def ziZ (c:UInt8):Bool:=(decide ((97:Int)<=c.toNat)&&decide ((c.toNat:Int)<=122))||(decide ((65:Int)<=c.toNat)&&decide ((c.toNat:Int)<=90))
def zjO (c:UInt8):Bool:=decide ((48:Int)<=c.toNat)&&decide ((c.toNat:Int)<=57)
def eqB (c:UInt8) (k:Int):Bool:=decide ((c.toNat:Int)=k)
def zoQ (c:UInt8):Bool:=eqB c 61||(eqB c 43||(eqB c 45||(eqB c 94||(eqB c 38||(eqB c 124||(eqB c 33||(eqB c 40||(eqB c 41||(eqB c 58||eqB c 60)))))))))
def clsL (c:UInt8):Nat :=
 bif ziZ c then 3 else bif zjO c then 4 else bif eqB c 32||eqB c 9 then 1 else bif eqB c 10 then 2 else bif eqB c 95 then 5 else bif eqB c 35 then 7 else bif zoQ c then 6 else 0
def zbb (c:UInt8):Bool:=decide (clsL c=3)||(decide (clsL c=4)||decide (clsL c=5))
def zcI (p:UInt8->Bool):List UInt8->Nat
 | []=>0
 | c::r=>if p c then zcI p r+1 else 0
theorem zkh (p:UInt8->Bool):∀ l,zcI p l<=l.length
 | []=>Nat.le_refl _
 | c::r=>by
  unfold zcI
  split
  ·exact Nat.succ_le_succ (zkh p r)
  ·exact Nat.zero_le _
def zk0 (c:UInt8):Bool:=decide (clsL c=1)
def zg6 (c:UInt8):Bool := !decide (clsL c=2)
def digB (c:UInt8):Bool:=decide (clsL c=4)
def zeb (s:List UInt8) (a:Nat):Nat:=a+zcI zk0 (s.drop a)
def zaF (s:List UInt8) (a:Nat):Nat :=
 match s[zeb s a]? with
 | some c=>if clsL c=7 then zeb s a+zcI zg6 (s.drop (zeb s a)) else zeb s a
 | none=>zeb s a
structure Tok where
 kind:UInt8
 text:List UInt8
 pos:Nat
 deriving DecidableEq
def endL (s:List UInt8) (a:Nat) (c:UInt8):Nat :=
 if clsL c=3 then a+1+zcI zbb (s.drop (a+1)) else if clsL c=4 then a+1+zcI digB (s.drop (a+1)) else
  if (eqB c 61||eqB c 33)&&decide (s[a+1]?=some 61) then a+2 else a+1
def ziY (c:UInt8):UInt8:=if clsL c=3 then 1 else if clsL c=4 then 2 else 3
def tokL (s:List UInt8) (a:Nat) (c:UInt8):Tok:=⟨ziY c,(s.drop a).take (endL s a c-a),a⟩
def zcq (s:List UInt8) (a:Nat):Bool:=match s[a]? with
 | some c=>decide (clsL c=2)
 | none=>true
def zdb (s:List UInt8):Nat->Nat->Bool->Option (Tok×Nat×Bool)
 | 0,_,_=>none
 | f+1,a,op=>match s[zaF s a]? with
  | some c=>if clsL c=2 then (if op then some (⟨4,[],zaF s a⟩,min (zaF s a+1) s.length,false) else zdb s f (min (zaF s a+1) s.length) false)
   else some (tokL s (zaF s a) c,endL s (zaF s a) c,true)
  | none=>if op then some (⟨4,[],zaF s a⟩,min (zaF s a+1) s.length,false) else none
def zfk (s:List UInt8):Nat->Nat->Bool->List Tok
 | 0,_,_=>[]
 | f+1,a,op=>match zdb s (s.length+2) a op with
  | some (t,a',op')=>t::zfk s f a' op'
  | none=>[]
def numL (s:List UInt8):Bool:=decide (1<=s.length)&&(decide (s.length<=3)&&(!(decide (s.head?=some 48)&&decide (1<s.length))&&(s.all digB&&decide (s.foldl (fun v c=>10*v+(c.toNat-48)) 0<=255))))
def zbQ (t:Tok):Int :=
 if t.kind=1 then (if 16<t.text.length then 42 else 0) else if t.kind=2 then (if numL t.text then 0 else 41) else
 if t.kind=3 then (match t.text with | c::_=>if clsL c=6 then 0 else 40 | []=>0) else 0
def zbv (s:List UInt8):List Tok:=zfk s (2*s.length+3) 0 false
def twoB (l:List Tok) (s:List UInt8):Bool:=match l with
 | [t,_]=>decide (t.kind=1)&&decide (t.text=s)
 | _=>false
def zfu (s:List UInt8):Bool:=decide (s.length<=16384)&&((zbv s).all (fun t=>decide (zbQ t=0))&&twoB (zbv s) s)
structure InsD where
 op:UInt8
 dst:UInt8
 loc:UInt8
 ar:Bool
 an:UInt8
 br:Bool
 bn:UInt8
 fn:UInt8
 mode:UInt8
 skip:UInt8
 deriving DecidableEq
inductive Cnd where
 | mk (kind thread n val:UInt8) (kids:List Cnd)
def Cnd.kind:Cnd->UInt8 | .mk k _ _ _ _=>k
def Cnd.thread:Cnd->UInt8 | .mk _ t _ _ _=>t
def Cnd.n:Cnd->UInt8 | .mk _ _ n _ _=>n
def Cnd.val:Cnd->UInt8 | .mk _ _ _ v _=>v
def Cnd.kids:Cnd->List Cnd | .mk _ _ _ _ l=>l
structure Prg where
 name:List UInt8
 locs:List (List UInt8)
 init:List UInt8
 threads:List (List InsD)
 ask:UInt8
 cond:Cnd
def zsb:List (List UInt8):=[[116,101,115,116],[105,110,105,116],[116,104,114,101,97,100],[115,111,109,101],[110,111,110,101],[97,108,108],[97,99,113],[114,101,108],[115,119,97,112],[102,101,116,99,104],[99,97,115],
 [102,101,110,99,101],[108,111,97,100,115],[115,116,111,114,101,115],[115,107,105,112],[105,102],[116,114,117,101]]
def zjN (s:List UInt8):Bool:=zsb.any fun k=>decide (s=k)
def zbn (s:List UInt8):Nat:=(s.filter digB).length
def zhS (s:List UInt8):Bool:=match s with
 | []=>false
 | c::r=>decide (r.length+1<=16)&&(decide (clsL c=3)&&(!zjN (c::r)&&(r.all zbb&&(!decide (c=114)||(decide (zbn r=0)||decide (zbn r<r.length))))))
def zgz:List (List UInt8)->List (List UInt8)->Bool
 | _,[]=>true
 | pre,s::r=>zhS s&&(!(pre.any fun q=>decide (q=s))&&zgz (pre++[s]) r)
def zhX (p:Prg):Bool:=decide (1<=p.locs.length)&&(decide (p.locs.length<=6)&&(decide (p.init.length=p.locs.length)&&zgz [] p.locs))
def zhR:List UInt8:=[0,35,38,29,7,7,15,32,92]
def hasL (op bit:UInt8):Bool := !decide (zhR.getD op.toNat 0&&&bit=0)
def zhQ (x:InsD):InsD where
 op:=x.op
 dst:=if hasL x.op 1 then x.dst else 0
 loc:=if hasL x.op 2 then x.loc else 0
 ar:=hasL x.op 4&&x.ar
 an:=if hasL x.op 4 then x.an else 0
 br:=hasL x.op 8&&x.br
 bn:=if hasL x.op 8 then x.bn else 0
 fn:=if hasL x.op 16 then x.fn else 0
 mode:=if hasL x.op 32 then x.mode else 0
 skip:=if hasL x.op 64 then x.skip else 0
def zhT (x:InsD):Bool:=if x.op=1 then decide (x.mode=0)||decide (x.mode=1) else if x.op=2 then decide (x.mode=0)||decide (x.mode=2) else
 if x.op=7 then decide (x.mode=3)||(decide (x.mode=4)||decide (x.mode=5)) else true
def fnL (x:InsD):Bool:=if x.op=3 then decide (x.fn=1)||(decide (x.fn=2)||decide (x.fn=3)) else if x.op=8 then decide (x.fn=4)||(decide (x.fn=5)||decide (x.fn=6)) else true
def argL (r:Bool) (n:UInt8):Bool := !r||decide (n.toNat<8)
def insC (x:InsD) (locs after:Nat):List Bool:=[
 decide (1<=x.op.toNat)&&decide (x.op.toNat<=8),
 decide (x=zhQ x),
 decide (x.dst.toNat<8),
 !hasL x.op 2||decide (x.loc.toNat<locs),
 argL x.ar x.an&&argL x.br x.bn,
 zhT x,
 fnL x,
 !hasL x.op 64||(decide (1<=x.skip.toNat)&&decide (x.skip.toNat<=after))]
def insB (x:InsD) (locs after:Nat):Bool:=(insC x locs after).all id
def zb0 (l:List InsD) (locs:Nat):Bool:=decide (l.length<=12)&&(List.range l.length).all fun i=>match l[i]? with
 | some x=>insB x locs (l.length-1-i)
 | none=>true
def zde (threads locs:Nat):Nat->Cnd->Bool
 | 0,_=>false
 | d+1,.mk k t n v kids =>
  let bare:=decide (t=0)&&(decide (n=0)&&decide (v=0))
  if k=0 then bare&&decide (kids.length=0) else
  if k=1 then decide (t.toNat<threads)&&(decide (n.toNat<8)&&decide (kids.length=0)) else
  if k=2 then decide (n.toNat<locs)&&(decide (t=0)&&decide (kids.length=0)) else
  if k=3\/k=4 then bare&&(decide (2<=kids.length)&&kids.all (zde threads locs d)) else
  if k=5 then bare&&(decide (kids.length=1)&&kids.all (zde threads locs d)) else false
def zjD (p:Prg):Bool:=zfu p.name&&(zhX p&&((decide (1<=p.threads.length)&&(decide (p.threads.length<=4)&&p.threads.all fun l=>decide (l.length<=12))) &&
 (p.threads.all (fun l=>zb0 l p.locs.length)&&((decide (p.ask=1)||(decide (p.ask=2)||decide (p.ask=3)))&&zde p.threads.length p.locs.length 20 p.cond))))
def els (s:Nat):List Nat:=(List.range 64).filter fun i=>s.testBit i
def ctz (s:Nat):Nat:=(els s).headD 64
def rest (s:Nat):Nat:=s&&&(s-1)
theorem zis {s:Nat} (h:s≠0):∃ k m,s=2^k*(2*m+1):=by
 induction s using Nat.strongRecOn with
 | _ s ih =>
  by_cases hp:s%2=1
  ·exact⟨0,s/2,by rw [Nat.pow_zero,Nat.one_mul];omega⟩
  ·obtain⟨k,m,e⟩:=ih (s/2) (by omega) (by omega);refine⟨k+1,m,?_⟩;rw [Nat.pow_succ,Nat.mul_comm (2^k) 2,Nat.mul_assoc,<- e];omega
theorem zfM (k a j:Nat):(2^k*a).testBit j=(decide (k<=j)&&a.testBit (j-k)):=by
 rw [Nat.testBit_two_pow_mul]
theorem zg0 (m j:Nat):(2*m+1).testBit j=match j with | 0=>true | j+1=>m.testBit j:=by
 cases j with
 | zero=>rw [Nat.testBit_zero];simp
 | succ j=>rw [Nat.testBit_succ];congr 1;omega
theorem zk1 (m j:Nat):(2*m).testBit j=match j with | 0=>false | j+1=>m.testBit j:=by
 cases j with
 | zero=>rw [Nat.testBit_zero];simp
 | succ j=>rw [Nat.testBit_succ];congr 1;omega
theorem zlt (k m:Nat):rest (2^k*(2*m+1))=2^k*(2*m):=by
 unfold rest;apply Nat.eq_of_testBit_eq;intro j;have h1:=Nat.two_pow_pos k;have e:2^k*(2*m+1)-1=2^k*(2*m)+(2^k-1):=by rw [Nat.mul_add,Nat.mul_one];omega
 rw [Nat.testBit_and,e,Nat.testBit_two_pow_mul_add _ (by omega),zfM,zfM];by_cases hj:j<k
 ·rw [if_pos hj];have:¬ k<=j:=by omega
  simp [this]
 ·rw [if_neg hj,zg0,zk1];have:k<=j:=by omega
  cases h:j-k with
  | zero=>simp
  | succ i=>simp [this]
theorem zhm {n k m:Nat} (hn:0<n) (h:2^k*(2*m+1)<2^n):(2^k*(2*m+1))&&&(2^n-2^k*(2*m+1))=2^k:=by
 have hk:k<n:=by
  apply Nat.lt_of_not_le;intro hk;have h1:2^n<=2^k:=Nat.pow_le_pow_right (by decide) hk;have h2:2^k*1<=2^k*(2*m+1):=Nat.mul_le_mul_left _ (by omega);omega
 have h1:=Nat.two_pow_pos k;have e64:2^n=2^k*2^(n-k):=by rw [<- Nat.pow_add];congr 1;omega
 have e63:2^(n-k)=2*2^(n-1-k):=by rw [<- Nat.pow_succ'];congr 1;omega
 have hm:2*m+1<2^(n-k):=by
  rw [e64] at h;exact Nat.lt_of_mul_lt_mul_left h
 have hm2:m<2^(n-1-k):=by omega
 have e:2^n-2^k*(2*m+1)=2^k*(2*(2^(n-1-k)-(m+1))+1):=by
  rw [e64,<- Nat.mul_sub];congr 1;omega
 rw [e];apply Nat.eq_of_testBit_eq;intro j;rw [Nat.testBit_and,zfM,zfM,zg0,zg0,Nat.testBit_two_pow];by_cases hj:k<=j
 ·cases h:j-k with
  | zero =>
   have:k=j:=by omega
   simp [this]
  | succ i =>
   have:k≠j:=by omega
   show ((decide (k<=j)&&m.testBit i)&&(decide (k<=j)&&(2^(n-1-k)-(m+1)).testBit i))=decide (k=j);rw [Nat.testBit_two_pow_sub_succ hm2]
   cases m.testBit i <;> simp [this]
 ·have:k≠j:=by omega
  simp [hj,this]
theorem ziS {k m:Nat} (h:2^k*(2*m+1)<2^64):(2^k*(2*m+1))&&&(2^64-2^k*(2*m+1))=2^k:=zhm (by decide) h
theorem zjQ {p:Nat->Bool} {n k:Nat} (hk:k<n) (h1:∀ i,i<k->p i=false) (h2:p k=true) :
  (List.range n).filter p=k::(List.range n).filter (fun i=>p i&&decide (i≠k)):=by
 have e:List.range n=List.range k++k::(List.range (n-k-1)).map (fun i=>k+1+i):=by
  apply List.ext_getElem
  ·simp;omega
  ·intro i h1 h2;rw [List.getElem_range];by_cases hi:i<k
   ·rw [List.getElem_append_left (by simpa using hi)];simp
   ·obtain⟨j,rfl⟩:∃ j,i=k+j:=⟨i-k,by omega⟩;rw [List.getElem_append_right (by simp)];simp only [List.length_range,Nat.add_sub_cancel_left]
    cases j with
    | zero=>simp
    | succ j=>simp;omega
 rw [e,List.filter_append,List.filter_append,List.filter_cons,List.filter_cons];have f1:(List.range k).filter p=[]:=by
  rw [List.filter_eq_nil_iff];intro i hi;rw [h1 i (List.mem_range.1 hi)];decide
 have f2:(List.range k).filter (fun i=>p i&&decide (i≠k))=[]:=by
  rw [List.filter_eq_nil_iff];intro i hi;rw [h1 i (List.mem_range.1 hi)];simp
 rw [f1,f2,h2];simp only [List.nil_append,if_true,ne_eq,not_true_eq_false,decide_false,Bool.and_false,Bool.false_eq_true,if_false];congr 1;apply List.filter_congr;intro x hx;obtain⟨i,_,rfl⟩:=List.mem_map.1 hx;have:k+1+i≠k:=by omega
 simp [this]
theorem zbO {s:Nat} (h0:s≠0) (h:s<2^64):els s=ctz s::els (rest s)/\rest s<s/\s&&&(2^64-s)=2^ctz s/\ctz s<64:=by
 obtain⟨k,m,e⟩:=zis h0;subst e;have h1:=Nat.two_pow_pos k;have hk:k<64:=by
  apply Nat.lt_of_not_le;intro hk;have h2:2^64<=2^k:=Nat.pow_le_pow_right (by decide) hk;have h3:2^k*1<=2^k*(2*m+1):=Nat.mul_le_mul_left _ (by omega);omega
 have hh:els (2^k*(2*m+1))=k::els (2^k*(2*m)):=by
  unfold els;rw [zjQ hk]
  ·congr 1;apply List.filter_congr;intro i _;rw [zfM,zfM,zg0,zk1]
   cases hi:i-k with
   | zero =>
    by_cases hik:k<=i
    ·have:i=k:=(by omega);simp [this]
    ·simp [hik]
   | succ j =>
    have:i≠k:=(by omega);simp [this]
  ·intro i hi;rw [zfM];have:¬ k<=i:=by omega
   simp [this]
  ·rw [zfM,zg0];simp
 have hc:ctz (2^k*(2*m+1))=k:=by unfold ctz;rw [hh];rfl
 rw [hc,zlt];refine⟨hh,?_,ziS h,hk⟩;rw [Nat.mul_add,Nat.mul_one];omega
theorem zhv {s:Nat} (h0:s≠0) (h:s<2^32):s&&&(2^32-s)=2^ctz s/\ctz s<32:=by
 obtain⟨h1,_,h2,h3⟩:=zbO h0 (nL h (by decide));have hc:ctz s<32:=by
  have hm:ctz s∈els s:=by rw [h1];exact List.mem_cons_self
  unfold els at hm;have hb:=(List.mem_filter.1 hm).2;apply Nat.lt_of_not_le;intro hc;have:=Nat.testBit_lt_two_pow (nL h (Nat.pow_le_pow_right (by decide) hc));rw [this] at hb;cases hb
 refine⟨?_,hc⟩;obtain⟨k,m,e⟩:=zis h0;have h4:s&&&(2^64-s)=2^k:=by rw [e] at h ⊢;exact ziS (nL h (by decide))
 have h5:s&&&(2^32-s)=2^k:=by rw [e] at h ⊢;exact zhm (by decide) h
 rw [h5,<- h4,h2]
theorem zdQ:els 0=[]:=by
 unfold els;rw [List.filter_eq_nil_iff];intro i _;simp
theorem znD {s i:Nat} (h:i∈els s):i<64:=by
 unfold els at h;exact List.mem_range.1 (List.mem_filter.1 h).1
theorem zbT {s i:Nat}:i∈els s↔i<64/\s.testBit i=true:=by
 unfold els;rw [List.mem_filter,List.mem_range]
structure Ev where
 th:Int
 k:UInt8
 l:UInt8
 v:UInt8
 m:UInt8
 i:UInt8
 p:UInt8
 deriving DecidableEq
def upd {α:Type} (f:Nat->α) (i:Nat) (v:α):Nat->α:=fun j=>if j=i then v else f j
theorem za6 {α:Type} (f:Nat->α) (i:Nat) (v:α):upd f i v i=v:=by unfold upd;rw [if_pos rfl]
theorem zcn {α:Type} (f:Nat->α) {i j:Nat} (v:α) (h:j≠i):upd f i v j=f j:=by unfold upd;rw [if_neg h]
structure RunD where
 pc:Nat
 regs:Nat->UInt8
 deps:Nat->Nat
 ctl:Nat
 many:Nat
 ev:Nat->Ev
 data:Nat->Nat
 ctrl:Nat->Nat
 att:Nat->Nat
def ev0:Ev:=⟨0,0,0,0,0,0,0⟩
def run0:RunD:=⟨0,fun _=>0,fun _=>0,0,0,fun _=>ev0,fun _=>0,fun _=>0,fun _=>0⟩
def valR (r:Bool) (n:UInt8) (R:RunD):UInt8×Nat:=if r then (R.regs n.toNat,R.deps n.toNat) else (n,0)
def setR (R:RunD) (d v:UInt8) (s:Nat):RunD:={ R with regs:=upd R.regs d.toNat v,deps:=upd R.deps d.toNat s }
def zfa (R:RunD) (k l v m:UInt8) (d:Nat):RunD :=
 { R with ev:=upd R.ev R.many ⟨0,k,l,v,m,UInt8.ofNat R.pc,UInt8.ofNat R.many⟩,data:=upd R.data R.many d,ctrl:=upd R.ctrl R.many R.ctl,many:=R.many+1 }
def zr6 (R:RunD) (x:InsD) (v:UInt8):RunD:=setR (zfa R 1 x.loc v x.mode 0) x.dst v (2^R.many)
def zpu (R:RunD) (x:InsD):RunD:=zfa R 2 x.loc (valR x.ar x.an R).1 x.mode (valR x.ar x.an R).2
def zth (fn a b:UInt8):UInt8:=if fn=1 then a+b else if fn=2 then a-b else a ^^^ b
def zta (R:RunD) (x:InsD):RunD:=setR R x.dst (zth x.fn (valR x.ar x.an R).1 (valR x.br x.bn R).1) ((valR x.ar x.an R).2|||(valR x.br x.bn R).2)
def zqU (R:RunD) (x:InsD) (old v:UInt8) (d:Nat):RunD :=
 let S:=zfa (zfa R 1 x.loc old 3 0) 2 x.loc v 3 d
 setR { S with att:=upd S.att (R.many+1) (2^R.many) } x.dst old (2^R.many)
def zs5 (R:RunD) (x:InsD) (v:UInt8):RunD:=zqU R x v (valR x.ar x.an R).1 (valR x.ar x.an R).2
def zsf (R:RunD) (x:InsD) (v:UInt8):RunD :=
 let S:=zqU R x v (v+(valR x.ar x.an R).1) (valR x.ar x.an R).2
 { S with data:=upd S.data (R.many+1) (S.data (R.many+1)|||S.att (R.many+1)) }
def casR (R:RunD) (x:InsD) (v:UInt8):RunD :=
 if v=(valR x.ar x.an R).1 then
  let S:=zqU R x v (valR x.br x.bn R).1 (valR x.br x.bn R).2
  { S with ctrl:=upd S.ctrl (R.many+1) (S.ctrl (R.many+1)|||(S.att (R.many+1)|||(valR x.ar x.an R).2)) }
 else setR (zfa R 1 x.loc v 3 0) x.dst v (2^R.many)
def zpH (R:RunD) (x:InsD):RunD:=zfa R 3 0 0 x.mode 0
def zsZ (fn a b:UInt8):Bool:=if fn=4 then decide (a=b) else if fn=5 then !decide (a=b) else decide (a.toNat<b.toNat)
def zs6 (R:RunD) (x:InsD):RunD :=
 let S:={ R with ctl:=R.ctl|||((valR x.ar x.an R).2|||(valR x.br x.bn R).2) }
 if zsZ x.fn (valR x.ar x.an R).1 (valR x.br x.bn R).1 then { S with pc:=R.pc+x.skip.toNat } else S
def effR (R:RunD) (x:InsD) (v:UInt8):RunD :=
 if x.op=1 then zr6 R x v else if x.op=2 then zpu R x else if x.op=3 then zta R x else if x.op=4 then zs5 R x v else
 if x.op=5 then zsf R x v else if x.op=6 then casR R x v else if x.op=7 then zpH R x else zs6 R x
def zbq (R:RunD) (x:InsD) (v:UInt8):RunD:=let S:=effR R x v;{ S with pc:=S.pc+1 }
def zgl (x:InsD):Bool:=decide (x.op=1)||(decide (x.op=4)||(decide (x.op=5)||decide (x.op=6)))
def goR (l:List InsD):Nat->RunD->RunD
 | 0,R=>R
 | n+1,R=>match l[R.pc]? with
  | none=>R
  | some x=>if zgl x then R else goR l n (zbq R x 0)
def zaW (l:List InsD) (dom:List UInt8):Nat->RunD->List RunD
 | 0,R=>[goR l l.length R]
 | n+1,R=>match l[(goR l l.length R).pc]? with
  | none=>[goR l l.length R]
  | some x=>dom.flatMap fun v=>zaW l dom n (zbq (goR l l.length R) x v)
def zdd (l:List InsD) (dom:List UInt8):List RunD:=zaW l dom l.length run0
def ziK (f:Nat->Nat) (n:Nat):List (Nat×Nat):=(List.range n).flatMap fun i=>(els (f i)).map fun a=>(a,i)
structure PathD where
 ev:List Ev
 data:List (Nat×Nat)
 ctrl:List (Nat×Nat)
 rmw:List (Nat×Nat)
 regs:Nat->UInt8
def zfq (R:RunD):PathD:=⟨(List.range R.many).map R.ev,ziK R.data R.many,ziK R.ctrl R.many,ziK R.att R.many,R.regs⟩
def zaZ:List UInt8:=(List.range 256).map UInt8.ofNat
def zcr (rs:List RunD):List UInt8:=zaZ.filter fun v=>rs.any fun R=>(List.range R.many).any fun i=>decide ((R.ev i).k=2)&&decide ((R.ev i).v=v)
structure RelD where
 n:Int
 to:Nat->Nat
def zam:RelD:=⟨0,fun _=>0⟩
def allM (n:Int):Nat:=if n<1 then 0 else if 64<=n then 18446744073709551615 else 2^n.toNat-1
def zcK (a b:Nat):Nat:=a&&&(18446744073709551615-b)
def zeC (r:RelD) (a:Nat):Bool:=decide (zcK (r.to a) (allM r.n)=0)&&(decide ((a:Int)<r.n)||decide (r.to a=0))
def okR (r:RelD):Bool:=decide (0<=r.n)&&(decide (r.n<=48)&&(List.range 48).all (zeC r))
def zbx (n:Nat) (f:Nat->Nat):RelD:=⟨n,fun i=>if i<n then f i else 0⟩
def zfI (to:Nat->Nat) (s:Nat):Nat:=(els s).foldl (fun t a=>t|||to a) 0
def zdq (to:Nat->Nat) (n:Nat):Nat->Nat:=(List.range n).foldl (fun f a=>(els (to a)).foldl (fun f b=>upd f b (f b|||2^a)) f) (fun _=>0)
def za3 (r:RelD):RelD:=if okR r then ⟨r.n,zdq r.to r.n.toNat⟩ else zam
def zlJ (r:RelD):Nat:=if okR r then (List.range r.n.toNat).foldl (fun s a=>if r.to a=0 then s else s|||2^a) 0 else 0
def zdz (r:RelD):Bool:=okR r&&decide (zlJ r=0)
def comb (a b:RelD) (f:Nat->Nat):RelD×Int:=if a.n=b.n&&(okR a&&okR b) then (zbx a.n.toNat f,0) else (zam,2)
def za8 (a b:RelD):RelD×Int:=comb a b fun i=>a.to i|||b.to i
def zbH (a b:RelD):RelD×Int:=comb a b fun i=>a.to i&&&b.to i
def zbV (a b:RelD):RelD×Int:=comb a b fun i=>zfI b.to (a.to i)
def ze9 (before:Nat->Nat) (left:Nat):Option Nat:=(els left).find? fun a=>decide (before a&&&left=0)
def topR (before:Nat->Nat):Nat->Nat->List Nat->Option (List Nat)
 | 0,left,l=>if left=0 then some l else none
 | n+1,left,l=>if left=0 then some l else match ze9 before left with
  | none=>none
  | some a=>topR before n (zcK left (2^a)) (l++[a])
def topF (r:RelD):Option (List Nat):=if okR r then topR (za3 r).to 64 (allM r.n) [] else none
def acyR (r:RelD):Bool:=(topF r).isSome
def zja (n:Nat) (a b:Nat):RelD:=zbx n fun x=>if a.testBit x then b&&&allM n else 0
def idR (n:Nat) (s:Nat):RelD:=zbx n fun a=>s&&&2^a
def extR (before:Nat->Nat):Nat->Nat->List Nat->List (List Nat)
 | 0,left,l=>if left=0 then [l] else []
 | n+1,left,l=>if left=0 then [l] else (els left).flatMap fun a=>if before a&&&left=0 then extR before n (zcK left (2^a)) (l++[a]) else []
def ordR (r:RelD):List (List Nat):=if acyR r then extR (za3 r).to 64 (allM r.n) [] else []
def digL:List Nat->Nat->List Nat
 | [],_=>[]
 | n::ns,j=>j%n::digL ns (j/n)
def zbh:List Nat->Nat
 | []=>1
 | n::ns=>n*zbh ns
def zeI (sizes:List Nat):List (List Nat):=(List.range (zbh sizes.reverse)).map fun j=>(digL sizes.reverse j).reverse
theorem zf6:∀ (rs:List Nat) (j:Nat),(digL rs j).length=rs.length
 | [],_=>rfl
 | n::ns,j=>by
  show (digL ns (j/n)).length+1=ns.length+1;rw [zf6 ns]
theorem zi9:∀ rs:List Nat,digL rs 0=List.replicate rs.length 0
 | []=>rfl
 | n::ns=>by
  show 0%n::digL ns (0/n)=0::List.replicate ns.length 0;rw [Nat.zero_mod,Nat.zero_div,zi9 ns]
theorem ziG:∀ {rs:List Nat},(∀ n∈rs,n≠0)->0<zbh rs
 | [],_=>Nat.one_pos
 | n::ns,h=>Nat.mul_pos (by have:=h n (by simp);omega) (ziG fun m hm=>h m (by simp [hm]))
theorem zfp:∀ {rs:List Nat},0∈rs->zbh rs=0
 | [],h=>by cases h
 | n::ns,h=>by
  show n*zbh ns=0;rcases List.mem_cons.1 h with h | h
  ·rw [<- h,Nat.zero_mul]
  ·rw [zfp h,Nat.mul_zero]
theorem zgT {n j:Nat} (hn:n≠0):(j%n=n-1->(j+1)%n=0/\(j+1)/n=j/n+1)/\(j%n≠n-1->(j+1)%n=j%n+1/\(j+1)/n=j/n):=by
 have h1:=Nat.div_add_mod j n;have h2:=Nat.mod_lt j (Nat.pos_of_ne_zero hn);obtain⟨q,hq⟩:∃ q,j/n=q:=⟨_,rfl⟩;obtain⟨m,hm⟩:∃ m,j%n=m:=⟨_,rfl⟩;rw [hq,hm] at h1 ⊢;rw [hm] at h2;refine⟨fun h=>?_,fun h=>?_⟩
 ·have e:j+1=n*(q+1):=by rw [Nat.mul_add];omega
  rw [e];exact⟨Nat.mul_mod_right _ _,Nat.mul_div_cancel_left _ (Nat.pos_of_ne_zero hn)⟩
 ·have e:j+1=n*q+(m+1):=by omega
  rw [e,Nat.mul_add_mod,Nat.mod_eq_of_lt (by omega),Nat.mul_add_div (Nat.pos_of_ne_zero hn),Nat.div_eq_of_lt (by omega)];exact⟨rfl,rfl⟩
def zj6 (rs:List Nat) (j t:Nat):Prop:=∃ A ns k,rs=A++ns/\A.length=t/\digL rs (j+1)=List.replicate t 0++digL ns (k+1)/\(digL rs j).drop t=digL ns k/\zbh A*(k+1)=j+1
theorem zeV:∀ A B:List Nat,zbh (A++B)=zbh A*zbh B
 | [],B=>(Nat.one_mul _).symm
 | n::A,B=>by
  show n*zbh (A++B)=n*zbh A*zbh B;rw [zeV A B,Nat.mul_assoc]
theorem zlQ (rs:List Nat) (j:Nat):zj6 rs j 0:=⟨[],rs,j,rfl,rfl,rfl,rfl,Nat.one_mul _⟩
theorem zlS {rs:List Nat} {j t:Nat} (hr:∀ n∈rs,n≠0) (h:zj6 rs j t) {n d:Nat} (hn:rs[t]?=some n) (hd:(digL rs j)[t]?=some d) (he:d=n-1):zj6 rs j (t+1):=by
 obtain⟨A,ns,k,h1,h2,h3,h4,h5⟩:=h
 cases ns with
 | nil =>
  rw [h1,List.append_nil,List.getElem?_eq_none (by omega)] at hn
  cases hn
 | cons m ns =>
  have hm:m=n:=by
   rw [h1,List.getElem?_append_right (by omega),h2,Nat.sub_self] at hn;exact Option.some.inj hn
  subst hm;have hd2:k%m=d:=by
   have:=congrArg (fun l=>l[0]?) h4;simp only [List.getElem?_drop,Nat.add_zero] at this;rw [hd] at this;exact (Option.some.inj this).symm
  have hm0:m≠0:=hr m (by rw [h1];simp);obtain⟨e1,e2⟩:=(zgT hm0).1 (hd2.trans he);have hk:k+1=m*(k/m+1):=by
   have:=Nat.div_add_mod (k+1) m;rw [e1,e2] at this;omega
  refine⟨A++[m],ns,k/m,by rw [h1];simp,by simp [h2],?_,?_,?_⟩
  ·rw [h3];show _++((k+1)%m::digL ns ((k+1)/m))=_;rw [e1,e2,List.replicate_succ',List.append_assoc];rfl
  ·rw [<- List.drop_drop,h4];rfl
  ·rw [<- h5,zeV];show zbh A*(m*1)*_=_;rw [Nat.mul_one,Nat.mul_assoc,<- hk]
theorem zlR {rs:List Nat} {j t:Nat} (hr:∀ n∈rs,n≠0) (h:zj6 rs j t) {n d:Nat} (hn:rs[t]?=some n) (hd:(digL rs j)[t]?=some d) (he:d≠n-1):digL rs (j+1)=List.replicate t 0++(d+1)::(digL rs j).drop (t+1):=by
 obtain⟨A,ns,k,h1,h2,h3,h4,h5⟩:=h
 cases ns with
 | nil =>
  rw [h1,List.append_nil,List.getElem?_eq_none (by omega)] at hn
  cases hn
 | cons m ns =>
  have hm:m=n:=by
   rw [h1,List.getElem?_append_right (by omega),h2,Nat.sub_self] at hn;exact Option.some.inj hn
  subst hm;have hd2:k%m=d:=by
   have:=congrArg (fun l=>l[0]?) h4;simp only [List.getElem?_drop,Nat.add_zero] at this;rw [hd] at this;exact (Option.some.inj this).symm
  have hm0:m≠0:=hr m (by rw [h1];simp);obtain⟨e1,e2⟩:=(zgT hm0).2 (fun h=>he (hd2.symm.trans h));rw [h3,<- List.drop_drop,h4];show _++((k+1)%m::digL ns ((k+1)/m))=_;rw [e1,e2,hd2];rfl
theorem znU {rs:List Nat} {j:Nat} (h:zj6 rs j rs.length) (hj:j<zbh rs):j+1=zbh rs:=by
 obtain⟨A,ns,k,h1,h2,h3,h4,h5⟩:=h;have hl:=congrArg List.length h1;rw [lap,h2] at hl;have:ns=[]:=List.length_eq_zero_iff.1 (by omega);subst this;rw [List.append_nil] at h1;rw [h1] at hj ⊢;have h6:zbh A*(k+1)<=zbh A:=by omega
 rcases Nat.eq_zero_or_pos (zbh A) with h0 | h0
 ·omega
 ·have:k+1<=1:=Nat.le_of_mul_le_mul_left (by omega:zbh A*(k+1)<=zbh A*1) h0;have:k=0:=by omega
  subst this;omega
theorem zlT {rs:List Nat} {j t:Nat} (hr:∀ n∈rs,n≠0) (h:zj6 rs j t) {n d:Nat} (hn:rs[t]?=some n) (hd:(digL rs j)[t]?=some d) (he:d≠n-1) (hj:j<zbh rs):j+1<zbh rs:=by
 obtain⟨A,ns,k,h1,h2,h3,h4,h5⟩:=h
 cases ns with
 | nil =>
  rw [h1,List.append_nil,List.getElem?_eq_none (by omega)] at hn
  cases hn
 | cons m ns =>
  have hm:m=n:=by
   rw [h1,List.getElem?_append_right (by omega),h2,Nat.sub_self] at hn;exact Option.some.inj hn
  subst hm;have hd2:k%m=d:=by
   have:=congrArg (fun l=>l[0]?) h4;simp only [List.getElem?_drop,Nat.add_zero] at this;rw [hd] at this;exact (Option.some.inj this).symm
  have hm0:m≠0:=hr m (by rw [h1];simp);obtain⟨e1,e2⟩:=(zgT hm0).2 (fun h=>he (hd2.symm.trans h));apply Classical.byContradiction;intro hc;have hP:zbh rs=zbh A*(m*zbh ns):=by rw [h1,zeV];rfl
  have hA:0<zbh A:=by
   apply Nat.pos_of_ne_zero;intro h0;rw [hP,h0,Nat.zero_mul] at hj;omega
  have h6:zbh A*(k+1)=zbh A*(m*zbh ns):=by omega
  have h7:=Nat.eq_of_mul_eq_mul_left hA h6;rw [h7,Nat.mul_mod_right] at e1;omega
theorem ziE {L:List Nat} {t d:Nat} (h:L[t]?=some d):(List.replicate t 0++L.drop t).reverse=(L.drop (t+1)).reverse++d::(List.replicate t 0).reverse:=by
 obtain⟨ht,rfl⟩:=List.getElem?_eq_some_iff.1 h;rw [<- List.getElem_cons_drop ht,List.reverse_append,List.reverse_cons,List.append_assoc];rfl
theorem zrT {L:List Nat} {t d:Nat} (h:L[t]?=some d) {i:Nat} (hi:i+t+1=L.length):(List.replicate t 0++L.drop t).reverse[i]?=some d:=by
 rw [ziE h,List.getElem?_append_right (by simp;omega)];have:i-(L.drop (t+1)).reverse.length=0:=by simp;omega
 rw [this];rfl
theorem zmI {L:List Nat} {t d:Nat} (h:L[t]?=some d) {i:Nat} (hi:i+t+1=L.length) (v:Nat):((List.replicate t 0++L.drop t).reverse).set i v=(List.replicate t 0++v::L.drop (t+1)).reverse:=by
 rw [ziE h,List.set_append_right _ _ (by simp;omega)];have:i-(L.drop (t+1)).reverse.length=0:=by simp;omega
 rw [this,List.reverse_append,List.reverse_cons,List.append_assoc];rfl
theorem zoB {L:List Nat} {t:Nat}:(List.replicate t 0++0::L.drop (t+1)).reverse=(List.replicate (t+1) 0++L.drop (t+1)).reverse:=by
 rw [List.replicate_succ',List.append_assoc];rfl
structure ExD where
 ev:List Ev
 po:RelD
 rf:RelD
 co:RelD
 dt:RelD
 ct:RelD
 rm:RelD
 regs:Nat->UInt8
 mem:Nat->UInt8
structure MixD where
 base:ExD
 rs:List (Nat×List Nat)
 wr:List (List Nat)
def relN (n:Nat):RelD:=⟨n,fun _=>0⟩
def ex0 (n:Nat):ExD:=⟨[],relN n,relN n,relN n,relN n,relN n,relN n,fun _=>0,fun _=>0⟩
def putF (b:Nat):List (Nat×Nat)->(Nat->Nat)->Nat->Nat
 | [],f=>f
 | p::ps,f=>putF b ps (upd f (b+p.1) (f (b+p.1)|||2^(b+p.2)))
def putR (b:Nat) (ps:List (Nat×Nat)) (r:RelD):RelD:=⟨r.n,putF b ps r.to⟩
def zjx (a:Int):Nat->List Ev->Nat->Nat
 | _,[],s=>s
 | j,e::es,s=>zjx a (j+1) es (if e.th=a then s|||2^j else s)
def zer (ev:List Ev) (i:Nat):Nat:=match ev[i]? with
 | none=>0
 | some e=>if e.th = -1 then 0 else zjx e.th (i+1) (ev.drop (i+1)) 0
def poR (ev:List Ev):RelD:=⟨ev.length,zer ev⟩
def zch:Nat->List UInt8->List Ev
 | _,[]=>[]
 | l,v::vs=>⟨-1,2,UInt8.ofNat l,v,0,0,0⟩::zch (l+1) vs
def thEv (k:Nat) (l:List Ev):List Ev:=l.map fun e=>{ e with th:=k }
def zk3 (x:ExD) (k:Nat) (P:PathD):ExD :=
 { x with ev:=x.ev++thEv k P.ev,dt:=putR x.ev.length P.data x.dt,ct:=putR x.ev.length P.ctrl x.ct,rm:=putR x.ev.length P.rmw x.rm,regs:=fun i=>if i/8=k then P.regs (i%8) else x.regs i }
def asR:Nat->List PathD->ExD->ExD
 | _,[],x=>x
 | k,P::Ps,x=>asR (k+1) Ps (zk3 x k P)
def zp4 (locs:Nat) (Ps:List PathD):Nat:=Ps.foldl (fun n P=>n+P.ev.length) locs
def wrsG:Nat->List Ev->List (List Nat)->List (List Nat)
 | _,[],W=>W
 | i,e::es,W=>wrsG (i+1) es (if e.k=2 then W.set e.l.toNat (W.getD e.l.toNat []++[i]) else W)
def rdsG (all:List Ev) (W:List (List Nat)):Nat->List Ev->List (Nat×List Nat)
 | _,[]=>[]
 | i,e::es=>if e.k=1 then (i,(W.getD e.l.toNat []).filter fun w=>decide ((all.getD w ev0).v=e.v))::rdsG all W (i+1) es else rdsG all W (i+1) es
def zrp (init:List UInt8) (Ps:List PathD):ExD :=
 let x:=asR 0 Ps { ex0 (zp4 init.length Ps) with ev:=zch 0 init }
 { x with po:=poR x.ev }
def zcB (x:ExD) (locs:Nat):MixD :=
 let W:=wrsG 0 x.ev (List.replicate locs [])
 ⟨x,rdsG x.ev W 0 x.ev,W⟩
def mixR (init:List UInt8) (Ps:List PathD):Option MixD:=if zp4 init.length Ps<=48 then some (zcB (zrp init Ps) init.length) else none
def cntS (lim:Nat):List (List Nat)->Nat->Option Nat
 | [],n=>some n
 | f::fs,n=>if f=[] then none else cntS lim fs (min (n*f.length) lim)
def cntK (lim len:Nat):Nat->Nat->Nat->Nat
 | 0,_,n=>n
 | m+1,k,n=>if k<len then cntK lim len m (k+1) (min (n*k) lim) else n
def cntW (lim:Nat):List (List Nat)->Nat->Nat
 | [],n=>n
 | l::ls,n=>cntW lim ls (cntK lim l.length l.length 2 n)
def cntR (m:MixD) (lim:Nat):Nat:=match cntS lim (m.rs.map (·.2)) 1 with
 | none=>0
 | some n=>cntW lim m.wr n
def zdn (w:List Nat):List (List Nat) :=
 let l:=ordR (zja w.length 1 (zcK (allM w.length) 1))
 if l.length<=10000 then l.map fun o=>o.map fun k=>w.getD k 0 else []
def zjK:List Nat->(Nat->Nat)->Nat->(Nat->Nat)
 | [],f,_=>f
 | a::l,f,b=>zjK l (upd f a b) (b|||2^a)
def zdo (l:List Nat) (r:RelD):RelD:=⟨r.n,zjK l.reverse r.to 0⟩
def rfF:List (Nat×List Nat)->List Nat->(Nat->Nat)->Nat->Nat
 | [],_,f=>f
 | (r,s)::rs,ds,f=>rfF rs ds.tail (upd f (s.getD (ds.headD 0) 0) (f (s.getD (ds.headD 0) 0)|||2^r))
def coG (ev:List Ev):Nat->List (List (List Nat))->List Nat->RelD×(Nat->UInt8)->RelD×(Nat->UInt8)
 | _,[],_,p=>p
 | l,R::Rs,ds,p=>coG ev (l+1) Rs ds.tail (zdo (R.getD (ds.headD 0) []) p.1,upd p.2 l (ev.getD ((R.getD (ds.headD 0) []).getLastD 0) ev0).v)
def zdZ (m:MixD) (ds:List Nat):ExD :=
 let c:=coG m.base.ev 0 (m.wr.map zdn) (ds.drop m.rs.length) (m.base.co,m.base.mem)
 { m.base with rf:=⟨m.base.rf.n,rfF m.rs ds m.base.rf.to⟩,co:=c.1,mem:=c.2 }
def zdT (m:MixD):List Nat:=m.rs.map (fun r=>r.2.length)++m.wr.map fun w=>(zdn w).length
def zhz (m:MixD):List ExD:=(zeI (zdT m)).map (zdZ m)
def zeX (Ts:List (List PathD)):List Nat->List PathD
 | []=>[]
 | d::ds=>match Ts with
  | []=>[]
  | T::Ts=>(match T[d]? with | some P=>[P] | none=>[])++zeX Ts ds
theorem znH:∀ (rs:List Nat) (j:Nat),(∀ n∈rs,n≠0)->∀ (i n d:Nat),rs[i]?=some n->(digL rs j)[i]?=some d->d<n
 | [],_,_,_,_,_,h,_=>by simp at h
 | m::rs,j,h0,0,n,d,h,hd=>by
  have h:m=n:=by simpa using h
  have hd:j%m=d:=by simpa [digL] using hd
  subst h;subst hd;exact Nat.mod_lt _ (Nat.pos_of_ne_zero (h0 m (by simp)))
 | m::rs,j,h0,i+1,n,d,h,hd=>znH rs (j/m) (fun n hn=>h0 n (by simp [hn])) i n d (by simpa using h) (by simpa [digL] using hd)
theorem znG {sizes ds:List Nat} (h:ds∈zeI sizes):ds.length=sizes.length/\∀ (i n d:Nat),sizes[i]?=some n->ds[i]?=some d->d<n:=by
 unfold zeI at h;obtain⟨j,hj,rfl⟩:=List.mem_map.1 h;have hj:=List.mem_range.1 hj;have h0:∀ n∈sizes.reverse,n≠0:=fun n hn e=>by
  subst e;rw [zfp hn] at hj;omega
 have hl:(digL sizes.reverse j).length=sizes.length:=by rw [zf6,List.length_reverse]
 refine⟨by rw [List.length_reverse,hl],fun i n d hn hd=>?_⟩;have hi:i<sizes.length:=(List.getElem?_eq_some_iff.1 hn).1;have e1:=List.getElem?_reverse (l:=sizes.reverse) (i:=i) (by simpa using hi);rw [List.reverse_reverse,hn] at e1;have e2:=List.getElem?_reverse (l:=digL sizes.reverse j) (i:=i) (by omega);rw [hd,hl] at e2;rw [List.length_reverse] at e1;exact znH _ _ h0 _ n d e1.symm e2.symm
theorem zkl:∀ (rs:List (Nat×List Nat)) (r:Nat) (s:List Nat) (ds:List Nat) (f:Nat->Nat),rfF (rs++[(r,s)]) ds f=upd (rfF rs ds f) (s.getD (ds.getD rs.length 0) 0) (rfF rs ds f (s.getD (ds.getD rs.length 0) 0)|||2^r)
 | [],r,s,ds,f=>by
  have:ds.getD 0 0=ds.headD 0:=by cases ds <;> rfl
  show upd f (s.getD (ds.headD 0) 0) _=_;rw [<- this];rfl
 | (r',s')::rs,r,s,ds,f=>by
  have e:ds.getD (rs.length+1) 0=ds.tail.getD rs.length 0:=by
   cases ds with
   | nil=>simp
   | cons a ds=>simp
  show rfF (rs++[(r,s)]) ds.tail _=_;rw [zkl rs r s ds.tail];show _=upd (rfF rs ds.tail _) (s.getD (ds.getD (rs.length+1) 0) 0) (rfF rs ds.tail _ (s.getD (ds.getD (rs.length+1) 0) 0)|||2^r);rw [e]
abbrev zfP (ev:List Ev) (rk:List Nat):UInt8:=(ev.getD (rk.getLastD 0) ev0).v
theorem zkT (ev:List Ev):∀ (Rs:List (List (List Nat))) (R:List (List Nat)) (l:Nat) (ds:List Nat) (p:RelD×(Nat->UInt8)),
  coG ev l (Rs++[R]) ds p=(zdo (R.getD (ds.getD Rs.length 0) []) (coG ev l Rs ds p).1,upd (coG ev l Rs ds p).2 (l+Rs.length) (zfP ev (R.getD (ds.getD Rs.length 0) [])))
 | [],R,l,ds,p=>by
  have:ds.getD 0 0=ds.headD 0:=by cases ds <;> rfl
  show (zdo (R.getD (ds.headD 0) []) p.1,upd p.2 l _)=_;rw [<- this];rfl
 | R'::Rs,R,l,ds,p=>by
  have e:ds.getD (Rs.length+1) 0=ds.tail.getD Rs.length 0:=by
   cases ds with
   | nil=>simp
   | cons a ds=>simp
  show coG ev (l+1) (Rs++[R]) ds.tail _=_;rw [zkT ev Rs R (l+1) ds.tail];show _=(zdo (R.getD (ds.getD (Rs.length+1) 0) []) _,upd _ (l+(Rs.length+1)) (zfP ev (R.getD (ds.getD (Rs.length+1) 0) [])));rw [e,show l+1+Rs.length=l+(Rs.length+1) by omega];rfl
def wrdB (r:RelD):Bool:=(List.range 48).all fun i=>decide (r.to i<2^64)
def zqx (m:MixD):Bool :=
 decide (m.base.ev.length<=48)&&(decide (m.rs.length<=48)&&(decide (m.wr.length<=6)&&(wrdB m.base.rf&&(wrdB m.base.co &&
  ((m.rs.all fun r=>decide (r.1<48)&&(decide (r.2.length<=1000)&&r.2.all fun s=>decide (s<48))) &&
   (m.wr.all fun w=>decide (w.length<=48)&&(decide ((zdn w).length<=10000)&&(zdn w).all fun k=>decide (k≠[])&&(decide (k.length<=48)&&k.all fun a=>decide (a<m.base.ev.length)))))))))
structure MixB (m:MixD):Prop where
 ev:m.base.ev.length<=48
 rl:m.rs.length<=48
 wl:m.wr.length<=6
 rf:∀ i,i<48->m.base.rf.to i<2^64
 co:∀ i,i<48->m.base.co.to i<2^64
 rs:∀ r∈m.rs,r.1<48/\r.2.length<=1000/\∀ s∈r.2,s<48
 wr:∀ w∈m.wr,w.length<=48/\(zdn w).length<=10000/\∀ k∈zdn w,k≠[]/\k.length<=48/\∀ a∈k,a<m.base.ev.length
theorem zqy {m:MixD} (h:zqx m=true):MixB m:=by
 unfold zqx wrdB at h;simp only [bAT,dE,List.all_eq_true,List.mem_range] at h;obtain⟨h1,h2,h3,h4,h5,h6,h7⟩:=h;exact⟨h1,h2,h3,h4,h5,h6,h7⟩
def zcv (a b : RelD) : Bool := decide (a.n = b.n) && (List.range 48).all fun i => decide (a.to i = b.to i)
def zaJ (ev : List Ev) : Nat := (ev.takeWhile fun e => decide (e.th = -1)).length
def evGo (locs : Nat) : Nat → List Ev → Int → Nat → Bool
  | _, [], _, _ => true
  | i, e :: es, t, n =>
    if i < locs then (if e = ⟨-1, 2, UInt8.ofNat i, e.v, 0, 0, 0⟩ then evGo locs (i + 1) es t n else false)
    else if e.th < t ∨ 4 ≤ e.th then false
    else
      let t' := if t < e.th then e.th else t
      let n' := if t < e.th then 0 else n
      if e.p.toNat = n' then
        (if e.k = 1 ∨ e.k = 2 then (if e.l.toNat < locs then evGo locs (i + 1) es t' (n' + 1) else false)
         else if e.k = 3 then (if e.l = 0 ∧ e.v = 0 then evGo locs (i + 1) es t' (n' + 1) else false)
         else false)
      else false
def zbB (ev : List Ev) (locs : Nat) : Bool := evGo locs 0 ev 0 0
def evA (x : ExD) (i : Nat) : Ev := x.ev.getD i ev0
def zeR (x : ExD) (s : Nat) (e : Ev) : Bool :=
  if e.k = 1 then (if s = 0 then false else
    (if s = 2 ^ ctz s then decide ((evA x (ctz s)).k = 2) && (decide ((evA x (ctz s)).l = e.l) && decide ((evA x (ctz s)).v = e.v)) else false))
  else decide (s = 0)
def zc5 (x : ExD) : Bool := (List.range x.ev.length).all fun i => zeR x ((za3 x.rf).to i) (evA x i)
def zbA (key : Nat → Nat) : List Nat → Nat → List Nat
  | [], x => [x]
  | y :: r, x => if key y < key x then y :: zbA key r x else x :: y :: r
def zgh (key : Nat → Nat) (l : List Nat) : List Nat := (l.foldl (fun acc x => zbA key acc x) []).reverse
def lenS (s : Nat) : Nat := (els s).length
def zbe (x : ExD) (l : Nat) : List Nat := (List.range x.ev.length).filter fun i => decide ((evA x i).k = 2) && decide ((evA x i).l.toNat = l)
def zaL (x : ExD) (l : Nat) : List Nat := zgh (fun i => lenS (x.co.to i)) (zbe x l)
def coGo (x : ExD) : Nat → Nat → RelD × (Nat → UInt8) → Option (RelD × (Nat → UInt8))
  | 0, _, p => some p
  | n + 1, l, p => if (zaL x l).headD 48 = l then coGo x n (l + 1) (zdo (zaL x l) p.1, upd p.2 l (zfP x.ev (zaL x l))) else none
def zcO (x : ExD) (locs : Nat) : Bool := match coGo x locs 0 (⟨x.ev.length, fun _ => 0⟩, fun _ => 0) with
  | none => false
  | some p => zcv p.1 x.co && (List.range 6).all fun l => decide (p.2 l = x.mem l)
def zc0 (x : ExD) : Nat := (List.range x.ev.length).foldl (fun s i => if (evA x i).k = 2 then s ||| 2 ^ i else s) 0
def zfb (x : ExD) (W : Nat) : Nat → List Ev → Nat → Bool
  | _, [], _ => true
  | i, e :: es, h =>
    let d := x.dt.to i
    let c := x.ct.to i
    let r := x.rm.to i
    if d ||| c ||| r = 0 then zfb x W (i + 1) es h
    else if e.k = 1 ∧ zcK (d ||| r) W = 0 ∧ zcK (d ||| c ||| r) (x.po.to i) = 0 then
      (if r = 0 then zfb x W (i + 1) es h
       else if r = 2 ^ ctz r ∧ h.testBit (ctz r) = false ∧ (evA x (ctz r)).l = e.l then zfb x W (i + 1) es (h ||| r) else false)
    else false
def zcF (x : ExD) : Bool := zfb x (zc0 x) 0 x.ev 0
def za9 (x : ExD) : Bool := [x.po, x.rf, x.co, x.dt, x.ct, x.rm].all fun r => decide (r.n = x.ev.length) && okR r
def za5 (x : ExD) : Bool :=
  decide (x.ev.length ≤ 48) && (decide (1 ≤ zaJ x.ev) && (decide (zaJ x.ev ≤ 6) && (zbB x.ev (zaJ x.ev) && (za9 x && (zcv x.po (poR x.ev) && (zc5 x && (zcO x (zaJ x.ev) && zcF x)))))))
end Go.Sei
namespace Go.Vc
open Go.RowKit
inductive Mk where
 | p
 | s (a b:Mk)
 | c (a b:Mk)
 | d (a b:Mk)
 | b (a:Mk)
 | l (a:Mk)
def CutE (first:(Exit->Env->World->Prop)->Prop) (second:Env->World->(Exit->Env->World->Prop)->Prop) (Q:Exit->Env->World->Prop):Prop :=
 ∃ (σ:Type) (env:σ->Env) (inv:σ->World->Prop),(first fun ex E' w'=>match ex with
  | .normal=>∃ s,Cov E' (env s)/\inv s w'
  | ex=>Q ex E' w')/\∀ s w',inv s w'->second (env s) w' Q
noncomputable def wpM (S:Sig) (m:Mk):Code->Env->World->(Exit->Env->World->Prop)->Prop :=
 Mk.rec (motive:=fun _=>Code->Env->World->(Exit->Env->World->Prop)->Prop)
  (fun c E w Q=>wpE S c E w Q)
  (fun _ _ ia ib c E w Q=>match c with
   | .seq x y=>ia x E w fun ex E' w'=>match ex with
    | .normal=>ib y E' w' Q
    | ex=>Q ex E' w'
   | _=>False)
  (fun _ _ ia ib c E w Q=>match c with
   | .seq x y=>CutE (fun Q=>ia x E w Q) (fun E w Q=>ib y E w Q) Q
   | _=>False)
  (fun _ _ ia ib c E w Q=>match c with
   | .cond c x y=>(match opd E c with
    | some (.bool v)=>Br v (ia x E w Q) (ib y E w Q)
    | _=>False)
   | _=>False)
  (fun _ ia c E w Q=>match c with
   | .block id x=>ia x E w fun ex E' w'=>match ex with
    | .exit id'=>(match Nat.beq id' id with
     | true=>Q .normal E' w'
     | false=>Q (.exit id') E' w')
    | ex=>Q ex E' w'
   | _=>False)
  (fun _ ia c E w Q=>match c with
   | .loop x=>zrA (fun E w Q=>ia x E w Q) E w Q
   | _=>False)
  m
section
variable {S:Sig}
theorem zb8 (hS:SigOk S):∀ (m:Mk) (c:Code) (E:Env) (a:Act) (w:World) (Q:Exit->Env->World->Prop),Agrees S a E->wpM S m c E w Q->c.wpIn (FR S.r) NN S.P (lift S Q) a w
 | .p,c,E,a,w,Q,ha,h=>zbf hS c E a w Q ha h
 | .s m k,.seq x y,E,a,w,Q,ha,h=>by
  replace h:(wpM S m x E w fun ex E' w'=>match ex with | .normal=>wpM S k y E' w' Q | ex=>Q ex E' w'):=h;refine wpIn_seq ?_;refine wpIn_mono (zb8 hS m x E a w _ ha h) ?_;rintro ex a' w' ⟨E',ha',hq⟩
  cases ex with
  | normal=>exact zb8 hS k y E' a' w' Q ha' hq
  | _=>exact⟨E',ha',hq⟩
 | .c m k,.seq x y,E,a,w,Q,ha,h=>by
  replace h:CutE (fun Q=>wpM S m x E w Q) (fun E w Q=>wpM S k y E w Q) Q:=h;obtain⟨σ,env,inv,h1,h2⟩:=h;refine wpIn_seq ?_;refine wpIn_mono (zb8 hS m x E a w _ ha h1) ?_;rintro ex a' w' ⟨E',ha',hq⟩
  cases ex with
  | normal =>
   obtain⟨s,hc,hi⟩:=hq;exact zb8 hS k y (env s) a' w' Q (ha'.cov hc) (h2 s w' hi)
  | _=>exact⟨E',ha',hq⟩
 | .d m k,.cond c x y,E,a,w,Q,ha,h=>by
  replace h:(match opd E c with | some (.bool v)=>Br v (wpM S m x E w Q) (wpM S k y E w Q) | _=>False):=h
  split at h
  ·rename_i b hb;refine wpIn_cond_split (ha.eval hb) (fun e=>zb8 hS m x E a w Q ha (h.1 e)) (fun e=>zb8 hS k y E a w Q ha (h.2 e))
  ·exact h.elim
 | .b m,.block id x,E,a,w,Q,ha,h=>by
  replace h:(wpM S m x E w fun ex E' w'=>match ex with | .exit id'=>(match Nat.beq id' id with | true=>Q .normal E' w' | false=>Q (.exit id') E' w') | ex=>Q ex E' w'):=h;refine wpIn_block ?_;refine wpIn_mono (zb8 hS m x E a w _ ha h) ?_;rintro ex a' w' ⟨E',ha',hq⟩
  cases ex with
  | exit id' =>
   simp only [Exit.inBlock];dsimp only at hq
   split at hq
   ·rename_i hb;rw [if_pos (Nat.eq_of_beq_eq_true hb)];exact⟨E',ha',hq⟩
   ·rename_i hb;rw [if_neg (Nat.ne_of_beq_eq_false hb)];exact⟨E',ha',hq⟩
  | _=>exact⟨E',ha',hq⟩
 | .l m,.loop x,E,a,w,Q,ha,h=>by
  replace h:zrA (fun E w Q=>wpM S m x E w Q) E w Q:=h;obtain⟨σ,env,inv,μ,s0,hc,hi,hb⟩:=h;have key:∀ m s a w,μ s=m->Agrees S a (env s)->inv s w->(Code.loop x).wpIn (FR S.r) NN S.P (lift S Q) a w:=by
   intro m' s a w hm ha hi;refine wpIn_loop (fun a w=>∃ s,Agrees S a (env s)/\inv s w) (fun a w=>leastOf (fun k=>∃ s,Agrees S a (env s)/\inv s w/\μ s=k)) ⟨s,ha,hi⟩ ?_;intro a w ⟨s1,ha1,hi1⟩;obtain⟨⟨s2,ha2,hi2,hm2⟩,_⟩:=leastOf_spec (p:=fun k=>∃ s,Agrees S a (env s)/\inv s w/\μ s=k) ⟨_,s1,ha1,hi1,rfl⟩;refine wpIn_mono (zb8 hS m x (env s2) a w _ ha2 (hb s2 w hi2)) ?_;rintro ex a' w' ⟨E',ha',hq⟩
   cases ex with
   | normal =>
    obtain⟨s',hc',hi',hlt⟩:=hq;refine⟨⟨s',ha'.cov hc',hi'⟩,?_⟩;have:=(leastOf_spec (p:=fun k=>∃ s,Agrees S a' (env s)/\inv s w'/\μ s=k) ⟨_,s',ha'.cov hc',hi',rfl⟩).2;rw [<- hm2];exact Nat.lt_of_le_of_lt (this _ ⟨s',ha'.cov hc',hi',rfl⟩) hlt
   | _=>exact⟨E',ha',hq⟩
  exact key _ s0 a w rfl (ha.cov hc) hi
 | .s _ _,.skip,_,_,_,_,_,h=>h.elim
 | .s _ _,.region _ _ _,_,_,_,_,_,h=>h.elim
 | .s _ _,.cond _ _ _,_,_,_,_,_,h=>h.elim
 | .s _ _,.block _ _,_,_,_,_,_,h=>h.elim
 | .s _ _,.loop _,_,_,_,_,_,h=>h.elim
 | .s _ _,.rangeFunc _ _ _ _,_,_,_,_,_,h=>h.elim
 | .s _ _,.exit _,_,_,_,_,_,h=>h.elim
 | .s _ _,.scope _,_,_,_,_,_,h=>h.elim
 | .s _ _,.label _,_,_,_,_,_,h=>h.elim
 | .s _ _,.goto _,_,_,_,_,_,h=>h.elim
 | .s _ _,.ret,_,_,_,_,_,h=>h.elim
 | .s _ _,.refuse _,_,_,_,_,_,h=>h.elim
 | .c _ _,.skip,_,_,_,_,_,h=>h.elim
 | .c _ _,.region _ _ _,_,_,_,_,_,h=>h.elim
 | .c _ _,.cond _ _ _,_,_,_,_,_,h=>h.elim
 | .c _ _,.block _ _,_,_,_,_,_,h=>h.elim
 | .c _ _,.loop _,_,_,_,_,_,h=>h.elim
 | .c _ _,.rangeFunc _ _ _ _,_,_,_,_,_,h=>h.elim
 | .c _ _,.exit _,_,_,_,_,_,h=>h.elim
 | .c _ _,.scope _,_,_,_,_,_,h=>h.elim
 | .c _ _,.label _,_,_,_,_,_,h=>h.elim
 | .c _ _,.goto _,_,_,_,_,_,h=>h.elim
 | .c _ _,.ret,_,_,_,_,_,h=>h.elim
 | .c _ _,.refuse _,_,_,_,_,_,h=>h.elim
 | .d _ _,.skip,_,_,_,_,_,h=>h.elim
 | .d _ _,.region _ _ _,_,_,_,_,_,h=>h.elim
 | .d _ _,.seq _ _,_,_,_,_,_,h=>h.elim
 | .d _ _,.block _ _,_,_,_,_,_,h=>h.elim
 | .d _ _,.loop _,_,_,_,_,_,h=>h.elim
 | .d _ _,.rangeFunc _ _ _ _,_,_,_,_,_,h=>h.elim
 | .d _ _,.exit _,_,_,_,_,_,h=>h.elim
 | .d _ _,.scope _,_,_,_,_,_,h=>h.elim
 | .d _ _,.label _,_,_,_,_,_,h=>h.elim
 | .d _ _,.goto _,_,_,_,_,_,h=>h.elim
 | .d _ _,.ret,_,_,_,_,_,h=>h.elim
 | .d _ _,.refuse _,_,_,_,_,_,h=>h.elim
 | .b _,.skip,_,_,_,_,_,h=>h.elim
 | .b _,.region _ _ _,_,_,_,_,_,h=>h.elim
 | .b _,.seq _ _,_,_,_,_,_,h=>h.elim
 | .b _,.cond _ _ _,_,_,_,_,_,h=>h.elim
 | .b _,.loop _,_,_,_,_,_,h=>h.elim
 | .b _,.rangeFunc _ _ _ _,_,_,_,_,_,h=>h.elim
 | .b _,.exit _,_,_,_,_,_,h=>h.elim
 | .b _,.scope _,_,_,_,_,_,h=>h.elim
 | .b _,.label _,_,_,_,_,_,h=>h.elim
 | .b _,.goto _,_,_,_,_,_,h=>h.elim
 | .b _,.ret,_,_,_,_,_,h=>h.elim
 | .b _,.refuse _,_,_,_,_,_,h=>h.elim
 | .l _,.skip,_,_,_,_,_,h=>h.elim
 | .l _,.region _ _ _,_,_,_,_,_,h=>h.elim
 | .l _,.seq _ _,_,_,_,_,_,h=>h.elim
 | .l _,.cond _ _ _,_,_,_,_,_,h=>h.elim
 | .l _,.block _ _,_,_,_,_,_,h=>h.elim
 | .l _,.rangeFunc _ _ _ _,_,_,_,_,_,h=>h.elim
 | .l _,.exit _,_,_,_,_,_,h=>h.elim
 | .l _,.scope _,_,_,_,_,_,h=>h.elim
 | .l _,.label _,_,_,_,_,_,h=>h.elim
 | .l _,.goto _,_,_,_,_,_,h=>h.elim
 | .l _,.ret,_,_,_,_,_,h=>h.elim
 | .l _,.refuse _,_,_,_,_,_,h=>h.elim
theorem zhB (hS:SigOk S) {f:FuncId} {fn:Func} {c:Code} {args:List Value} {w:World} {R:Ending->World->Prop} (m:Mk)
  (hf:S.P.funcs[f]?=some fn) (hb:fn.body=some c) (hn:fn.ntmps=S.n) (hle:args.length<=S.n) (hr:S.r=none)
  (h:wpM S m c ⟨zhb 0 args,[]⟩ w (zoD S fn R)):Calls S.P f args.toArray w R:=by
 rw [<- callsIn_wide (n:=NN)];have hF:FR none=Fence.wide:=rfl;rw [<- hF];refine callsIn_of_wp_marks hf hb trivial ?_;have ha:Agrees S { tmps:=args.toArray++Array.replicate (fn.ntmps-args.toArray.size) undef,defers:=[] } ⟨zhb 0 args,[]⟩:=by
  refine⟨?_,rfl,fun t v hv=>?_⟩
  ·simp [hn];omega
  ·obtain⟨_,h2⟩:=zfE _ _ _ _ hv;simp only [Nat.sub_zero] at h2;have hlt:t<args.length:=(List.getElem?_eq_some_iff.1 h2).1;simp only [Array.getElem?_append,List.size_toArray,hlt,if_true];simpa using h2
 have h1:=zb8 hS m c _ _ w _ ha h;rw [hr] at h1;refine wpIn_mono h1 ?_;rintro ex a' w' ⟨E',ha',hq⟩
 cases ex with
 | normal=>have:=zcL hS ha' _ _ hq;rw [<- ha'.defers] at this;exact this
 | ret=>have:=zcL hS ha' _ _ hq;rw [<- ha'.defers] at this;exact this
 | panic ch =>
  obtain⟨hd,hR⟩:=hq;show LeavesInM _ _ _ _ _ _ a'.defers _ _;rw [ha'.defers,hd];exact hR
 | exit _=>exact hq.elim
 | goto _=>exact hq.elim
 | outgrown=>exact hq.elim
end
end Go.Vc
namespace Go.Proofs.YtmbghmhjjodgmaaGreatDoor
open Go.Vc Go.RowKit
def zt27:List Value:=[.int .i64 0,.int .u64 0,.int .u64 0,.int .u64 0,.int .u64 0,.int .u64 0,.int .u64 0,.int .u64 0,.int .u64 0,.int .u64 0,.int .u64 0,.int .u64 0,.int .u64 0,.int .u64 0,.int .u64 0,.int .u64 0,.int .u64 0,.int .u64 0,.int .u64 0,.int .u64 0,.int .u64 0,.int .u64 0,.int .u64 0,.int .u64 0,.int .u64 0,.int .u64 0,.int .u64 0,.int .u64 0,.int .u64 0,.int .u64 0,.int .u64 0,.int .u64 0,.int .u64 0,.int .u64 0,.int .u64 0,.int .u64 0,.int .u64 0,.int .u64 0,.int .u64 0,.int .u64 0,.int .u64 0,.int .u64 0,.int .u64 0,.int .u64 0,.int .u64 0,.int .u64 0,.int .u64 0,.int .u64 0,.int .u64 0]
def zt34:List Value:=[.slice none 0 0,.int .i64 0,.int .u64 0,.int .u64 0,.int .u64 0,.int .u64 0,.int .u64 0,.int .u64 0,.int .u64 0,.int .u64 0,.int .u64 0,.int .u64 0,.int .u64 0,.int .u64 0,.int .u64 0,.int .u64 0,.int .u64 0,.int .u64 0,.int .u64 0,.int .u64 0,.int .u64 0,.int .u64 0,.int .u64 0,.int .u64 0,.int .u64 0,.int .u64 0,.int .u64 0,.int .u64 0,.int .u64 0,.int .u64 0,.int .u64 0,.int .u64 0,.int .u64 0,.int .u64 0,.int .u64 0,.int .u64 0,.int .u64 0,.int .u64 0,.int .u64 0,.int .u64 0,.int .u64 0,.int .u64 0,.int .u64 0,.int .u64 0,.int .u64 0,.int .u64 0,.int .u64 0,.int .u64 0,.int .u64 0,.int .u64 0,.int .i64 0,.int .u64 0,.int .u64 0,.int .u64 0,.int .u64 0,.int .u64 0,.int .u64 0,.int .u64 0,.int .u64 0,.int .u64 0,.int .u64 0,.int .u64 0,.int .u64 0,.int .u64 0,.int .u64 0,.int .u64 0,.int .u64 0,.int .u64 0,.int .u64 0,.int .u64 0,.int .u64 0,.int .u64 0,.int .u64 0,.int .u64 0,.int .u64 0,.int .u64 0,.int .u64 0,.int .u64 0,.int .u64 0,.int .u64 0,.int .u64 0,.int .u64 0,.int .u64 0,.int .u64 0,.int .u64 0,.int .u64 0,.int .u64 0,.int .u64 0,.int .u64 0,.int .u64 0,.int .u64 0,.int .u64 0,.int .u64 0,.int .u64 0,.int .u64 0,.int .u64 0,.int .u64 0,.int .u64 0,.int .u64 0,.int .i64 0,.int .u64 0,.int .u64 0,.int .u64 0,.int .u64 0,.int .u64 0,.int .u64 0,.int .u64 0,.int .u64 0,.int .u64 0,.int .u64 0,.int .u64 0,.int .u64 0,.int .u64 0,.int .u64 0,.int .u64 0,.int .u64 0,.int .u64 0,.int .u64 0,.int .u64 0,.int .u64 0,.int .u64 0,.int .u64 0,.int .u64 0,.int .u64 0,.int .u64 0,.int .u64 0,.int .u64 0,.int .u64 0,.int .u64 0,.int .u64 0,.int .u64 0,.int .u64 0,.int .u64 0,.int .u64 0,.int .u64 0,.int .u64 0,.int .u64 0,.int .u64 0,.int .u64 0,.int .u64 0,.int .u64 0,.int .u64 0,.int .u64 0,.int .u64 0,.int .u64 0,.int .u64 0,.int .u64 0,.int .u64 0,.int .i64 0,.int .u64 0,.int .u64 0,.int .u64 0,.int .u64 0,.int .u64 0,.int .u64 0,.int .u64 0,.int .u64 0,.int .u64 0,.int .u64 0,.int .u64 0,.int .u64 0,.int .u64 0,.int .u64 0,.int .u64 0,.int .u64 0,.int .u64 0,.int .u64 0,.int .u64 0,.int .u64 0,.int .u64 0,.int .u64 0,.int .u64 0,.int .u64 0,.int .u64 0,.int .u64 0,.int .u64 0,.int .u64 0,.int .u64 0,.int .u64 0,.int .u64 0,.int .u64 0,.int .u64 0,.int .u64 0,.int .u64 0,.int .u64 0,.int .u64 0,.int .u64 0,.int .u64 0,.int .u64 0,.int .u64 0,.int .u64 0,.int .u64 0,.int .u64 0,.int .u64 0,.int .u64 0,.int .u64 0,.int .u64 0,.int .i64 0,.int .u64 0,.int .u64 0,.int .u64 0,.int .u64 0,.int .u64 0,.int .u64 0,.int .u64 0,.int .u64 0,.int .u64 0,.int .u64 0,.int .u64 0,.int .u64 0,.int .u64 0,.int .u64 0,.int .u64 0,.int .u64 0,.int .u64 0,.int .u64 0,.int .u64 0,.int .u64 0,.int .u64 0,.int .u64 0,.int .u64 0,.int .u64 0,.int .u64 0,.int .u64 0,.int .u64 0,.int .u64 0,.int .u64 0,.int .u64 0,.int .u64 0,.int .u64 0,.int .u64 0,.int .u64 0,.int .u64 0,.int .u64 0,.int .u64 0,.int .u64 0,.int .u64 0,.int .u64 0,.int .u64 0,.int .u64 0,.int .u64 0,.int .u64 0,.int .u64 0,.int .u64 0,.int .u64 0,.int .u64 0,.int .i64 0,.int .u64 0,.int .u64 0,.int .u64 0,.int .u64 0,.int .u64 0,.int .u64 0,.int .u64 0,.int .u64 0,.int .u64 0,.int .u64 0,.int .u64 0,.int .u64 0,.int .u64 0,.int .u64 0,.int .u64 0,.int .u64 0,.int .u64 0,.int .u64 0,.int .u64 0,.int .u64 0,.int .u64 0,.int .u64 0,.int .u64 0,.int .u64 0,.int .u64 0,.int .u64 0,.int .u64 0,.int .u64 0,.int .u64 0,.int .u64 0,.int .u64 0,.int .u64 0,.int .u64 0,.int .u64 0,.int .u64 0,.int .u64 0,.int .u64 0,.int .u64 0,.int .u64 0,.int .u64 0,.int .u64 0,.int .u64 0,.int .u64 0,.int .u64 0,.int .u64 0,.int .u64 0,.int .u64 0,.int .u64 0,.int .u8 0,.int .u8 0,.int .u8 0,.int .u8 0,.int .u8 0,.int .u8 0,.int .u8 0,.int .u8 0,.int .u8 0,.int .u8 0,.int .u8 0,.int .u8 0,.int .u8 0,.int .u8 0,.int .u8 0,.int .u8 0,.int .u8 0,.int .u8 0,.int .u8 0,.int .u8 0,.int .u8 0,.int .u8 0,.int .u8 0,.int .u8 0,.int .u8 0,.int .u8 0,.int .u8 0,.int .u8 0,.int .u8 0,.int .u8 0,.int .u8 0,.int .u8 0,.int .u8 0,.int .u8 0,.int .u8 0,.int .u8 0,.int .u8 0,.int .u8 0]
def zep:List Value:=[.slice none 0 0,.int .i64 0,.int .u64 0,.int .u64 0,.int .u64 0,.int .u64 0,.int .u64 0,.int .u64 0,.int .u64 0,.int .u64 0,.int .u64 0,.int .u64 0,.int .u64 0,.int .u64 0,.int .u64 0,.int .u64 0,.int .u64 0,.int .u64 0,.int .u64 0,.int .u64 0,.int .u64 0,.int .u64 0,.int .u64 0,.int .u64 0,.int .u64 0,.int .u64 0,.int .u64 0,.int .u64 0,.int .u64 0,.int .u64 0,.int .u64 0,.int .u64 0,.int .u64 0,.int .u64 0,.int .u64 0,.int .u64 0,.int .u64 0,.int .u64 0,.int .u64 0,.int .u64 0,.int .u64 0,.int .u64 0,.int .u64 0,.int .u64 0,.int .u64 0,.int .u64 0,.int .u64 0,.int .u64 0,.int .u64 0,.int .u64 0,.int .i64 0,.int .u64 0,.int .u64 0,.int .u64 0,.int .u64 0,.int .u64 0,.int .u64 0,.int .u64 0,.int .u64 0,.int .u64 0,.int .u64 0,.int .u64 0,.int .u64 0,.int .u64 0,.int .u64 0,.int .u64 0,.int .u64 0,.int .u64 0,.int .u64 0,.int .u64 0,.int .u64 0,.int .u64 0,.int .u64 0,.int .u64 0,.int .u64 0,.int .u64 0,.int .u64 0,.int .u64 0,.int .u64 0,.int .u64 0,.int .u64 0,.int .u64 0,.int .u64 0,.int .u64 0,.int .u64 0,.int .u64 0,.int .u64 0,.int .u64 0,.int .u64 0,.int .u64 0,.int .u64 0,.int .u64 0,.int .u64 0,.int .u64 0,.int .u64 0,.int .u64 0,.int .u64 0,.int .u64 0,.int .u64 0,.int .i64 0,.int .u64 0,.int .u64 0,.int .u64 0,.int .u64 0,.int .u64 0,.int .u64 0,.int .u64 0,.int .u64 0,.int .u64 0,.int .u64 0,.int .u64 0,.int .u64 0,.int .u64 0,.int .u64 0,.int .u64 0,.int .u64 0,.int .u64 0,.int .u64 0,.int .u64 0,.int .u64 0,.int .u64 0,.int .u64 0,.int .u64 0,.int .u64 0,.int .u64 0,.int .u64 0,.int .u64 0,.int .u64 0,.int .u64 0,.int .u64 0,.int .u64 0,.int .u64 0,.int .u64 0,.int .u64 0,.int .u64 0,.int .u64 0,.int .u64 0,.int .u64 0,.int .u64 0,.int .u64 0,.int .u64 0,.int .u64 0,.int .u64 0,.int .u64 0,.int .u64 0,.int .u64 0,.int .u64 0,.int .u64 0,.int .i64 0,.int .u64 0,.int .u64 0,.int .u64 0,.int .u64 0,.int .u64 0,.int .u64 0,.int .u64 0,.int .u64 0,.int .u64 0,.int .u64 0,.int .u64 0,.int .u64 0,.int .u64 0,.int .u64 0,.int .u64 0,.int .u64 0,.int .u64 0,.int .u64 0,.int .u64 0,.int .u64 0,.int .u64 0,.int .u64 0,.int .u64 0,.int .u64 0,.int .u64 0,.int .u64 0,.int .u64 0,.int .u64 0,.int .u64 0,.int .u64 0,.int .u64 0,.int .u64 0,.int .u64 0,.int .u64 0,.int .u64 0,.int .u64 0,.int .u64 0,.int .u64 0,.int .u64 0,.int .u64 0,.int .u64 0,.int .u64 0,.int .u64 0,.int .u64 0,.int .u64 0,.int .u64 0,.int .u64 0,.int .u64 0,.int .i64 0,.int .u64 0,.int .u64 0,.int .u64 0,.int .u64 0,.int .u64 0,.int .u64 0,.int .u64 0,.int .u64 0,.int .u64 0,.int .u64 0,.int .u64 0,.int .u64 0,.int .u64 0,.int .u64 0,.int .u64 0,.int .u64 0,.int .u64 0,.int .u64 0,.int .u64 0,.int .u64 0,.int .u64 0,.int .u64 0,.int .u64 0,.int .u64 0,.int .u64 0,.int .u64 0,.int .u64 0,.int .u64 0,.int .u64 0,.int .u64 0,.int .u64 0,.int .u64 0,.int .u64 0,.int .u64 0,.int .u64 0,.int .u64 0,.int .u64 0,.int .u64 0,.int .u64 0,.int .u64 0,.int .u64 0,.int .u64 0,.int .u64 0,.int .u64 0,.int .u64 0,.int .u64 0,.int .u64 0,.int .u64 0,.int .i64 0,.int .u64 0,.int .u64 0,.int .u64 0,.int .u64 0,.int .u64 0,.int .u64 0,.int .u64 0,.int .u64 0,.int .u64 0,.int .u64 0,.int .u64 0,.int .u64 0,.int .u64 0,.int .u64 0,.int .u64 0,.int .u64 0,.int .u64 0,.int .u64 0,.int .u64 0,.int .u64 0,.int .u64 0,.int .u64 0,.int .u64 0,.int .u64 0,.int .u64 0,.int .u64 0,.int .u64 0,.int .u64 0,.int .u64 0,.int .u64 0,.int .u64 0,.int .u64 0,.int .u64 0,.int .u64 0,.int .u64 0,.int .u64 0,.int .u64 0,.int .u64 0,.int .u64 0,.int .u64 0,.int .u64 0,.int .u64 0,.int .u64 0,.int .u64 0,.int .u64 0,.int .u64 0,.int .u64 0,.int .u64 0,.int .u8 0,.int .u8 0,.int .u8 0,.int .u8 0,.int .u8 0,.int .u8 0,.int .u8 0,.int .u8 0,.int .u8 0,.int .u8 0,.int .u8 0,.int .u8 0,.int .u8 0,.int .u8 0,.int .u8 0,.int .u8 0,.int .u8 0,.int .u8 0,.int .u8 0,.int .u8 0,.int .u8 0,.int .u8 0,.int .u8 0,.int .u8 0,.int .u8 0,.int .u8 0,.int .u8 0,.int .u8 0,.int .u8 0,.int .u8 0,.int .u8 0,.int .u8 0,.int .u8 0,.int .u8 0,.int .u8 0,.int .u8 0,.int .u8 0,.int .u8 0,.slice none 0 0,.slice none 0 0,.slice none 0 0]
def zsW:List Value:=[.int .i64 0,.int .u8 0,.int .u8 0,.int .u8 0,.int .u8 0,.int .u8 0,.int .u8 0,.int .i64 0,.int .u8 0,.int .u8 0,.int .u8 0,.int .u8 0,.int .u8 0,.int .u8 0,.int .i64 0,.int .u8 0,.int .u8 0,.int .u8 0,.int .u8 0,.int .u8 0,.int .u8 0,.int .i64 0,.int .u8 0,.int .u8 0,.int .u8 0,.int .u8 0,.int .u8 0,.int .u8 0,.int .i64 0,.int .u8 0,.int .u8 0,.int .u8 0,.int .u8 0,.int .u8 0,.int .u8 0,.int .i64 0,.int .u8 0,.int .u8 0,.int .u8 0,.int .u8 0,.int .u8 0,.int .u8 0,.int .i64 0,.int .u8 0,.int .u8 0,.int .u8 0,.int .u8 0,.int .u8 0,.int .u8 0,.int .i64 0,.int .u8 0,.int .u8 0,.int .u8 0,.int .u8 0,.int .u8 0,.int .u8 0,.int .i64 0,.int .u8 0,.int .u8 0,.int .u8 0,.int .u8 0,.int .u8 0,.int .u8 0,.int .i64 0,.int .u8 0,.int .u8 0,.int .u8 0,.int .u8 0,.int .u8 0,.int .u8 0,.int .i64 0,.int .u8 0,.int .u8 0,.int .u8 0,.int .u8 0,.int .u8 0,.int .u8 0,.int .i64 0,.int .u8 0,.int .u8 0,.int .u8 0,.int .u8 0,.int .u8 0,.int .u8 0,.int .i64 0,.int .u8 0,.int .u8 0,.int .u8 0,.int .u8 0,.int .u8 0,.int .u8 0,.int .i64 0,.int .u8 0,.int .u8 0,.int .u8 0,.int .u8 0,.int .u8 0,.int .u8 0,.int .i64 0,.int .u8 0,.int .u8 0,.int .u8 0,.int .u8 0,.int .u8 0,.int .u8 0,.int .i64 0,.int .u8 0,.int .u8 0,.int .u8 0,.int .u8 0,.int .u8 0,.int .u8 0,.int .i64 0,.int .u8 0,.int .u8 0,.int .u8 0,.int .u8 0,.int .u8 0,.int .u8 0,.int .i64 0,.int .u8 0,.int .u8 0,.int .u8 0,.int .u8 0,.int .u8 0,.int .u8 0,.int .i64 0,.int .u8 0,.int .u8 0,.int .u8 0,.int .u8 0,.int .u8 0,.int .u8 0,.int .i64 0,.int .u8 0,.int .u8 0,.int .u8 0,.int .u8 0,.int .u8 0,.int .u8 0,.int .i64 0,.int .u8 0,.int .u8 0,.int .u8 0,.int .u8 0,.int .u8 0,.int .u8 0,.int .i64 0,.int .u8 0,.int .u8 0,.int .u8 0,.int .u8 0,.int .u8 0,.int .u8 0,.int .i64 0,.int .u8 0,.int .u8 0,.int .u8 0,.int .u8 0,.int .u8 0,.int .u8 0,.int .i64 0,.int .u8 0,.int .u8 0,.int .u8 0,.int .u8 0,.int .u8 0,.int .u8 0]
def zoe:List Value:=[.int .i64 0,.int .u8 0,.int .u8 0,.int .u8 0,.int .u8 0,.int .u8 0,.int .u8 0,.int .u8 0,.int .u8 0,.int .u32 0,.int .u32 0,.int .u32 0,.int .u32 0,.int .u32 0,.int .u32 0,.int .u32 0,.int .u32 0,.int .u32 0,.int .i64 0,.int .i64 0,.int .u8 0,.int .u8 0,.int .u8 0,.int .u8 0,.int .u8 0,.int .u8 0,.int .i64 0,.int .u8 0,.int .u8 0,.int .u8 0,.int .u8 0,.int .u8 0,.int .u8 0,.int .i64 0,.int .u8 0,.int .u8 0,.int .u8 0,.int .u8 0,.int .u8 0,.int .u8 0,.int .i64 0,.int .u8 0,.int .u8 0,.int .u8 0,.int .u8 0,.int .u8 0,.int .u8 0,.int .i64 0,.int .u8 0,.int .u8 0,.int .u8 0,.int .u8 0,.int .u8 0,.int .u8 0,.int .i64 0,.int .u8 0,.int .u8 0,.int .u8 0,.int .u8 0,.int .u8 0,.int .u8 0,.int .i64 0,.int .u8 0,.int .u8 0,.int .u8 0,.int .u8 0,.int .u8 0,.int .u8 0,.int .i64 0,.int .u8 0,.int .u8 0,.int .u8 0,.int .u8 0,.int .u8 0,.int .u8 0,.int .i64 0,.int .u8 0,.int .u8 0,.int .u8 0,.int .u8 0,.int .u8 0,.int .u8 0,.int .i64 0,.int .u8 0,.int .u8 0,.int .u8 0,.int .u8 0,.int .u8 0,.int .u8 0,.int .i64 0,.int .u8 0,.int .u8 0,.int .u8 0,.int .u8 0,.int .u8 0,.int .u8 0,.int .i64 0,.int .u8 0,.int .u8 0,.int .u8 0,.int .u8 0,.int .u8 0,.int .u8 0,.int .i64 0,.int .u8 0,.int .u8 0,.int .u8 0,.int .u8 0,.int .u8 0,.int .u8 0,.int .i64 0,.int .u8 0,.int .u8 0,.int .u8 0,.int .u8 0,.int .u8 0,.int .u8 0,.int .i64 0,.int .u8 0,.int .u8 0,.int .u8 0,.int .u8 0,.int .u8 0,.int .u8 0,.int .i64 0,.int .u8 0,.int .u8 0,.int .u8 0,.int .u8 0,.int .u8 0,.int .u8 0,.int .i64 0,.int .u8 0,.int .u8 0,.int .u8 0,.int .u8 0,.int .u8 0,.int .u8 0,.int .i64 0,.int .u8 0,.int .u8 0,.int .u8 0,.int .u8 0,.int .u8 0,.int .u8 0,.int .i64 0,.int .u8 0,.int .u8 0,.int .u8 0,.int .u8 0,.int .u8 0,.int .u8 0,.int .i64 0,.int .u8 0,.int .u8 0,.int .u8 0,.int .u8 0,.int .u8 0,.int .u8 0,.int .i64 0,.int .u8 0,.int .u8 0,.int .u8 0,.int .u8 0,.int .u8 0,.int .u8 0,.int .i64 0,.int .u8 0,.int .u8 0,.int .u8 0,.int .u8 0,.int .u8 0,.int .u8 0,.int .i64 0,.int .u8 0,.int .u8 0,.int .u8 0,.int .u8 0,.int .u8 0,.int .u8 0,.int .i64 0,.int .u8 0,.int .u8 0,.int .u8 0,.int .u8 0,.int .u8 0,.int .u8 0,.int .u32 0,.int .u32 0,.int .u32 0,.int .u32 0,.int .u32 0,.int .u32 0,.int .u32 0,.int .u32 0,.int .u32 0,.int .u32 0,.int .u32 0,.int .u32 0,.int .u32 0,.int .u32 0,.int .u32 0,.int .u32 0,.int .u32 0,.int .u32 0,.int .u32 0,.int .u32 0,.int .u32 0,.int .u32 0,.int .u32 0,.int .u32 0,.int .u32 0,.int .u32 0,.int .u32 0,.int .u32 0,.int .u32 0,.int .u32 0,.int .u32 0,.int .u32 0,.int .u32 0,.int .u32 0,.int .u32 0,.int .u32 0,.int .u32 0,.int .u32 0,.int .u32 0,.int .u32 0,.int .u32 0,.int .u32 0,.int .u32 0,.int .u32 0,.int .u32 0,.int .u32 0,.int .u32 0,.int .u32 0,.int .u32 0,.int .u32 0,.int .u32 0,.int .u32 0,.int .u32 0,.int .u32 0,.int .u32 0,.int .u32 0,.int .u32 0,.int .u32 0,.int .u32 0,.int .u32 0,.int .u32 0,.int .u32 0,.int .u32 0,.int .u32 0,.int .u32 0,.int .u32 0,.int .u32 0,.int .u32 0,.int .u32 0,.int .u32 0,.int .u32 0,.int .u32 0]
def zsX:List Value:=zt34++(zt27++(zt27++zt27))
def tt:TT:=[
 (0,⟨.other,1,false,0,none⟩),
 (3,⟨.int .i64,1,false,8,some [.int .i64 0]⟩),
 (4,⟨.bool,1,false,1,some [.bool false]⟩),
 (5,⟨.int .u8,1,false,1,some [.int .u8 0]⟩),
 (9,⟨.string,1,false,16,some [.string ByteArray.empty]⟩),
 (22,⟨.slice 54 7,1,false,24,some [.slice none 0 0]⟩),
 (23,⟨.int .u64,1,false,8,some [.int .u64 0]⟩),
 (24,⟨.int .u64,1,false,8,some [.int .u64 0]⟩),
 (25,⟨.array 48 24 1 false,48,true,384,some (List.replicate 48 (.int .u64 0))⟩),
 (27,⟨.struct [(0,1,false),(1,48,true)],49,true,392,some zt27⟩),
 (28,⟨.array 8 5 1 false,8,true,8,some (List.replicate 8 (.int .u8 0))⟩),
 (29,⟨.array 4 28 8 true,32,true,32,some (List.replicate 32 (.int .u8 0))⟩),
 (30,⟨.array 6 5 1 false,6,true,6,some (List.replicate 6 (.int .u8 0))⟩),
 (32,⟨.struct [(0,32,true),(32,6,true)],38,true,38,some (List.replicate 38 (.int .u8 0))⟩),
 (34,⟨.struct [(0,1,false),(1,49,true),(50,49,true),(99,49,true),(148,49,true),(197,49,true),(246,49,true),(295,38,true)],333,true,2416,some zt34⟩),
 (35,⟨.other,1,false,8,some [.nilFunc]⟩),
 (36,⟨.other,1,false,8,some [.nilFunc]⟩),
 (47,⟨.int .i64,1,false,8,some [.int .i64 0]⟩),
 (48,⟨.other,1,false,0,none⟩),
 (50,⟨.slice 52 2,1,false,24,some [.slice none 0 0]⟩),
 (52,⟨.array 2 3 1 false,2,true,16,some [.int .i64 0,.int .i64 0]⟩),
 (54,⟨.struct [(0,1,false),(1,1,false),(2,1,false),(3,1,false),(4,1,false),(5,1,false),(6,1,false)],7,true,16,some [.int .i64 0,.int .u8 0,.int .u8 0,.int .u8 0,.int .u8 0,.int .u8 0,.int .u8 0]⟩),
 (57,⟨.struct [(0,1,false),(1,1,false)],2,true,2,some [.bool false,.int .u8 0]⟩),
 (59,⟨.struct [(0,1,false),(1,1,false),(2,1,false),(3,2,true),(5,2,true),(7,1,false),(8,1,false),(9,1,false)],10,true,10,some [.int .u8 0,.int .u8 0,.int .u8 0,.bool false,.int .u8 0,.bool false,.int .u8 0,.int .u8 0,.int .u8 0,.int .u8 0]⟩),
 (60,⟨.slice 59 10,1,false,24,some [.slice none 0 0]⟩),
 (61,⟨.slice 34 333,1,false,24,some [.slice none 0 0]⟩),
 (62,⟨.other,1,false,0,none⟩),
 (64,⟨.slice 9 1,1,false,24,some [.slice none 0 0]⟩),
 (65,⟨.slice 5 1,1,false,24,some [.slice none 0 0]⟩),
 (66,⟨.slice 60 1,1,false,24,some [.slice none 0 0]⟩),
 (67,⟨.slice 69 5,1,false,24,some [.slice none 0 0]⟩),
 (69,⟨.struct [(0,1,false),(1,1,false),(2,1,false),(3,1,false),(4,1,false)],5,true,32,some [.int .u8 0,.int .u8 0,.int .u8 0,.int .u8 0,.slice none 0 0]⟩),
 (71,⟨.struct [(0,1,false),(1,1,false),(2,1,false),(3,1,false),(4,1,false),(5,5,true)],10,true,128,some [.string ByteArray.empty,.slice none 0 0,.slice none 0 0,.slice none 0 0,.int .u8 0,.int .u8 0,.int .u8 0,.int .u8 0,.int .u8 0,.slice none 0 0]⟩),
 (75,⟨.ptr 27,1,false,8,some [.pointer none]⟩),
 (76,⟨.slice 75 1,1,false,24,some [.slice none 0 0]⟩),
 (79,⟨.ptr 34,1,false,8,some [.pointer none]⟩),
 (81,⟨.slice 27 49,1,false,24,some [.slice none 0 0]⟩),
 (90,⟨.other,1,false,0,none⟩),
 (96,⟨.other,1,false,8,some [.nilFunc]⟩),
 (105,⟨.other,1,false,8,some [.nilFunc]⟩),
 (108,⟨.slice 3 1,1,false,24,some [.slice none 0 0]⟩),
 (111,⟨.other,1,false,0,none⟩),
 (113,⟨.slice 119 336,1,false,24,some [.slice none 0 0]⟩),
 (114,⟨.other,1,false,0,none⟩),
 (116,⟨.ptr 71,1,false,8,some [.pointer none]⟩),
 (117,⟨.slice 108 1,1,false,24,some [.slice none 0 0]⟩),
 (119,⟨.struct [(0,333,true),(333,1,false),(334,1,false),(335,1,false)],336,true,2488,some zep⟩),
 (122,⟨.other,1,false,8,some [.nilFunc]⟩),
 (123,⟨.other,1,false,8,some [.nilFunc]⟩),
 (126,⟨.other,1,false,0,none⟩),
 (129,⟨.other,1,false,8,some [.nilFunc]⟩),
 (135,⟨.int .u64,1,false,8,some [.int .u64 0]⟩),
 (137,⟨.other,1,false,0,none⟩),
 (140,⟨.ptr 142,1,false,8,some [.pointer none]⟩),
 (142,⟨.struct [(0,333,true),(333,49,true),(382,49,true),(431,49,true)],480,true,3592,some zsX⟩),
 (143,⟨.other,1,false,8,some [.nilFunc]⟩),
 (145,⟨.struct [(0,1,false)],1,true,8,some [.nilFunc]⟩),
 (146,⟨.array 7 145 1 true,7,true,56,some (List.replicate 7 (.nilFunc))⟩),
 (149,⟨.other,1,false,8,some [.nilFunc]⟩),
 (150,⟨.other,1,false,8,some [.nilFunc]⟩),
 (152,⟨.slice 155 2,1,false,24,some [.slice none 0 0]⟩),
 (155,⟨.struct [(0,1,false),(1,1,false)],2,true,16,some [.int .i64 0,.nilFunc]⟩),
 (157,⟨.other,1,false,0,none⟩),
 (159,⟨.slice 160 1,1,false,24,some [.slice none 0 0]⟩),
 (160,⟨.slice 168 12,1,false,24,some [.slice none 0 0]⟩),
 (161,⟨.other,1,false,0,none⟩),
 (163,⟨.other,1,false,8,some [.nilFunc]⟩),
 (164,⟨.other,1,false,8,some [.nilFunc]⟩),
 (166,⟨.slice 238 2,1,false,24,some [.slice none 0 0]⟩),
 (168,⟨.struct [(0,1,false),(1,1,false),(2,1,false),(3,1,false),(4,8,true)],12,true,104,some [.slice none 0 0,.slice none 0 0,.slice none 0 0,.slice none 0 0,.int .u8 0,.int .u8 0,.int .u8 0,.int .u8 0,.int .u8 0,.int .u8 0,.int .u8 0,.int .u8 0]⟩),
 (169,⟨.other,1,false,0,none⟩),
 (171,⟨.ptr 119,1,false,8,some [.pointer none]⟩),
 (172,⟨.slice 117 1,1,false,24,some [.slice none 0 0]⟩),
 (176,⟨.other,1,false,8,some [.nilFunc]⟩),
 (177,⟨.other,1,false,8,some [.nilFunc]⟩),
 (178,⟨.other,1,false,8,some [.nilFunc]⟩),
 (180,⟨.other,1,false,0,none⟩),
 (186,⟨.other,1,false,8,some [.nilFunc]⟩),
 (187,⟨.other,1,false,8,some [.nilFunc]⟩),
 (193,⟨.array 256 4 1 false,256,true,256,some (List.replicate 256 (.bool false))⟩),
 (194,⟨.other,1,false,8,some [.nilFunc]⟩),
 (195,⟨.other,1,false,8,some [.nilFunc]⟩),
 (197,⟨.ptr 204,1,false,8,some [.pointer none]⟩),
 (198,⟨.int .u32,1,false,4,some [.int .u32 0]⟩),
 (199,⟨.int .u32,1,false,4,some [.int .u32 0]⟩),
 (200,⟨.array 8 199 1 false,8,true,32,some (List.replicate 8 (.int .u32 0))⟩),
 (201,⟨.array 24 54 7 true,168,true,384,some zsW⟩),
 (202,⟨.array 24 199 1 false,24,true,96,some (List.replicate 24 (.int .u32 0))⟩),
 (204,⟨.struct [(0,1,false),(1,8,true),(9,8,true),(17,1,false),(18,1,false),(19,168,true),(187,24,true),(211,24,true),(235,24,true)],259,true,736,some zoe⟩),
 (206,⟨.other,1,false,8,some [.nilFunc]⟩),
 (211,⟨.other,1,false,0,none⟩),
 (217,⟨.array 64 5 1 false,64,true,64,some (List.replicate 64 (.int .u8 0))⟩),
 (218,⟨.slice 223 3,1,false,24,some [.slice none 0 0]⟩),
 (219,⟨.other,1,false,0,none⟩),
 (221,⟨.int .u8,1,false,1,some [.int .u8 0]⟩),
 (223,⟨.struct [(0,1,false),(1,1,false),(2,1,false)],3,true,32,some [.int .u8 0,.string ByteArray.empty,.int .i64 0]⟩),
 (226,⟨.struct [(0,10,true),(10,1,false),(11,1,false)],12,true,32,some [.int .u8 0,.int .u8 0,.int .u8 0,.bool false,.int .u8 0,.bool false,.int .u8 0,.int .u8 0,.int .u8 0,.int .u8 0,.int .i64 0,.int .i64 0]⟩),
 (227,⟨.slice 35 1,1,false,24,some [.slice none 0 0]⟩),
 (230,⟨.ptr 69,1,false,8,some [.pointer none]⟩),
 (233,⟨.other,1,false,8,some [.nilFunc]⟩),
 (236,⟨.slice 199 1,1,false,24,some [.slice none 0 0]⟩),
 (238,⟨.array 2 5 1 false,2,true,2,some [.int .u8 0,.int .u8 0]⟩),
 (243,⟨.struct [(0,1,false),(1,1,false)],2,true,24,some [.string ByteArray.empty,.int .i64 0]⟩),
 (245,⟨.struct [(0,2,true),(2,1,false)],3,true,32,some [.string ByteArray.empty,.int .i64 0,.bool false]⟩),
 (246,⟨.other,1,false,8,some [.nilFunc]⟩),
 (247,⟨.other,1,false,8,some [.nilFunc]⟩),
 (251,⟨.ptr 226,1,false,8,some [.pointer none]⟩),
 (255,⟨.int .i64,1,false,8,some [.int .i64 0]⟩),
 (256,⟨.other,1,false,0,none⟩),
 (265,⟨.ptr 245,1,false,8,some [.pointer none]⟩),
 (266,⟨.other,1,false,8,some [.nilFunc]⟩),
 (267,⟨.other,1,false,0,none⟩),
 (270,⟨.array 9 5 1 false,9,true,9,some (List.replicate 9 (.int .u8 0))⟩),
 (271,⟨.int .u64,1,false,8,some [.int .u64 0]⟩),
 (275,⟨.ptr 3,1,false,8,some [.pointer none]⟩),
 (277,⟨.other,1,false,8,some [.nilFunc]⟩),
 (278,⟨.array 9 277 1 false,9,true,72,some (List.replicate 9 (.nilFunc))⟩),
 (280,⟨.array 32 5 1 false,32,true,32,some (List.replicate 32 (.int .u8 0))⟩),
 (282,⟨.other,1,false,0,none⟩),
 (284,⟨.ptr 271,1,false,8,some [.pointer none]⟩),
 (285,⟨.other,1,false,0,none⟩),
 (287,⟨.ptr 243,1,false,8,some [.pointer none]⟩),
 (288,⟨.other,1,false,8,some [.nilFunc]⟩),
 (292,⟨.other,1,false,0,none⟩)]
theorem tk {P:Program} {t:Nat} {i:TI} (h1:(P.info? t).map (fun x=>(x.size,x.bytes))=some (i.size,i.bytes):=by kernel_rfl)
  (h2:∀ z,i.zero=some z->((P.info? t).bind (fun x=>x.zero)).map (fun v=>v.cells.toList)=some z:=by intro z h;cases h;first | done | kernel_rfl) (h3:zq4 P t i=true:=by kernel_rfl):TIok P t i:=tiOk h1 h2 h3
theorem ttOk:TTok Tryz.prog tt :=
 .cons tk (
 .cons tk (
 .cons tk (
 .cons tk (
 .cons tk (
 .cons tk (
 .cons tk (
 .cons tk (
 .cons tk (
 .cons tk (
 .cons tk (
 .cons tk (
 .cons tk (
 .cons tk (
 .cons tk (
 .cons tk (
 .cons tk (
 .cons tk (
 .cons tk (
 .cons tk (
 .cons tk (
 .cons tk (
 .cons tk (
 .cons tk (
 .cons tk (
 .cons tk (
 .cons tk (
 .cons tk (
 .cons tk (
 .cons tk (
 .cons tk (
 .cons tk (
 .cons tk (
 .cons tk (
 .cons tk (
 .cons tk (
 .cons tk (
 .cons tk (
 .cons tk (
 .cons tk (
 .cons tk (
 .cons tk (
 .cons tk (
 .cons tk (
 .cons tk (
 .cons tk (
 .cons tk (
 .cons tk (
 .cons tk (
 .cons tk (
 .cons tk (
 .cons tk (
 .cons tk (
 .cons tk (
 .cons tk (
 .cons tk (
 .cons tk (
 .cons tk (
 .cons tk (
 .cons tk (
 .cons tk (
 .cons tk (
 .cons tk (
 .cons tk (
 .cons tk (
 .cons tk (
 .cons tk (
 .cons tk (
 .cons tk (
 .cons tk (
 .cons tk (
 .cons tk (
 .cons tk (
 .cons tk (
 .cons tk (
 .cons tk (
 .cons tk (
 .cons tk (
 .cons tk (
 .cons tk (
 .cons tk (
 .cons tk (
 .cons tk (
 .cons tk (
 .cons tk (
 .cons tk (
 .cons tk (
 .cons tk (
 .cons tk (
 .cons tk (
 .cons tk (
 .cons tk (
 .cons tk (
 .cons tk (
 .cons tk (
 .cons tk (
 .cons tk (
 .cons tk (
 .cons tk (
 .cons tk (
 .cons tk (
 .cons tk (
 .cons tk (
 .cons tk (
 .cons tk (
 .cons tk (
 .cons tk (
 .cons tk (
 .cons tk (
 .cons tk (
 .cons tk (
 .cons tk (
 .cons tk (
 .cons tk (
 .cons tk (
 .cons tk (
 .cons tk (
 .cons tk (
 .cons tk (
 .cons tk (
 .cons tk (
 .cons tk (
 .cons tk (
 .cons tk (
 .nil))))))))))))))))))))))))))))))))))))))))))))))))))))))))))))))))))))))))))))))))))))))))))))))))))))))))))))))))))))))))))))
theorem zsE:zrm Tryz.prog 3 274 [252,253,254,255,256,257,258,259,260,261,262,263,264,265,266,267,268,269,270,271,272]=true:=by kernel_rfl
theorem mixed:Tryz.prog.follows .mixedOrders=true:=by kernel_rfl
@[reducible] noncomputable def sg (n:Nat):Sig:=⟨Tryz.prog,tt,n,3,274,none,[252,253,254,255,256,257,258,259,260,261,262,263,264,265,266,267,268,269,270,271,272]⟩
theorem sgOk (n:Nat):SigOk (sg n):=⟨fun t i h=>ttOk.get t i h,zsF zsE,mixed⟩
abbrev k0:=ttOk.get 0 _ rfl
abbrev k3:=ttOk.get 3 _ rfl
abbrev k4:=ttOk.get 4 _ rfl
abbrev k5:=ttOk.get 5 _ rfl
abbrev k22:=ttOk.get 22 _ rfl
abbrev k24:=ttOk.get 24 _ rfl
abbrev k27:=ttOk.get 27 _ rfl
abbrev k28:=ttOk.get 28 _ rfl
abbrev k34:=ttOk.get 34 _ rfl
abbrev k47:=ttOk.get 47 _ rfl
abbrev k54:=ttOk.get 54 _ rfl
abbrev k57:=ttOk.get 57 _ rfl
abbrev k59:=ttOk.get 59 _ rfl
abbrev k61:=ttOk.get 61 _ rfl
abbrev k65:=ttOk.get 65 _ rfl
abbrev k71:=ttOk.get 71 _ rfl
abbrev k108:=ttOk.get 108 _ rfl
abbrev k113:=ttOk.get 113 _ rfl
abbrev k117:=ttOk.get 117 _ rfl
abbrev k119:=ttOk.get 119 _ rfl
abbrev k140:=ttOk.get 140 _ rfl
abbrev k146:=ttOk.get 146 _ rfl
abbrev k155:=ttOk.get 155 _ rfl
abbrev k159:=ttOk.get 159 _ rfl
abbrev k160:=ttOk.get 160 _ rfl
abbrev k168:=ttOk.get 168 _ rfl
abbrev k172:=ttOk.get 172 _ rfl
abbrev k187:=ttOk.get 187 _ rfl
abbrev k199:=ttOk.get 199 _ rfl
abbrev k204:=ttOk.get 204 _ rfl
abbrev k218:=ttOk.get 218 _ rfl
abbrev k223:=ttOk.get 223 _ rfl
abbrev k226:=ttOk.get 226 _ rfl
abbrev k238:=ttOk.get 238 _ rfl
abbrev k245:=ttOk.get 245 _ rfl
abbrev k278:=ttOk.get 278 _ rfl
abbrev CB (f:FuncId) (args:Array Value) (w:World) (v:Value):Prop:=Calls Tryz.prog f args w fun e w'=>e = .returned v/\Below w.heap.size w w'
theorem cofM (n:Nat) (args:List Value) (m:Mk) {f:FuncId} {fn:Func} {c:Code} {w:World} {R:Ending->World->Prop} (hf:Tryz.prog.funcs[f]?=some fn) (h:wpM (sg n) m c ⟨zhb 0 args,[]⟩ w (zoD (sg n) fn R)) (hb:fn.body=some c:=by rfl) (hn:fn.ntmps=n:=by rfl) (hle:args.length<=n:=by exact Nat.le_of_ble_eq_true rfl):Calls Tryz.prog f args.toArray w R:=zhB (S:=sg n) (sgOk _) m hf hb hn hle rfl h
theorem cofE (n:Nat) (args:List Value) {f:FuncId} {fn:Func} {c:Code} {w:World} {R:Ending->World->Prop} (hf:Tryz.prog.funcs[f]?=some fn) (h:wpE (sg n) c ⟨zhb 0 args,[]⟩ w (zoD (sg n) fn R)) (hb:fn.body=some c:=by rfl) (hn:fn.ntmps=n:=by rfl) (hle:args.length<=n:=by exact Nat.le_of_ble_eq_true rfl):Calls Tryz.prog f args.toArray w R:=zbd (S:=sg n) (sgOk _) hf hb hn hle rfl h
end Go.Proofs.YtmbghmhjjodgmaaGreatDoor
namespace Go.Sei
open Go.Vc
structure Msg where
 kind:UInt8
 from_:UInt8
 to:UInt8
 line:UInt8
 asker:UInt8
 acks:UInt8
 alone:Bool
 d0:UInt8
 d1:UInt8
 d2:UInt8
 d3:UInt8
 deriving DecidableEq
def Msg.enc (m:Msg):List Value:=[u8 m.kind,u8 m.from_,u8 m.to,u8 m.line,u8 m.asker,u8 m.acks,.bool m.alone,u8 m.d0,u8 m.d1,u8 m.d2,u8 m.d3]
def Msg.val (m:Msg):Value := .agg m.enc.toArray
def intE:Enc Int:=⟨fun n=>[.int .i64 n],1,fun _=>rfl,by decide,fun a u hu=>by
 simp only [List.mem_cons,List.not_mem_nil,or_false] at hu;subst hu;rfl⟩
end Go.Sei
namespace Go.Proofs.YtmbghmhjjodgmaaGreatDoor
open Go.Vc Go.RowKit Go.Sei
def i64 (n:Int):Value := .int .i64 n
theorem zeY {off sz:Nat} {cs:List Value} {v:Value} {K:Value->Prop} (h:cs[off]?=some v) (k:K v):zlx off sz false cs K:=by
 unfold zlx;rw [h];exact k
end Go.Proofs.YtmbghmhjjodgmaaGreatDoor
namespace Go.Vc
open Go.RowKit
structure MapK (P:Program) (K:TypeId) {κ:Type} [DecidableEq κ] (key:κ->Value):Prop where
 check:∀ q e w,(Instr.checkKey e 10000 K (key q)).run P w = .ok () w
 eq:∀ q q' w,(Op.equal K (key q) (key q')).run P w = .ok (decide (q=q')) w
 same:∀ q,Instr.sameBits 10000 (key q) (key q)=true
 desc:∃ d,P.underlying K=some d/\∀ q q',Instr.sameNow d (key q) (key q')=none\/Instr.sameNow d (key q) (key q')=some (decide (q=q'))
section
variable {P:Program} {K:TypeId} {κ:Type} [DecidableEq κ] {key:κ->Value}
abbrev Ent (κ:Type):=κ×Value×Nat
def entry (key:κ->Value) (e:Ent κ):MapEntry:=⟨key e.1,e.2.1,e.2.2⟩
def zse (q:κ):List (Ent κ)->Nat->Option (Nat×Value)
 | [],_=>none
 | e::r,i=>if q=e.1 then some (i,e.2.1) else zse q r (i+1)
def asF (es:List (Ent κ)) (q:κ):Option Value:=(zse q es 0).map (·.2)
def MapF (key:κ->Value) (w:World) (r:Nat) (f:κ->Option Value):Prop :=
 ∃ (es:List (Ent κ)) (clock:Nat),w.heap[r]?=some (.map (es.map (entry key)).toArray clock)/\(∀ q,asF es q=f q)/\(es.map (·.1)).Nodup/\(es.map (·.2.2)).Nodup/\(∀ e∈es,e.2.2<clock)
def MapS (key:κ->Value) (w:World) (r:Nat) (f:κ->Option Value) (q:κ) (born:Nat):Prop :=
 ∃ (es:List (Ent κ)) (clock:Nat),w.heap[r]?=some (.map (es.map (entry key)).toArray clock)/\(∀ q,asF es q=f q)/\(es.map (·.1)).Nodup/\(es.map (·.2.2)).Nodup/\(∀ e∈es,e.2.2<clock)/\∃ v,(q,v,born)∈es
theorem MapS.map {w:World} {r:Nat} {f:κ->Option Value} {q:κ} {born:Nat} (h:MapS key w r f q born):MapF key w r f:=by
 obtain⟨es,clock,h1,h2,h3,h4,h5,_⟩:=h;exact⟨es,clock,h1,h2,h3,h4,h5⟩
theorem MapF.below {w w2:World} {r:Nat} {f:κ->Option Value} (h:MapF key w r f) (hb:Bw w w2):MapF key w2 r f:=by
 obtain⟨es,clock,hh,rest⟩:=h;exact⟨es,clock,zaa hb hh,rest⟩
theorem MapF.same {w w2:World} {r:Nat} {f:κ->Option Value} (h:MapF key w r f) (hb:w2.heap[r]?=w.heap[r]?):MapF key w2 r f:=by
 obtain⟨es,clock,hh,rest⟩:=h;exact⟨es,clock,hb.trans hh,rest⟩
theorem zei {w:World} {r:Nat} {o o':Obj} (h:w.heap[r]?=some o):(w.putObj r o').heap[r]?=some o':=by
 have:r<w.heap.size:=hlt h;simp [World.putObj,this]
theorem zag {w:World} {r k:Nat} {o:Obj} (h:k≠r):(w.putObj r o).heap[k]?=w.heap[k]?:=by
 have:¬ r=k:=fun e=>h e.symm;simp [World.putObj,this]
theorem zbI {B:Nat} {a w:World} (h:Below B a w) {r:Nat} (hr:B<=r) (o:Obj):Below B a (w.putObj r o) :=
 h.trans ⟨rfl,rfl,rfl,by simp [World.putObj],fun k hk=>zag (by omega)⟩
end
end Go.Vc
