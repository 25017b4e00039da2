/- Contracts of functions, and plain facts, for the law that the last text of this claim proves. -/
import Derived.Test.YtakcdebpklffiaaGreatDoorQ1
import Derived.Laws.StructEq
import Derived.ChangeKeysEq
import Derived.LaidEql
import Derived.Laws.Rows
import Derived.RangeFuncIn
import Derived.RangeFuncNested
import Derived.Laws.MakeOwn
set_option linter.unusedSimpArgs false
set_option linter.unusedVariables false
namespace Go.Vc
open Go.RowKit
def zX (cs:List Value) (o n:Nat):List Value:=(cs.drop o).take n
theorem zeT(cs:List Value)(o n m:Nat):zX cs o (n+m)=zX cs o n++zX cs (o+n) m:=by
 unfold zX;rw[List.take_add,Ua]
theorem zc1{cs:List Value}{o n:Nat}(h:o+n<=cs.length):(zX cs o n).length=n:=by
 unfold zX;rw[Ql,Qk];omega
def vOf (g:Bool) (a:List Value):Value:=match g with | true => .agg a.toArray | false=>a.headD undef
structure TyEq (P:Program) (T:TypeId) (g:Bool) (n k:Nat) (G:List Value->Prop):Prop where
 ag:∀w,(isAgg T).run P w = .ok g w
 info:∃i,P.info? T=some i
 cl:P.cellsOf T=n
 one:g=false->n=1
 eq:∀d w a b,a.length=n->b.length=n->G a->G b->∃r:Bool,(Op.equalIn (d+k) T (vOf g a) (vOf g b)).run P w = .ok r w/\(r=true↔a=b)
section
variable{P:Program}
theorem TyEq.up{T:TypeId}{g:Bool}{n k:Nat}{G:List Value->Prop}(h:TyEq P T g n k G)(m:Nat):TyEq P T g n (m+k) G :=
 ⟨h.ag,h.info,h.cl,h.one,fun d w a b i e c f=>by have:=h.eq (d+m) w a b i e c f;rwa [Us] at this⟩
theorem TyEq.part{T:TypeId}{g:Bool}{n k:Nat}{G:List Value->Prop}(h:TyEq P T g n k G)(xs:Array Value)(o:Nat)(hs:o+n<=xs.size)(w:Wd):(Go.part T xs o).run P w = .ok (vOf g (zX xs.toList o n)) w:=by
 obtain⟨i,c⟩:=h.info;have a:=run_sizeOf w c;rw[h.cl] at a;simp only[Go.part,UJ,h.ag,KT]
 cases g with
 | true =>
  simp only[Gb,UJ,a,KT,UK,vOf];congr 2;apply KW.1;simp[zX,JO,List.extract_eq_take_drop]
 | false =>
  have d:=h.one rfl;subst d;have b:o<xs.size:=by omega
  simp only[Kn,UZ,Jk b,UK,vOf];congr 1;unfold zX;rw[Jm (by simpa using b)];simp
inductive Tile (P:Program) (k:Nat):List Field->Nat->Nat->(List Value->Prop)->Prop
 | nil {s:Nat}:Tile P k [] s s (fun _=>True)
 | cons {f : Field} {fs : List Field} {s e n : Nat} {g : Bool} {G G' : List Value → Prop} (hn : f.name ≠ "_") (ho : f.offset = s) (ht : TyEq P f.type g n k G) (hr : Tile P k fs (s + n) e G') : Tile P k (f :: fs) s e (fun cs => G (cs.take n) ∧ G' (cs.drop n))
theorem Tile.le{k:Nat}{fs:List Field}{s e:Nat}{G:List Value->Prop}(h:Tile P k fs s e G):s<=e:=by
 induction h with
 | nil=>exact UN _
 | cons _ _ _ _ ih=>omega
theorem Tile.eq{k:Nat}{fs:List Field}{s e:Nat}{G:List Value->Prop}(h:Tile P k fs s e G):∀(d:Nat) (xs ys:Array Value) (w:Wd),e<=xs.size->e<=ys.size->G (zX xs.toList s (e-s))->G (zX ys.toList s (e-s)) ->
  ∃r:Bool,(Op.eqFields (d+k) xs ys fs).run P w = .ok r w/\(r=true↔zX xs.toList s (e-s)=zX ys.toList s (e-s)):=by
 induction h with
 | nil=>intro d xs ys w _ _ _ _;exact⟨true,rfl,by simp [zX]⟩
 | @cons f fs s e n g G G' hn ho ht hr ih =>
  intro d xs ys w z u j b;have v:=hr.le;have p:e-s=n+(e-(s+n)):=by omega
  rw[p,zeT] at j b;rw[p,zeT,zeT];have q:(zX xs.toList s n).length=n:=zc1 (by simp;omega);have o:(zX ys.toList s n).length=n:=zc1 (by simp;omega);obtain⟨a,i⟩:=j;obtain⟨l,c⟩:=b;rw[Je (by omega),JB (by omega)] at a l;rw[Jc (by omega),Jw (by omega),QJ] at i c;obtain⟨r1,h1,x⟩:=ht.eq d w _ _ q o a l;obtain⟨t,y,h4⟩:=ih d xs ys w z u i c;simp only[Op.eqFields,hn,ne_eq,not_false_eq_true,Gb,UJ,ho,ht.part xs s (by omega) w,ht.part ys s (by omega) w,KT,h1];have m:(zX xs.toList s n++zX xs.toList (s+n) (e-(s+n))=zX ys.toList s n++zX ys.toList (s+n) (e-(s+n)))↔(zX xs.toList s n=zX ys.toList s n/\zX xs.toList (s+n) (e-(s+n))=zX ys.toList (s+n) (e-(s+n))) :=
   ⟨fun h=>List.append_inj h (by rw[q,o]),fun h=>by rw[h.1,h.2]⟩
  rw[m,<- x,<- h4]
  cases r1 with
  | true=>exact⟨t,by simpa using y,by simp⟩
  | false=>exact⟨false,by simp,by simp⟩
theorem TyEq.struct{T:TypeId}{k n:Nat}{G:List Value->Prop}(hu:P.underlying T=some (.struct (P.fieldsOf T)))(hp:P.stoodInHeld T=false)(hag:∀w,(isAgg T).run P w = .ok true w)(hi:∃i,P.info? T=some i)(hc:P.cellsOf T=n)
  (ht:Tile P k (P.fieldsOf T).toList 0 n G):TyEq P T true n (k+1) G :=
 ⟨hag,hi,hc,fun h=>(by cases h),fun d w a b g f j o=>by
  have e:∀l:List Value,l.length=n->zX l.toArray.toList 0 (n-0)=l:=fun l p=>by
   unfold zX;rw[Uc,UF];exact JB (by show l.length<=n;omega)
  obtain⟨r,m,c⟩:=ht.eq d a.toArray b.toArray w (by simp;omega) (by simp;omega) (by rw[e a g];exact j) (by rw[e b f];exact o);rw[e a g,e b f] at c;refine⟨r,?_,c⟩;have:=run_equalIn_struct (P:=P) w (d+k) T a.toArray b.toArray hu hp;rw[<- Us];exact this.trans m⟩
theorem zm6{n m:Nat}(hn:0<n){a b:List Value}(ha:a.length=m*n)(hb:b.length=m*n)(h:∀i,i<m->zX a (i*n) n=zX b (i*n) n):a=b:=by
 apply KI;intro j;by_cases e:j<m*n
 ·have d:j/n<m:=JU (by rw[UD];exact e);have c:=UY (fun l=>l[j%n]?) (h _ d);simp only[zX,Ks,Gd (UU j hn),Kr] at c;rw[UD,QO] at c;exact c
 ·rw[JE (by omega),JE (by omega)]
theorem TyEq.array{T e:TypeId}{g:Bool}{n k m:Nat}{G:List Value->Prop}(hn:0<n)(hu:P.underlying T=some (.array m e))(hag:∀w,(isAgg T).run P w = .ok true w)(hi:∃i,P.info? T=some i)(hc:P.cellsOf T=m*n)(ht:TyEq P e g n k G) :
  TyEq P T true (m*n) (k+1) (fun cs=>∀i,i<m->G (zX cs (i*n) n)) :=
 ⟨hag,hi,hc,fun h=>(by cases h),fun d w a b ha hb u gb=>by
  obtain⟨ie,q⟩:=ht.info;have o:∀c:List Nat,(∀i∈c,i<m)->∃r:Bool,(Op.eqItems (d+k) e n a.toArray b.toArray c).run P w = .ok r w/\(r=true↔∀i∈c,zX a (i*n) n=zX b (i*n) n):=by
   intro c
   induction c with
   | nil=>intro _;exact⟨true,rfl,by simp⟩
   | cons i c ih =>
    intro f;have hi:=f i Ku;have y:i*n+n<=m*n:=(by rw[<- UG];exact JW _ hi);obtain⟨v,h3,h4⟩:=ih fun j x=>f j (JR _ x);obtain⟨r1,p,l⟩:=ht.eq d w (zX a (i*n) n) (zX b (i*n) n) (zc1 (by omega)) (zc1 (by omega)) (u i hi) (gb i hi);have t:=ht.part a.toArray (i*n) (by simp;omega) w;have s:=ht.part b.toArray (i*n) (by simp;omega) w;have z:a.toArray.toList=a:=rfl;have eb:b.toArray.toList=b:=rfl;rw[z] at t;rw[eb] at s;simp only[Op.eqItems,UJ,t,s,KT,p]
    cases r1 with
    | true =>
     refine⟨v,by simpa using h3,?_⟩;rw[h4];have:=l.1 rfl;simp[this]
    | false =>
     refine⟨false,by simp,?_⟩;simp only[Kn,false_iff];intro h;have:=l.2 (h i Ku)
     cases this
  obtain⟨r,p,l⟩:=o (List.range m) fun i hi=>Ue.1 hi;refine⟨r,?_,?_⟩
  ·have:=run_equalIn_array (P:=P) w (d+k) a.toArray b.toArray hu q;rw[ht.cl] at this;rw[<- Us];exact this.trans p
  ·rw[l];exact⟨fun h=>zm6 hn ha hb fun i hi=>h i (Ue.2 hi),fun h i _=>by rw[h]⟩⟩
theorem TyEq.int{T:TypeId}{q:IntKind}(hu:P.underlying T=some (.int q))(hag:∀w,(isAgg T).run P w = .ok false w)(hi:∃i,P.info? T=some i)(hc:P.cellsOf T=1):TyEq P T false 1 1 (fun cs=>∃x,cs=[.int q x]) :=
 ⟨hag,hi,hc,fun _=>rfl,fun d w a b _ _ ⟨x,c⟩ ⟨y,e⟩=>by
  subst c e;refine⟨decide (x=y),?_,by simp⟩;simp only[vOf,List.headD_cons,Op.equalIn,UJ,Ui hu,KT,Gb,UK];congr 1⟩
theorem TyEq.bool{T:TypeId}(hu:P.underlying T=some .bool)(hag:∀w,(isAgg T).run P w = .ok false w)(hi:∃i,P.info? T=some i)(hc:P.cellsOf T=1):TyEq P T false 1 1 (fun cs=>∃x,cs=[.bool x]) :=
 ⟨hag,hi,hc,fun _=>rfl,fun d w a b _ _ ⟨x,c⟩ ⟨y,e⟩=>by
  subst c e;refine⟨x == y,?_,by simp⟩;simp only[vOf,List.headD_cons,Op.equalIn,UJ,Ui hu,KT,UK]⟩
end
end Go.Vc
namespace Go.Proofs.YtakcdebpklffiaaGreatDoor
open Go.Vc Go.RowKit Go.Sei
def zsJ (q:IntKind) (cs:List Value):Prop:=∃x,cs=[.int q x]
def ztn (cs:List Value):Prop:=∃x,cs=[.bool x]
theorem tU8:TyEq PG 5 false 1 1 (zsJ .u8) := .int Tryz.underlying5 (fun w=>Tryz.isAgg5 w) (qr (by kernel_rfl) (by kernel_rfl)).1 (by kernel_rfl)
theorem zsW:TyEq PG 4 false 1 1 ztn := .bool Tryz.underlying4 (fun w=>Tryz.isAgg4 w) (qr (by kernel_rfl) (by kernel_rfl)).1 (by kernel_rfl)
theorem uf{T:TypeId}{F:Array Field}(h:Tryz.prog.underlying T=some (.struct F)):Tryz.prog.underlying T=some (.struct (Tryz.prog.fieldsOf T))/\Tryz.prog.fieldsOf T=F:=by
 have:Tryz.prog.fieldsOf T=F:=by unfold Program.fieldsOf;rw[h]
 exact⟨by rw[this];exact h,this⟩
open Classical in
noncomputable def cdec (p:Prop):Bool:=decide p
theorem zqY{p:Prop}[h:Decidable p]:cdec p=decide p:=by unfold cdec;congr
theorem zbU{p q:Prop}[Decidable q](h:p↔q):cdec p=decide q:=by
 have:p=q:=propext h;subst this;exact zqY
section
variable{T:TypeId}{n k:Nat}{G:List Value->Prop}(h:TyEq PG T true n k G)(d:Nat)(hd:d+k=10000)(hg:Tryz.prog.eqGuardType Tryz.prog.depth T=false){a b:List Value}(ha:a.length=n)(hb:b.length=n)(ga:G a)(gb:G b)
include h hd hg ha hb ga gb
omit hg in
theorem equal_ty(w:Wd):(Op.equal T (.agg a.toArray) (.agg b.toArray)).run PG w = .ok (cdec (a=b)) w:=by
 obtain⟨r,f,c⟩:=h.eq d w a b ha hb ga gb;have e:r=cdec (a=b):=by
  unfold cdec
  cases r with
  | true=>simp [c.1 rfl]
  | false =>
   have:¬a=b:=fun e=>by have:=c.2 e;cases this
   simp[this]
 rw[hd] at f;rw[<- e];exact f
theorem zof(x y:Operand)(w:Wd):(do eqGuard .neq T x y (.agg a.toArray) (.agg b.toArray);binOp .neq T (.agg a.toArray) (.agg b.toArray)).run PG w = .ok (.bool (!cdec (a=b))) w:=by
 have e:=equal_ty h d hd ha hb ga gb w;have c:(eqGuard .neq T x y (.agg a.toArray) (.agg b.toArray)).run PG w = .ok () w:=by
  simp only[eqGuard,Ul,Kn,UZ,UJ,run_program,KT,hg,Bool.not_false,Gb,UK]
 rw[UJ,c];simp only[KT,binOp,UJ,e,UK]
theorem zih(x y:Operand)(w:Wd):(do eqGuard .eql T x y (.agg a.toArray) (.agg b.toArray);binOp .eql T (.agg a.toArray) (.agg b.toArray)).run PG w = .ok (.bool (cdec (a=b))) w:=by
 have e:=equal_ty h d hd ha hb ga gb w;have c:(eqGuard .eql T x y (.agg a.toArray) (.agg b.toArray)).run PG w = .ok () w:=by
  simp only[eqGuard,Ul,Kn,UZ,UJ,run_program,KT,hg,Bool.not_false,Gb,UK]
 rw[UJ,c];simp only[KT,binOp,UJ,e,UK]
end
theorem zs9(e:Bool)(n:Nat)(x:UInt8)(w:Wd):(Instr.checkKey e (n+1) 5 (u8 x)).run PG w = .ok () w:=by
 simp only[Instr.checkKey,UJ,Ui Tryz.underlying5,KT,u8,UK]
theorem ztK(d:Nat)(x y:UInt8)(w:Wd):(Op.equalIn (d+1) 5 (u8 x) (u8 y)).run PG w = .ok (decide (x=y)) w:=by
 simp only[Op.equalIn,UJ,Ui Tryz.underlying5,KT,u8,Gb,UK];have:decide ((x.toNat:Int)=(y.toNat:Int))=decide (x=y):=by
  rw[Qw];constructor
  ·intro h;exact QW.1 (by omega)
  ·rintro rfl;rfl
 rw[<- this];rfl
theorem zfH:MapK PG 5 u8 where
 check:=fun q e w=>zs9 e 9999 q w
 eq:=fun q a w=>ztK 9999 q a w
 same:=fun q=>by simp[Instr.sameBits,u8]
 desc:=⟨_,Tryz.underlying5,fun q a=>by
  right;simp only[Instr.sameNow,u8];have e:decide ((q.toNat:Int)=(a.toNat:Int))=decide (q=a):=by
   rw[Qw];constructor
   ·intro h;exact QW.1 (by omega)
   ·rintro rfl;rfl
  rw[<- e,Gd trivial];rfl⟩
theorem zlu{T:TypeId}(hag:∀w,(isAgg T).run PG w = .ok false w)(xs:Array Value)(o:Nat)(v:Value)(h:xs[o]?=some v)(w:Wd):(part T xs o).run PG w = .ok v w:=by
 simp only[part,UJ,hag,KT,Kn,UZ,h,UK]
theorem zs7(d:Nat)(x y:Int)(w:Wd):(Op.equalIn (d+1) 3 (.int .i64 x) (.int .i64 y)).run PG w = .ok (decide (x=y)) w:=by
 simp only[Op.equalIn,UJ,Ui Tryz.underlying3,KT,Gb,UK];rfl
theorem ztL(d:Nat){a b:Addr}{ca cb:Array Value}{ta tb:TypeId}{w:Wd}(ha:w.heap[a.block]?=some (.cells ca ta (0,0)))(hb:w.heap[b.block]?=some (.cells cb tb (0,0))) :
  (Op.equalIn (d+1) 267 (.pointer (some a)) (.pointer (some b))).run PG w = .ok (decide (a=b)) w:=by
 have c:∀w,(sizeOf 27).run PG w = .ok 5 w:=jZ (qr (by kernel_rfl) (by kernel_rfl)) (by kernel_rfl);simp only[Op.equalIn,UJ,Ui Tryz.underlying267,KT,c];rw[Gd (by decide:(5:Nat)≠0)];by_cases h:a=b
 ·subst h;rw[run_sameAddr_same];simp
 ·rw[run_sameAddr_other w h ha hb];simp[h]
theorem zn4{w:Wd}{q q':PlK}(hq:PlainAt w q)(hq':PlainAt w q'):(Op.equal 300 (plV q) (plV q')).run PG w = .ok (decide (q=q')) w:=by
 obtain⟨a,o,n,d⟩:=q;obtain⟨g,i,f,c⟩:=q';obtain⟨ca,ta,ha⟩:=hq;obtain⟨cb,tb,hb⟩:=hq';have u:=ztL 9998 (a:=⟨a,o,none⟩) (b:=⟨g,i,none⟩) ha hb;have s:(Op.equalIn 9999 3 (i64 (n:Nat)) (i64 (f:Nat))).run PG w = .ok (decide ((n:Int)=(f:Int))) w:=zs7 9998 (n:Int) (f:Int) w;have t:(Op.equalIn 9999 3 (i64 (d:Nat)) (i64 (c:Nat))).run PG w = .ok (decide ((d:Int)=(c:Int))) w:=zs7 9998 (d:Int) (c:Int) w;have p:=fun(xs:Array Value) (o:Nat) (v:Value) (h:xs[o]?=some v)=>zlu (fun w=>Tryz.isAgg267 w) xs o v h w;have k:=fun(xs:Array Value) (o:Nat) (v:Value) (h:xs[o]?=some v)=>zlu (fun w=>Tryz.isAgg3 w) xs o v h w;show(Op.equalIn (9998+1+1) _ _ _).run _ _=_;unfold plV;rw[run_equalIn_struct w 9999 _ _ _ (uf Tryz.underlying300).1 (by kernel_rfl),(uf Tryz.underlying300).2];obtain⟨X,l⟩:∃X:Array Value,X = #[.pointer (some ⟨a,o,none⟩),i64 (n:Nat),i64 (d:Nat)]:=⟨_,rfl⟩;obtain⟨Y,j⟩:∃Y:Array Value,Y = #[.pointer (some ⟨g,i,none⟩),i64 (f:Nat),i64 (c:Nat)]:=⟨_,rfl⟩;rw[<- l,<- j];simp only[Op.eqFields,ne_eq,String.reduceEq,not_false_eq_true,Gb,UJ,Sem.run_ite,p X 0 (.pointer (some ⟨a,o,none⟩)) (by rw[l];rfl),p Y 0 (.pointer (some ⟨g,i,none⟩)) (by rw[j];rfl),k X 1 (i64 (n:Nat)) (by rw[l];rfl),k Y 1 (i64 (f:Nat)) (by rw[j];rfl),k X 2 (i64 (d:Nat)) (by rw[l];rfl),k Y 2 (i64 (c:Nat)) (by rw[j];rfl),KT,u,s,t];clear u s t p k l j;by_cases m:(⟨a,o,none⟩:Addr)=⟨g,i,none⟩
 ·have y:a=g:=UY Addr.block m;have z:o=i:=UY Addr.off m;subst y z;by_cases x:n=f
  ·subst x;by_cases r:d=c
   ·subst r;simp
   ·have:¬(d:Int)=(c:Int):=(by omega);simp[r,this]
  ·have:¬(n:Int)=(f:Int):=by omega
   simp[x,this]
 ·have:¬((a,o,n,d):PlK)=(g,i,f,c):=fun e=>m (by cases e;rfl);simp[m,this]
theorem zta(e:Bool)(n:Nat)(v:Value)(w:Wd):(Instr.checkKey e (n+1) 267 v).run PG w = .ok () w:=by
 simp only[Instr.checkKey,UJ,Ui Tryz.underlying267,KT,UK]
theorem ztb(e:Bool)(n:Nat)(v:Value)(w:Wd):(Instr.checkKey e (n+1) 3 v).run PG w = .ok () w:=by
 simp only[Instr.checkKey,UJ,Ui Tryz.underlying3,KT,UK]
theorem zs2(w:Wd):MapKw PG 300 plV w (PlainAt w) where
 check:=fun q e=>by
  obtain⟨a,o,n,d⟩:=q;have g:=fun v=>zta e 9998 v w;have f:=fun v=>ztb e 9998 v w;have j:=fun(xs:Array Value) (o:Nat) (v:Value) (h:xs[o]?=some v)=>zlu (fun w=>Tryz.isAgg267 w) xs o v h w;have i:=fun(xs:Array Value) (o:Nat) (v:Value) (h:xs[o]?=some v)=>zlu (fun w=>Tryz.isAgg3 w) xs o v h w;obtain⟨m,c⟩:=nm (9998+1);rw[<- c] at g f;show(Instr.checkKey e (9998+1+1) _ _).run _ _=_;rw[<- c];unfold plV;obtain⟨X,b⟩:∃X:Array Value,X = #[.pointer (some ⟨a,o,none⟩),i64 (n:Nat),i64 (d:Nat)]:=⟨_,rfl⟩;rw[<- b];simp only[Instr.checkKey,UJ,Ui Tryz.underlying300,KT,<- Array.forIn_toList,List.forIn_cons,List.forIn_nil,ne_eq,String.reduceEq,not_false_eq_true,Gb,j X 0 (.pointer (some ⟨a,o,none⟩)) (by rw[b];rfl),i X 1 (i64 (n:Nat)) (by rw[b];rfl),i X 2 (i64 (d:Nat)) (by rw[b];rfl),g,f,UK]
 eq:=fun q l h k=>zn4 h k
 same:=fun q=>by simp[Instr.sameBits,plV,i64]
 desc:=⟨_,Tryz.underlying300,fun _ _=>rfl⟩
end Go.Proofs.YtakcdebpklffiaaGreatDoor
namespace Go.Sei
def els (s:Nat):List Nat:=(List.range 64).filter fun i=>s.testBit i
def ctz (s:Nat):Nat:=(els s).headD 64
def qA (s:Nat):Nat:=s&&&(s-1)
theorem zg5{s:Nat}(h:s≠0):∃k m,s=2^k*(2*m+1):=by
 induction s using Nat.strongRecOn with
 | _ s ih =>
  by_cases a:s%2=1
  ·exact⟨0,s/2,by rw[Nat.pow_zero,Nat.one_mul];omega⟩
  ·obtain⟨k,m,e⟩:=ih (s/2) (by omega) (by omega);refine⟨k+1,m,?_⟩;rw[Nat.pow_succ,UD (2^k) 2,Ut,<- e];omega
theorem zcN(k a j:Nat):(2^k*a).testBit j=(decide (k<=j)&&a.testBit (j-k)):=by
 rw[Nat.testBit_two_pow_mul]
theorem zei(m j:Nat):(2*m+1).testBit j=match j with | 0=>true | j+1=>m.testBit j:=by
 cases j with
 | zero=>rw [Nat.testBit_zero];simp
 | succ j=>rw [Nat.testBit_succ];congr 1;omega
theorem zjR(m j:Nat):(2*m).testBit j=match j with | 0=>false | j+1=>m.testBit j:=by
 cases j with
 | zero=>rw [Nat.testBit_zero];simp
 | succ j=>rw [Nat.testBit_succ];congr 1;omega
theorem zko(k m:Nat):qA (2^k*(2*m+1))=2^k*(2*m):=by
 unfold qA;apply JV;intro j;have b:=QS k;have e:2^k*(2*m+1)-1=2^k*(2*m)+(2^k-1):=by rw[Nat.mul_add,UO];omega
 rw[QR,e,Nat.testBit_two_pow_mul_add _ (by omega),zcN,zcN];by_cases a:j<k
 ·rw[Gd a];have:¬k<=j:=by omega
  simp[this]
 ·rw[Gc a,zei,zjR];have:k<=j:=by omega
  cases h:j-k with
  | zero=>simp
  | succ i=>simp [this]
theorem zf7{n k m:Nat}(hn:0<n)(h:2^k*(2*m+1)<2^n):(2^k*(2*m+1))&&&(2^n-2^k*(2*m+1))=2^k:=by
 have c:k<n:=by
  apply Qq;intro c;have f:2^n<=2^k:=JY (by decide) c;have o:2^k*1<=2^k*(2*m+1):=Nat.mul_le_mul_left _ (by omega);omega
 have f:=QS k;have a:2^n=2^k*2^(n-k):=by rw[<- Nat.pow_add];congr 1;omega
 have g:2^(n-k)=2*2^(n-1-k):=by rw[<- Nat.pow_succ'];congr 1;omega
 have l:2*m+1<2^(n-k):=by
  rw[a] at h;exact Nat.lt_of_mul_lt_mul_left h
 have b:m<2^(n-1-k):=by omega
 have e:2^n-2^k*(2*m+1)=2^k*(2*(2^(n-1-k)-(m+1))+1):=by
  rw[a,<- Nat.mul_sub];congr 1;omega
 rw[e];apply JV;intro j;rw[QR,zcN,zcN,zei,zei,Kj];by_cases d:k<=j
 ·cases h:j-k with
  | zero =>
   have:k=j:=by omega
   simp[this]
  | succ i =>
   have:k≠j:=by omega
   show((decide (k<=j)&&m.testBit i)&&(decide (k<=j)&&(2^(n-1-k)-(m+1)).testBit i))=decide (k=j);rw[Nat.testBit_two_pow_sub_succ b]
   cases m.testBit i <;> simp[this]
 ·have:k≠j:=by omega
  simp[d,this]
theorem zhj{k m:Nat}(h:2^k*(2*m+1)<2^64):(2^k*(2*m+1))&&&(2^64-2^k*(2*m+1))=2^k:=zf7 (by decide) h
theorem zju{p:Nat->Bool}{n k:Nat}(hk:k<n)(h1:∀i,i<k->p i=false)(h2:p k=true) :
  (List.range n).filter p=k::(List.range n).filter (fun i=>p i&&decide (i≠k)):=by
 have e:List.range n=List.range k++k::(List.range (n-k-1)).map (fun i=>k+1+i):=by
  apply List.ext_getElem
  ·simp;omega
  ·intro i h1 h2;rw[Kt];by_cases a:i<k
   ·rw[List.getElem_append_left (by simpa using a)];simp
   ·obtain⟨j,rfl⟩:∃j,i=k+j:=⟨i-k,by omega⟩;rw[List.getElem_append_right (by simp)];simp only[KN,Jt]
    cases j with
    | zero=>simp
    | succ j=>simp;omega
 rw[e,Kq,Kq,Qe,Qe];have c:(List.range k).filter p=[]:=by
  rw[Jy];intro i a;rw[h1 i (Ue.1 a)];decide
 have b:(List.range k).filter (fun i=>p i&&decide (i≠k))=[]:=by
  rw[Jy];intro i a;rw[h1 i (Ue.1 a)];simp
 rw[c,b,h2];simp only[QJ,Gb,ne_eq,KU,UL,QY,Kn,UZ];congr 1;apply KJ;intro x d;obtain⟨i,_,rfl⟩:=Uz.1 d;have:k+1+i≠k:=by omega
 simp[this]
theorem jg{s:Nat}(h0:s≠0)(h:s<2^64):els s=ctz s::els (qA s)/\qA s<s/\s&&&(2^64-s)=2^ctz s/\ctz s<64:=by
 obtain⟨k,m,e⟩:=zg5 h0;subst e;have n:=QS k;have a:k<64:=by
  apply Qq;intro a;have l:2^64<=2^k:=JY (by decide) a;have g:2^k*1<=2^k*(2*m+1):=Nat.mul_le_mul_left _ (by omega);omega
 have c:els (2^k*(2*m+1))=k::els (2^k*(2*m)):=by
  unfold els;rw[zju a]
  ·congr 1;apply KJ;intro i _;rw[zcN,zcN,zei,zjR]
   cases d:i-k with
   | zero =>
    by_cases b:k<=i
    ·have:i=k:=(by omega);simp[this]
    ·simp[b]
   | succ j =>
    have:i≠k:=(by omega);simp[this]
  ·intro i d;rw[zcN];have:¬k<=i:=by omega
   simp[this]
  ·rw[zcN,zei];simp
 have f:ctz (2^k*(2*m+1))=k:=by unfold ctz;rw[c];rfl
 rw[f,zko];refine⟨c,?_,zhj h,a⟩;rw[Nat.mul_add,UO];omega
theorem zgu{s:Nat}(h0:s≠0)(h:s<2^32):s&&&(2^32-s)=2^ctz s/\ctz s<32:=by
 obtain⟨i,_,f,j⟩:=jg h0 (nL h (by decide));have a:ctz s<32:=by
  have b:ctz s∈els s:=by rw[i];exact Ku
  unfold els at b;have c:=(QI.1 b).2;apply Qq;intro a;have:=JC (nL h (JY (by decide) a));rw[this] at c;cases c
 refine⟨?_,a⟩;obtain⟨k,m,e⟩:=zg5 h0;have g:s&&&(2^64-s)=2^k:=by rw[e] at h ⊢;exact zhj (nL h (by decide))
 have d:s&&&(2^32-s)=2^k:=by rw[e] at h ⊢;exact zf7 (by decide) h
 rw[d,<- g,f]
theorem zbg:els 0=[]:=by
 unfold els;rw[Jy];intro i _;simp
theorem zsf{s i:Nat}(h:i∈els s):i<64:=by
 unfold els at h;exact Ue.1 (QI.1 h).1
theorem zh5{s i:Nat}:i∈els s↔i<64/\s.testBit i=true:=by
 unfold els;rw[QI,Ue]
structure Ev where
 th:Int
 k:UInt8
 l:UInt8
 v:UInt8
 m:UInt8
 i:UInt8
 p:UInt8
 deriving DecidableEq
def upd {α:Type} (f:Nat->α) (i:Nat) (v:α):Nat->α:=fun j=>if j=i then v else f j
theorem qM{α:Type}(f:Nat->α)(i:Nat)(v:α):upd f i v i=v:=by unfold upd;rw[Gd rfl]
theorem zak{α:Type}(f:Nat->α){i j:Nat}(v:α)(h:j≠i):upd f i v j=f j:=by unfold upd;rw[Gc h]
structure RunD where
 pc:Nat
 regs:Nat->UInt8
 deps:Nat->Nat
 ctl:Nat
 many:Nat
 ev:Nat->Ev
 data:Nat->Nat
 ctrl:Nat->Nat
 att:Nat->Nat
def ev0:Ev:=⟨0,0,0,0,0,0,0⟩
def zmo:RunD:=⟨0,fun _=>0,fun _=>0,0,0,fun _=>ev0,fun _=>0,fun _=>0,fun _=>0⟩
def zaG (r:Bool) (n:UInt8) (R:RunD):UInt8×Nat:=if r then(R.regs n.toNat,R.deps n.toNat) else(n,0)
def znK (R:RunD) (d v:UInt8) (s:Nat):RunD:={ R with regs:=upd R.regs d.toNat v,deps:=upd R.deps d.toNat s }
def zbu (R:RunD) (k l v m:UInt8) (d:Nat):RunD :=
 { R with ev:=upd R.ev R.many ⟨0,k,l,v,m,UInt8.ofNat R.pc,UInt8.ofNat R.many⟩,data:=upd R.data R.many d,ctrl:=upd R.ctrl R.many R.ctl,many:=R.many+1 }
def zro (R:RunD) (x:InsD) (v:UInt8):RunD:=znK (zbu R 1 x.loc v x.mode 0) x.dst v (2^R.many)
def znF (R:RunD) (x:InsD):RunD:=zbu R 2 x.loc (zaG x.ar x.an R).1 x.mode (zaG x.ar x.an R).2
def ztc (fn a b:UInt8):UInt8:=if fn=1 then a+b else if fn=2 then a-b else a ^^^ b
def zs4 (R:RunD) (x:InsD):RunD:=znK R x.dst (ztc x.fn (zaG x.ar x.an R).1 (zaG x.br x.bn R).1) ((zaG x.ar x.an R).2|||(zaG x.br x.bn R).2)
def zoO (R:RunD) (x:InsD) (old v:UInt8) (d:Nat):RunD :=
 let S:=zbu (zbu R 1 x.loc old 3 0) 2 x.loc v 3 d
 znK { S with att:=upd S.att (R.many+1) (2^R.many) } x.dst old (2^R.many)
def zsX (R:RunD) (x:InsD) (v:UInt8):RunD:=zoO R x v (zaG x.ar x.an R).1 (zaG x.ar x.an R).2
def zr1 (R:RunD) (x:InsD) (v:UInt8):RunD :=
 let S:=zoO R x v (v+(zaG x.ar x.an R).1) (zaG x.ar x.an R).2
 { S with data:=upd S.data (R.many+1) (S.data (R.many+1)|||S.att (R.many+1)) }
def ztN (R:RunD) (x:InsD) (v:UInt8):RunD :=
 if v=(zaG x.ar x.an R).1 then
  let S:=zoO R x v (zaG x.br x.bn R).1 (zaG x.br x.bn R).2
  { S with ctrl:=upd S.ctrl (R.many+1) (S.ctrl (R.many+1)|||(S.att (R.many+1)|||(zaG x.ar x.an R).2)) }
 else znK (zbu R 1 x.loc v 3 0) x.dst v (2^R.many)
def zoJ (R:RunD) (x:InsD):RunD:=zbu R 3 0 0 x.mode 0
def zsQ (fn a b:UInt8):Bool:=if fn=4 then decide (a=b) else if fn=5 then !decide (a=b) else decide (a.toNat<b.toNat)
def zsY (R:RunD) (x:InsD):RunD :=
 let S:={ R with ctl:=R.ctl|||((zaG x.ar x.an R).2|||(zaG x.br x.bn R).2) }
 if zsQ x.fn (zaG x.ar x.an R).1 (zaG x.br x.bn R).1 then{ S with pc:=R.pc+x.skip.toNat } else S
def zmV (R:RunD) (x:InsD) (v:UInt8):RunD :=
 if x.op=1 then zro R x v else if x.op=2 then znF R x else if x.op=3 then zs4 R x else if x.op=4 then zsX R x v else
 if x.op=5 then zr1 R x v else if x.op=6 then ztN R x v else if x.op=7 then zoJ R x else zsY R x
def ql (R:RunD) (x:InsD) (v:UInt8):RunD:=let S:=zmV R x v;{ S with pc:=S.pc+1 }
def zdl (x:InsD):Bool:=decide (x.op=1)||(decide (x.op=4)||(decide (x.op=5)||decide (x.op=6)))
def goR (l:List InsD):Nat->RunD->RunD
 | 0,R=>R
 | n+1,R=>match l[R.pc]? with
  | none=>R
  | some x=>if zdl x then R else goR l n (ql R x 0)
def zZ (l:List InsD) (dom:List UInt8):Nat->RunD->List RunD
 | 0,R=>[goR l l.length R]
 | n+1,R=>match l[(goR l l.length R).pc]? with
  | none=>[goR l l.length R]
  | some x=>dom.flatMap fun v=>zZ l dom n (ql (goR l l.length R) x v)
def jT (l:List InsD) (dom:List UInt8):List RunD:=zZ l dom l.length zmo
def zfV (f:Nat->Nat) (n:Nat):List (Nat×Nat):=(List.range n).flatMap fun i=>(els (f i)).map fun a=>(a,i)
structure PathD where
 ev:List Ev
 data:List (Nat×Nat)
 ctrl:List (Nat×Nat)
 rmw:List (Nat×Nat)
 regs:Nat->UInt8
def zbP (R:RunD):PathD:=⟨(List.range R.many).map R.ev,zfV R.data R.many,zfV R.ctrl R.many,zfV R.att R.many,R.regs⟩
def qa:List UInt8:=(List.range 256).map UInt8.ofNat
def jH (rs:List RunD):List UInt8:=qa.filter fun v=>rs.any fun R=>(List.range R.many).any fun i=>decide ((R.ev i).k=2)&&decide ((R.ev i).v=v)
structure RelD where
 n:Int
 to:Nat->Nat
def zz:RelD:=⟨0,fun _=>0⟩
def zcl (n:Int):Nat:=if n<1 then 0 else if 64<=n then 18446744073709551615 else 2^n.toNat-1
def zaT (a b:Nat):Nat:=a&&&(18446744073709551615-b)
def za7 (r:RelD) (a:Nat):Bool:=decide (zaT (r.to a) (zcl r.n)=0)&&(decide ((a:Int)<r.n)||decide (r.to a=0))
def okR (r:RelD):Bool:=decide (0<=r.n)&&(decide (r.n<=48)&&(List.range 48).all (za7 r))
def jW (n:Nat) (f:Nat->Nat):RelD:=⟨n,fun i=>if i<n then f i else 0⟩
def zeI (to:Nat->Nat) (s:Nat):Nat:=(els s).foldl (fun t a=>t|||to a) 0
def j4 (to:Nat->Nat) (n:Nat):Nat->Nat:=(List.range n).foldl (fun f a=>(els (to a)).foldl (fun f b=>upd f b (f b|||2^a)) f) (fun _=>0)
def qI (r:RelD):RelD:=if okR r then⟨r.n,j4 r.to r.n.toNat⟩ else zz
def zjp (r:RelD):Nat:=if okR r then(List.range r.n.toNat).foldl (fun s a=>if r.to a=0 then s else s|||2^a) 0 else 0
def zbG (r:RelD):Bool:=okR r&&decide (zjp r=0)
def zc5 (a b:RelD) (f:Nat->Nat):RelD×Int:=if a.n=b.n&&(okR a&&okR b) then(jW a.n.toNat f,0) else(zz,2)
def zco (a b:RelD):RelD×Int:=zc5 a b fun i=>a.to i|||b.to i
def zaL (a b:RelD):RelD×Int:=zc5 a b fun i=>a.to i&&&b.to i
def q9 (a b:RelD):RelD×Int:=zc5 a b fun i=>zeI b.to (a.to i)
def zda (before:Nat->Nat) (left:Nat):Option Nat:=(els left).find? fun a=>decide (before a&&&left=0)
def znz (before:Nat->Nat):Nat->Nat->List Nat->Option (List Nat)
 | 0,left,l=>if left=0 then some l else none
 | n+1,left,l=>if left=0 then some l else match zda before left with
  | none=>none
  | some a=>znz before n (zaT left (2^a)) (l++[a])
def zep (r:RelD):Option (List Nat):=if okR r then znz (qI r).to 64 (zcl r.n) [] else none
def zaZ (r:RelD):Bool:=(zep r).isSome
def zgy (n:Nat) (a b:Nat):RelD:=jW n fun x=>if a.testBit x then b&&&zcl n else 0
def idR (n:Nat) (s:Nat):RelD:=jW n fun a=>s&&&2^a
end Go.Sei
namespace Go.Vc
open Go.RowKit
structure Step (n0:Nat) (Fp:Wd->Nat->Prop) (A B:Wd):Prop where
 os:B.os=A.os
 tape:B.tape=A.tape
 output:B.output=A.output
 size:A.heap.size<=B.heap.size
 same:∀k,k<A.heap.size->(k<n0\/Fp A k)->B.heap[k]?=A.heap[k]?
structure Keeps (Fp:Wd->Nat->Prop) (A B:Wd):Prop where
 os:B.os=A.os
 tape:B.tape=A.tape
 output:B.output=A.output
 size:A.heap.size<=B.heap.size
 same:∀k,k<A.heap.size->¬Fp A k->B.heap[k]?=A.heap[k]?
 fp:∀k,Fp B k->Fp A k\/A.heap.size<=k
structure IterJ {σ:Type} (n0:Nat) (Fp:Wd->Nat->Prop) (J:σ->Wd->Prop):Prop where
 step:∀s A B,J s A->Step n0 Fp A B->J s B/\∀k,Fp B k->Fp A k
 lt:∀s A k,J s A->Fp A k->k<A.heap.size
theorem Step.mono{n0 n1:Nat}{Fp:Wd->Nat->Prop}{A B:Wd}(h:Step n0 Fp A B)(hn:n1<=n0):Step n1 Fp A B :=
 ⟨h.os,h.tape,h.output,h.size,fun k a b=>h.same k a (b.imp (fun h=>nL h hn) id)⟩
theorem IterJ.mono{σ:Type}{n0 n1:Nat}{Fp:Wd->Nat->Prop}{J:σ->Wd->Prop}(h:IterJ n0 Fp J)(hn:n0<=n1):IterJ n1 Fp J :=
 ⟨fun s A B b a=>h.step s A B b (a.mono hn),h.lt⟩
theorem Step.of_below{n0:Nat}{Fp:Wd->Nat->Prop}{A B:Wd}(h:Bw A B):Step n0 Fp A B :=
 ⟨h.os,h.tape,h.output,h.size,fun k a _=>h.block k a⟩
theorem Step.alloc{n0:Nat}{Fp:Wd->Nat->Prop}(A:Wd)(o:Obj):Step n0 Fp A (A.alloc o) := .of_below ((UR _ A).alloc (UN _) o)
theorem Step.drew{n0:Nat}{Fp:Wd->Nat->Prop}(A:Wd):Step n0 Fp A A.drew := .of_below (UR _ A).drew
theorem Step.put{n0:Nat}{Fp:Wd->Nat->Prop}{A:Wd}{l:Nat}(h:n0<=l)(hf:¬Fp A l)(o:Obj):Step n0 Fp A (A.putObj l o) :=
 ⟨rfl,rfl,rfl,by simp[World.putObj],fun k _ a=>zj (fun e=>by subst e;rcases a with a | a;omega;exact hf a)⟩
theorem Step.row{n0:Nat}{Fp:Wd->Nat->Prop}{A:Wd}{l:Nat}(h:n0<=l)(hf:¬Fp A l)(cs:Array Value):Step n0 Fp A (A.setRow l cs) :=
 ⟨rfl,rfl,rfl,by simp,fun k _ a=>zq (fun e=>by subst e;rcases a with a | a;omega;exact hf a)⟩
theorem YieldR.mono{P:Program}{l:Nat}{args:Array Value}{w:Wd}{K K':Value->Wd->Prop}(h:YieldR P l args w K)(hk:∀v w,K v w->K' v w):YieldR P l args w K':=by
 obtain⟨i,c,a,b,f,g⟩:=h;exact⟨i,c,a,b,f,g.mono fun e j d=>by cases e <;> first | exact hk _ _ d | exact d⟩
def zfN:List Nat->List Value->VEnv->VEnv
 | p::ps,v::vs,E=>zfN ps vs ((p,v)::E)
 | _,_,E=>E
theorem zbm{S:Sig}:∀(ps:List Nat) (vs:List Value) (a:Act) (E:Env),Agrees S a E->(∀p∈ps,p<S.n) ->
  Agrees S { a with tmps:=(ps.zip vs).foldl (fun t (p,v)=>t.setIfInBounds p v) a.tmps } ⟨zfN ps vs E.vs,E.ds⟩
 | [],vs,a,E,h,_=>by simpa [zfN] using h
 | p::ps,[],a,E,h,_=>by simpa [zfN] using h
 | p::ps,v::vs,a,E,h,hp=>by
  have d:=h.put (dst:=some p) (by simpa [zlA] using hp p Ku) v;have c:=zbm ps vs (a.put (some p) v) (zfe (some p) v E) d (fun q b=>hp q (JR _ b));simpa [zfN,zfe,Act.put] using c
def sr (S:Sig) (l:Nat):Sig:={ S with r:=some l }
theorem zg4{S:Sig}(h:SigOk S)(l:Nat):SigOk (sr S l):=⟨h.ty,h.call,h.mixed⟩
def zte {α:Type} (Fp:Wd->Nat->Prop) (J:List α->Wd->Prop) (Jx:Exit->List α->Wd->Prop) (xs:List α) (A:Wd):Exit->Env->Wd->Prop
 | .normal,_,B=>J xs B/\Keeps Fp A B
 | .ret,_,B=>Jx .ret xs B/\Keeps Fp A B
 | .exit id,_,B=>Jx (.exit id) xs B/\Keeps Fp A B
 | _,_,_=>False
theorem Keeps.trans{Fp:Wd->Nat->Prop}{A B C:Wd}(h:Keeps Fp A B)(k:Keeps Fp B C):Keeps Fp A C :=
 ⟨k.os.trans h.os,k.tape.trans h.tape,k.output.trans h.output,UC h.size k.size,fun i b c=>(k.same i (nL b h.size) (fun d=>by rcases h.fp i d with a | a;exact c a;omega)).trans (h.same i b c),fun i b=>Or.elim (k.fp i b) (fun a=>h.fp i a) fun a => .inr (UC h.size a)⟩
theorem Keeps.refl(Fp:Wd->Nat->Prop)(A:Wd):Keeps Fp A A:=⟨rfl,rfl,rfl,UN _,fun _ _ _=>rfl,fun _ h => .inl h⟩
theorem Keeps.of_below{Fp:Wd->Nat->Prop}{A B:Wd}(h:Bw A B)(hf:∀k,Fp B k->Fp A k\/A.heap.size<=k):Keeps Fp A B :=
 ⟨h.os,h.tape,h.output,h.size,fun k a _=>h.block k a,hf⟩
theorem zr{P:Program}{X:Wd}{T:TypeId}{iT:TI}(hT:TIok P T iT){cs:Array Value}{t:TypeId}{v:Value}(hv:v.cells.size=iT.size)(hc:cs.size=iT.size)
  (h0:v.cells.toList.all Value.oneCell'=true) {K:Wd->Prop}
  (k:∀Y,Bw X Y->Y.heap[X.heap.size]?=some (.cells v.cells t (0,0))->Y.heap.size=X.heap.size+1->K Y) :
  SatR ((storeVar T ⟨X.heap.size,0,none⟩ v).run P (X.alloc (.cells cs t))) fun _ w'=>K w' :=
 zo hT (zw X _) hv hc h0 (k _ (zh ((zba X _)) (UN _) _) (zk (zw X _)) (by simp))
structure StepO (n0:Nat) (Ow:Nat->Prop) (Fp:Wd->Nat->Prop) (A B:Wd):Prop where
 os:B.os=A.os
 tape:B.tape=A.tape
 output:B.output=A.output
 size:A.heap.size<=B.heap.size
 same:∀k,k<A.heap.size->((k<n0/\¬Ow k)\/Fp A k)->B.heap[k]?=A.heap[k]?
theorem Step.o{n0:Nat}{Ow:Nat->Prop}{Fp:Wd->Nat->Prop}{A B:Wd}(h:Step n0 Fp A B):StepO n0 Ow Fp A B :=
 ⟨h.os,h.tape,h.output,h.size,fun k a b=>h.same k a (b.imp (fun h=>h.1) id)⟩
theorem StepO.mono{n0 n1:Nat}{Ow:Nat->Prop}{Fp:Wd->Nat->Prop}{A B:Wd}(h:StepO n0 Ow Fp A B)(hn:n1<=n0):StepO n1 Ow Fp A B :=
 ⟨h.os,h.tape,h.output,h.size,fun k a b=>h.same k a (b.imp (fun h=>⟨nL h.1 hn,h.2⟩) id)⟩
structure IterJO {σ:Type} (n0:Nat) (Ow:Nat->Prop) (Fp:Wd->Nat->Prop) (J:σ->Wd->Prop):Prop where
 step:∀s A B,J s A->StepO n0 Ow Fp A B->J s B/\∀k,Fp B k->Fp A k
 lt:∀s A k,J s A->Fp A k->k<A.heap.size/\¬Ow k
theorem IterJO.mono{σ:Type}{n0 n1:Nat}{Ow:Nat->Prop}{Fp:Wd->Nat->Prop}{J:σ->Wd->Prop}(h:IterJO n0 Ow Fp J)(hn:n0<=n1):IterJO n1 Ow Fp J :=
 ⟨fun s A B b a=>h.step s A B b (a.mono hn),h.lt⟩
def zrB {α:Type} (P:Program) (g:Nat) (lb:List Value) (xs:List α) (W0:Wd) (Rd Ow:Nat->Prop) (St:List α->List Value->Wd->Prop):Prop :=
 ∀(l:Nat) (Fp:Wd->Nat->Prop) (J Jx:List α->Wd->Prop) (W:Wd),W0.heap.size<=W.heap.size->(∀k,Rd k\/Ow k->W.heap[k]?=W0.heap[k]?)->(∀k,Rd k->¬Fp W k) ->
  IterJO W.heap.size Ow Fp J->IterJO W.heap.size Ow Fp Jx ->
  (∀pre x vs W1,J pre W1->St (pre++[x]) vs W1->(pre++[x]) <+: xs->YieldR P l vs.toArray W1 fun v W2 =>
   (v = .bool true/\J (pre++[x]) W2/\Keeps Fp W1 W2)\/(v = .bool false/\Jx (pre++[x]) W2)) ->
  J [] W ->
  Calls P g (.func (.yield l) #[] #[]::lb).toArray W fun e W'=>(∃v,e = .returned v)/\(J xs W'\/∃pre,pre <+: xs/\Jx pre W')
theorem zrM{α:Type}{S:Sig}(hS:SigOk S)(hr:S.r=none){f:Operand}{ps:Array Tmp}{assign body:Code}{E:Env}{w:Wd}{Q:Exit->Env->Wd->Prop}
  {gf:Nat} {lb:Array Value} (hg:opd E f=some (.func (.func gf) #[] lb)) (hok:jh S gf=true)
  {xs:List α} {W0:Wd} {Rd Ow:Nat->Prop} {St:List α->List Value->Wd->Prop} (hI:zrB S.P gf lb.toList xs W0 Rd Ow St) (hW0:W0.heap.size<=w.heap.size) (hRd:∀k,Rd k\/Ow k->k<W0.heap.size/\w.heap[k]?=W0.heap[k]?)
  (hps:∀pre vs W,St pre vs W->vs.length=ps.size) (hpn:∀p∈ps.toList,p<S.n)
  (Fp:Wd->Nat->Prop) (J:List α->Wd->Prop) (Jx:Exit->List α->Wd->Prop) (hRF:∀k,Rd k->¬Fp w k)
  (hJ:IterJO w.heap.size Ow Fp J) (hJx:∀ex,IterJO w.heap.size Ow Fp (Jx ex)) (h0:J [] w)
  (hround:∀(l:Nat) (pre:List α) (x:α) (vs:List Value) (W:Wd),w.heap.size<=l->(pre++[x]) <+: xs->J pre W->St (pre++[x]) vs W->¬Fp W l->l<W.heap.size ->
   wpE (sr S l) assign ⟨zfN ps.toList vs E.vs,[]⟩ W fun ex E1 W1=>ex = .normal/\Keeps Fp W W1/\J pre W1 /\
    ∀o W2,W2=W1.putObj l o->J pre W2->(∀k,Fp W2 k->Fp W1 k)->wpE (sr S l) body E1 W2 (zte Fp J Jx (pre++[x]) W2))
  (hdone:∀D W,w.heap.size<=D->¬Fp W D->J xs W->W.heap[D]?=some (.deferred (some []))->Q .normal ⟨E.vs,{ target := .collected D,args := #[] }::E.ds⟩ W)
  (hstop:∀D ex pre W,w.heap.size<=D->¬Fp W D->pre <+: xs->Jx ex pre W->W.heap[D]?=some (.deferred (some []))->Q ex ⟨E.vs,{ target := .collected D,args := #[] }::E.ds⟩ W) :
  ziw S f ps assign body E w Q:=by
 intro a ha;have ax:∀args w,(callFunc gf args).run S.P w = .ok (.enter gf args) w:=by
  simp only[jh,bAT,US,UT] at hok;exact fun args w=>hS.call gf hok.1.1 hok.1.2 hok.2 args w
 refine wpIn_rangeFunc ?_;intro fn bp;have bi:(FR S.r).round=none:=hr;rw[bi];obtain⟨b,i⟩:∃b:LoopState->Option Code->Loop,b=fun st pe=>{ state:=st,pending:=pe,fn,tmps:=a.tmps,params:=ps,assign,body,defers:=w.heap.size }:=⟨_,rfl⟩;obtain⟨W1,ak⟩:∃W1,(w.alloc (.deferred (some []))).alloc (.loop (b .ready none))=W1:=⟨_,rfl⟩;have bd:=zw w (.deferred (some []));have be:W1.heap[w.heap.size]?=some (.deferred (some [])):=by rw[<- ak];exact z6 _ bd
 have bn:W1.heap[w.heap.size+1]?=some (.loop (b .ready none)):=by
  rw[<- ak];have:=zw (w.alloc (.deferred (some []))) (.loop (b .ready none));rwa [wz] at this
 have bo:W1.heap.size=w.heap.size+2:=by rw[<- ak];simp
 have ar:Step w.heap.size Fp w W1:=by
  rw[<- ak];exact .of_below (((zba w _)).alloc (by simp) _)
 obtain⟨bj,a6⟩:=hJ.step _ _ _ h0 ar.o;have a8:∀k,w.heap.size<=k->¬Ow k:=fun k hk ho=>by have:=(hRd k (.inr ho)).1;omega
 have a9:∀k,Fp W1 k->k<w.heap.size:=fun k hk=>(hJ.lt _ _ k h0 (a6 k hk)).1;refine⟨w.heap.size+1,[{ target := .collected w.heap.size,args := #[] }],W1,{ target := .fn (.func gf) lb,args := #[.func (.yield (w.heap.size+1)) #[] #[]] },W1,gf,
  #[.func (.yield (w.heap.size+1)) #[] #[]]++lb,W1,?_,?_,fun _ _=>trivial,?_,fun h=>by simp[FR] at h,?_⟩
 ·rw[<- ak,i];exact Kk _ _ _ _ _
 ·have bg:=ha.eval hg;simp only[resolve,bg];simp[go_sem]
 ·simp[invoke,go_sem,ax]
 ·have av : #[Value.func (.yield (w.heap.size+1)) #[] #[]]++lb=(Value.func (.yield (w.heap.size+1)) #[] #[]::lb.toList).toArray:=by rw[<- KW];simp
  rw[av];have ao:∀{σ:Type} {K:σ->Wd->Prop} (lo:Loop),IterJO w.heap.size Ow Fp K->IterJO W1.heap.size Ow Fp (fun s W=>K s W/\W.heap[w.heap.size+1]?=some (.loop lo)/\W.heap[w.heap.size]?=some (.deferred (some []))/\¬Fp W (w.heap.size+1)/\¬Fp W w.heap.size):=by
   intro σ K lo hK;refine⟨fun s A B ⟨hk,hl,hd,z,ab⟩ hs=>?_,fun s A k ⟨hk,_⟩ hf=>hK.lt s A k hk hf⟩;obtain⟨h1,h2⟩:=hK.step s A B hk (hs.mono (by omega));exact⟨⟨h1,(hs.same _ (hlt hl) (.inl ⟨by omega,a8 _ (by omega)⟩)).trans hl,(hs.same _ (hlt hd) (.inl ⟨by omega,a8 _ (by omega)⟩)).trans hd,fun h=>z (h2 _ h),fun h=>ab (h2 _ h)⟩,h2⟩
  have am:=hI (w.heap.size+1) Fp (fun pre W=>J pre W/\W.heap[w.heap.size+1]?=some (.loop (b .ready none))/\W.heap[w.heap.size]?=some (.deferred (some []))/\¬Fp W (w.heap.size+1)/\¬Fp W w.heap.size)
   (fun pre W=>∃ex c,((ex = .ret/\c = .ret)\/∃id,ex = .exit id/\c = .exit id)/\Jx ex pre W/\W.heap[w.heap.size+1]?=some (.loop (b .done (some c)))/\W.heap[w.heap.size]?=some (.deferred (some []))/\¬Fp W (w.heap.size+1)/\¬Fp W w.heap.size)
   W1 (by omega) (fun k hk=>by
    obtain⟨h1,h2⟩:=hRd k hk;rw[<- h2];exact ar.same k (by omega) (.inl (by omega))) (fun k hk hf=>hRF k hk (a6 k hf)) (ao _ hJ)
   ⟨fun s A B ⟨ex,c,hc,ad⟩ hs=>by
    have:=(ao (b .done (some c)) (hJx ex)).step s A B ad hs;exact⟨⟨ex,c,hc,this.1⟩,this.2⟩,fun s A k ⟨ex,c,hc,ad⟩ hf=>(hJx ex).lt s A k ad.1 hf⟩ ?_ ⟨bj,bn,be,fun h=>by have:=a9 _ h;omega,fun h=>by have:=a9 _ h;omega⟩
  ·refine zcd (am.mono ?_);rintro e W2 ⟨⟨v,rfl⟩,(⟨hj,hl,hk,z,ab⟩ | ⟨pre,al,ex,c,hc,hj,hl,hk,z,ab⟩)⟩
   ·have ac:Step w.heap.size Fp W2 (W2.putObj (w.heap.size+1) (.loop (b .exhausted none))) := .put (by omega) z _;obtain⟨ae,g⟩:=hJ.step _ _ _ hj ac.o;refine⟨none,_,by have:=UQ (P:=S.P) hl (by rw[i];simp);rw[i] at this;exact this,?_⟩;rw[i] at ae g;exact⟨⟨E.vs,{ target := .collected w.heap.size,args := #[] }::E.ds⟩,⟨ha.size,by simp[ha.defers],ha.val⟩,hdone w.heap.size _ (UN _) (fun h=>ab (g _ h)) ae ((zj (by omega)).trans hk)⟩
   ·have ac:Step w.heap.size Fp W2 (W2.putObj (w.heap.size+1) (.loop (b .exhausted (some c)))) := .put (by omega) z _;obtain⟨ae,g⟩:=(hJx ex).step _ _ _ hj ac.o;refine⟨some c,_,by have:=UQ (P:=S.P) hl (by rw[i];simp);rw[i] at this;exact this,?_⟩;rw[i] at ae g;have hq:=hstop w.heap.size ex pre _ (UN _) (fun h=>ab (g _ h)) al ae ((zj (by omega)).trans hk);rcases hc with⟨rfl,rfl⟩ | ⟨id,rfl,rfl⟩
    ·exact wpIn_ret ⟨⟨E.vs,{ target := .collected w.heap.size,args := #[] }::E.ds⟩,⟨ha.size,by simp[ha.defers],ha.val⟩,hq⟩
    ·exact wpIn_exit ⟨⟨E.vs,{ target := .collected w.heap.size,args := #[] }::E.ds⟩,⟨ha.size,by simp[ha.defers],ha.val⟩,hq⟩
  ·
   rintro pre x vs W ⟨hj,hl,hk,z,ab⟩ aq al;have hy:=run_yield (P:=S.P) (args:=vs.toArray) hl (by rw[i];simpa using hps _ _ _ aq);rw[i] at hy;refine⟨fn,_,assign,body,hy,zbn (r:=none) (n:=NN) (roundIn_of_wpIn (F:=FR none) trivial ?_)⟩;have bh:Agrees (sr S (w.heap.size+1)) { tmps:=(ps.zip vs.toArray).foldl (fun t (p,v)=>t.setIfInBounds p v) a.tmps,defers:=[] } ⟨zfN ps.toList vs E.vs,[]⟩:=by
    have h1:Agrees (sr S (w.heap.size+1)) { a with defers:=[] } ⟨E.vs,[]⟩:=⟨ha.size,rfl,ha.val⟩;have h2:=zbm ps.toList vs _ _ h1 hpn;have e:(ps.zip vs.toArray).foldl (fun t (p,v)=>t.setIfInBounds p v) a.tmps=(ps.toList.zip vs).foldl (fun t (p,v)=>t.setIfInBounds p v) a.tmps:=by
     rw[<- Kl];simp
    rw[e];exact h2
   have hw:=qx (zg4 hS _) assign _ _ W _ bh (hround (w.heap.size+1) pre x vs W (by omega) al hj aq z (hlt hl));refine UW hw ?_;rintro ex a1 Wa ⟨E1,a7,rfl,q,bl,a2⟩;have ba:=(q.same _ (hlt hl) z).trans hl;have bm:=(q.same _ (hlt hk) ab).trans hk;have an:¬Fp Wa (w.heap.size+1):=fun h=>by rcases q.fp _ h with h | h;exact z h;have:=hlt hl;omega
   have bc:¬Fp Wa w.heap.size:=fun h=>by rcases q.fp _ h with h | h;exact ab h;have:=hlt hk;omega
   refine⟨_,run_beginRound ba (by rw[i]),?_⟩;have ac:Step w.heap.size Fp Wa (Wa.putObj (w.heap.size+1) (.loop { b .ready none with state := .busy })) := .put (by omega) an _;obtain⟨ae,g⟩:=hJ.step _ _ _ bl ac.o;have bk:=qx (zg4 hS _) body _ _ _ _ a7 (a2 _ _ rfl ae g);refine UW bk ?_;have a4:(Wa.putObj (w.heap.size+1) (.loop { b .ready none with state := .busy })).heap[w.heap.size+1]?=some (.loop { b .ready none with state := .busy }):=j3 ba;have ay:(Wa.putObj (w.heap.size+1) (.loop { b .ready none with state := .busy })).heap[w.heap.size]?=some (.deferred (some [])):=(zj (by omega)).trans bm;have ap:¬Fp (Wa.putObj (w.heap.size+1) (.loop { b .ready none with state := .busy })) (w.heap.size+1):=fun h=>an (g _ h);have au:¬Fp (Wa.putObj (w.heap.size+1) (.loop { b .ready none with state := .busy })) w.heap.size:=fun h=>bc (g _ h);have aw:∀(d:Option Code) (W3:Wd),Keeps Fp (Wa.putObj (w.heap.size+1) (.loop { b .ready none with state := .busy })) W3 ->
     (Instr.endRound (w.heap.size+1) d).run S.P W3 = .ok (.bool d.isNone) (W3.putObj (w.heap.size+1) (.loop (b (if d.isNone then .ready else .done) d))) /\
     (W3.putObj (w.heap.size+1) (.loop (b (if d.isNone then .ready else .done) d))).heap[w.heap.size+1]?=some (.loop (b (if d.isNone then .ready else .done) d)) /\
     (W3.putObj (w.heap.size+1) (.loop (b (if d.isNone then .ready else .done) d))).heap[w.heap.size]?=some (.deferred (some [])) /\
     Step w.heap.size Fp W3 (W3.putObj (w.heap.size+1) (.loop (b (if d.isNone then .ready else .done) d)))/\¬Fp W3 (w.heap.size+1)/\¬Fp W3 w.heap.size:=fun d W3 j=>by
    have bb:=(j.same _ (hlt a4) ap).trans a4;have bf:=(j.same _ (hlt ay) au).trans ay;have u:¬Fp W3 (w.heap.size+1):=fun h=>by rcases j.fp _ h with h | h;exact ap h;have:=hlt a4;omega
    have y:¬Fp W3 w.heap.size:=fun h=>by rcases j.fp _ h with h | h;exact au h;have:=hlt ay;omega
    have:=run_endRound (P:=S.P) d bb;rw[i] at this ⊢;exact⟨this,j3 bb,(zj (by omega)).trans bf,.put (by omega) u _,u,y⟩
   rintro e a3 W3 ⟨E3,_,hq⟩
   cases e with
   | normal =>
    obtain⟨ai,j⟩:=hq;obtain⟨ag,af,aj,aa,u,y⟩:=aw none W3 j;obtain⟨ah,m⟩:=hJ.step _ _ _ ai aa.o;refine⟨_,_,ag,.inl ⟨rfl,⟨ah,af,aj,fun h=>u (m _ h),fun h=>y (m _ h)⟩,aa.os.trans (j.os.trans q.os),aa.tape.trans (j.tape.trans q.tape),aa.output.trans (j.output.trans q.output),?_,fun k az a5=>?_,fun k az=>?_⟩⟩
    ·have h1:=q.size;have h2:=ac.size;have h3:=j.size;have h4:=aa.size;omega
    ·by_cases a0:k=w.heap.size+1
     ·subst a0;rw[af,hl];rfl
     ·have h1:¬Fp Wa k:=fun h=>by rcases q.fp _ h with h | h;exact a5 h;omega
      have h2:=q.size;have h3:=ac.size;rw[zj a0,j.same k (by omega) (fun h=>h1 (g _ h)),zj a0];exact q.same k az a5
    ·have h1:=m _ az;rcases j.fp _ h1 with h2 | h2
     ·exact q.fp _ (g _ h2)
     ·have h3:=q.size;have h4:=ac.size;exact .inr (by omega)
   | ret =>
    obtain⟨ai,j⟩:=hq;obtain⟨ag,af,aj,aa,u,y⟩:=aw (some .ret) W3 j;obtain⟨ah,m⟩:=(hJx .ret).step _ _ _ ai aa.o;exact⟨_,_,ag,.inr ⟨rfl,.ret,.ret,.inl ⟨rfl,rfl⟩,ah,af,aj,fun h=>u (m _ h),fun h=>y (m _ h)⟩⟩
   | exit id =>
    obtain⟨ai,j⟩:=hq;obtain⟨ag,af,aj,aa,u,y⟩:=aw (some (.exit id)) W3 j;obtain⟨ah,m⟩:=(hJx (.exit id)).step _ _ _ ai aa.o;exact⟨_,_,ag,.inr ⟨rfl,.exit id,.exit id,.inr ⟨id,rfl,rfl⟩,ah,af,aj,fun h=>u (m _ h),fun h=>y (m _ h)⟩⟩
   | goto t=>exact hq.elim
   | panic ch=>exact hq.elim
   | outgrown=>exact hq.elim
theorem zg8:∀(A B C:List Value),B.length=C.length->zfS (A++B) A.length C=A++C
 | A,B,[],h=>by
  have:B=[]:=Jd h;subst this;rfl
 | A,[],c::C,h=>by simp at h
 | A,b::B,c::C,h=>by
  have e:(A++b::B).set A.length c=(A++[c])++B:=by
   rw[JK _ _ (UN _),UE];simp
  rw[zfS,e];have:=zg8 (A++[c]) B C (by simpa using h);rw[lap] at this;exact this.trans (by simp)
theorem zar{n:Nat}{x:Operand}{z cs:List Value}(hc:cs.length=n)(hz:z.length=n):zdb (fun i=>some (i*n,n)) (zby z 1) (zgM [(0,x)] [.agg cs.toArray])=some cs:=by
 have a:zby z 1=z:=by simp[zby]
 have b:(Value.agg cs.toArray).cells.size=n:=by show cs.length=n;exact hc
 simp only[zgM,zdb,a,b,UI,UH,hz];simp only[Nat.beq_refl,Nat.ble_self_eq_true,Bool.and_self];have:(Value.agg cs.toArray).cells.toList=cs:=rfl;rw[this];have:=zg8 [] z cs (by rw[hz,hc]);simp at this;rw[this]
theorem qq{α:Type}(E:Enc α)(a:α){w:Wd}{t:TypeId}:zF (w.alloc (.cells (E.enc a).toArray t)) ⟨w.heap.size,0,none⟩ ([a].flatMap E.enc):=by
 rw[List.flatMap_singleton];exact zhA
theorem jp{P:Program}{w:Wd}{g:Nat}{Te:TypeId}{iT:TI}(hT:TIok P Te iT){cs:Array Value}{t:TypeId}(hg:w.heap[g]?=some (.cells cs t (0,0))){o:Nat}{v:Value}(hv:v.cells.size=iT.size)(ho:o+v.cells.size<=cs.size)
  (h1:v.cells.toList.all Value.oneCell'=true) {K:Wd->Prop}
  (k:∀w',w'.heap[g]?=some (.cells (cs.toList.take o++v.cells.toList++cs.toList.drop (o+v.cells.size)).toArray t (0,0))->w.grownBy w' (some g)->w'.heap.size=w.heap.size->K w') :
  SatR ((storeVar Te ⟨g,o,none⟩ v).run P w) fun _ w'=>K w':=by
 obtain⟨⟨e,a,c,_,_⟩,_⟩:=hT;have d:=KV P g o t v.cells.toList 0 cs w hg (by simpa using ho) (Qa.1 h1);have b:(sizeOf Te).run P w = .ok v.cells.size w:=by simp[sizeOf,typeInfo,a,c,hv]
 refine SatR.mk (v:=()) (w':=w.setRow g (cs.toList.take o++v.cells.toList++cs.toList.drop (o+v.cells.size)).toArray) ?_ (k _ (zk hg) (qp w g _) (by simp));simp only[storeVar,UJ,b,KT];simpa using d
def zeb (ind:Nat->Nat->Bool) (ops:Array Oper) (k:Nat) (listed:Array Bool):Bool :=
 (List.range ops.size).all fun i=>Nat.beq i k||listed.getD i false||ind k i||zdJ ops ops.size k i
def zoY (rec_:Array Bool->OT->Bool) (ind:Nat->Nat->Bool) (ops:Array Oper) (listed:Array Bool) (T:OT):Bool :=
 !(Region.ready .any ops listed).isEmpty&&(Region.ready .any ops listed).all fun i =>
   match OT.first ind i T with
   | some T'=>rec_ (listed.setIfInBounds i true) T'
   | none=>false
def zgz (ind:Nat->Nat->Bool) (ops:Array Oper):Nat->Array Bool->OT->Bool
 | 0,listed,T=>(Region.ready .any ops listed).isEmpty&&(match T with | .nil=>true | _=>false)
 | m+1,listed,.op k T'=>(match (Region.ready .any ops listed).contains k&&zeb ind ops k listed with
  | true=>zgz ind ops m (listed.setIfInBounds k true) T'
  | false=>zoY (zgz ind ops m) ind ops listed (.op k T'))
 | m+1,listed,.nil=>zoY (zgz ind ops m) ind ops listed .nil
 | m+1,listed,.alt x y=>zoY (zgz ind ops m) ind ops listed (.alt x y)
section
variable{ind:Nat->Nat->Bool}{ops:Array Oper}
def zdI (ops:Array Oper) (L:Array Bool):Prop:=∀j o,L.getD j false=true->ops[j]?=some o->∀e∈o.after,Region.binds .any e=true->L.getD e.on false=true
theorem zgm{L:Array Bool}{k j:Nat}{d:Bool}(h:j≠k):(L.setIfInBounds k true).getD j d=L.getD j d:=by
 have:¬k=j:=fun e=>h e.symm;simp[Jg,Jf,this]
theorem zc0{L:Array Bool}{k j:Nat}(h:L.getD j false=true):(L.setIfInBounds k true).getD j false=true:=by
 by_cases e:j=k
 ·subst e;have a:j<L.size:=by
   by_cases a:j<L.size
   ·exact a
   ·simp[a] at h
  simp[Jg,a]
 ·rw[zgm e];exact h
theorem zax{L:Array Bool}{k i:Nat}(h:i∈Region.ready .any ops L)(hne:i≠k):i∈Region.ready .any ops (L.setIfInBounds k true):=by
 obtain⟨c,o,f,b⟩:=mem_ready.1 h;exact mem_ready.2 ⟨by rw[zgm hne];exact c,o,f,fun e a d=>zc0 (b e a d)⟩
theorem zcv{L:Array Bool}{i:Nat}(h:i∈Region.ready .any ops L):L.getD i false=false/\i<L.size:=by
 obtain⟨a,_⟩:=mem_ready.1 h;by_cases b:i<L.size
 ·simp[Jg,b] at a ⊢;exact a
 ·simp[b] at a
theorem zcb{L:Array Bool}(hc:zdI ops L){k:Nat}(hk:k∈Region.ready .any ops L):zdI ops (L.setIfInBounds k true):=by
 obtain⟨l,o,h,g⟩:=mem_ready.1 hk;intro j i d a e c f;by_cases b:j=k
 ·subst b;rw[h] at a;cases a;exact zc0 (g e c f)
 ·rw[zgm b] at d;exact zc0 (hc j i d a e c f)
theorem ziK{L:Array Bool}{i k:Nat}:(L.setIfInBounds i true).setIfInBounds k true=(L.setIfInBounds k true).setIfInBounds i true:=by
 apply Array.ext_getElem?;intro j;simp only[Jf,Array.size_setIfInBounds]
 split <;> split <;> simp_all
theorem zgn{k i:Nat}{L:Array Bool}(h:zeb ind ops k L=true):zeb ind ops k (L.setIfInBounds i true)=true:=by
 simp only[zeb,Qa,Qx,Ue] at h ⊢;intro j a;rcases h j a with((h | h) | h) | h
 ·exact .inl (.inl (.inl h))
 ·exact .inl (.inl (.inr (zc0 h)))
 ·exact .inl (.inr h)
 ·exact .inr h
theorem zjq{k i:Nat}{L:Array Bool}(hc:zdI ops L)(hf:zeb ind ops k L=true)(hk:k∈Region.ready .any ops L)(hi:i∈Region.ready .any ops L)(hne:i≠k):ind k i=true:=by
 obtain⟨c,o,a,b⟩:=mem_ready.1 hi;simp only[zeb,Qa,Qx,Ue] at hf;rcases hf i (Ji.1 a).1 with((h | h) | h) | h
 ·exact Ge (JM h) hne
 ·rw[(zcv hi).1] at h;cases h
 ·exact h
 ·have:=zb0 hc _ k i o a b h;rw[(zcv hk).1] at this;cases this
theorem za1{rec_:Array Bool->OT->Bool}{L:Array Bool}{T:OT}(h:zoY rec_ ind ops L T=true):(Region.ready .any ops L).isEmpty=false/\∀i∈Region.ready .any ops L,∃T',OT.first ind i T=some T'/\rec_ (L.setIfInBounds i true) T'=true:=by
 simp only[zoY,bAT,KC,Qa] at h;refine⟨h.1,fun i a=>?_⟩;have:=h.2 i a
 split at this
 ·rename_i T' b;exact⟨T',b,this⟩
 ·cases this
theorem zm1:∀(m:Nat) (L:Array Bool) (T:OT),zdI ops L->zgz ind ops (m+1) L T=true ->
  (Region.ready .any ops L).isEmpty=false/\∀i∈Region.ready .any ops L,∃T',OT.first ind i T=some T'/\zgz ind ops m (L.setIfInBounds i true) T'=true:=by
 intro m
 induction m with
 | zero =>
  intro L T f h
  cases T with
  | nil=>exact za1 h
  | alt x y=>exact za1 h
  | op k T' =>
   simp only[zgz] at h
   split at h
   ·rename_i a;simp only[bAT,JP,dE] at a;refine⟨Jp.2 (Kw a.1),fun i b=>?_⟩;by_cases e:i=k
    ·subst e;exact⟨T',by simp[OT.first],h⟩
    ·have:=zax b e;simp only[bAT,Qi] at h;rw[h.1] at this;cases this
   ·exact za1 h
 | succ m ih =>
  intro L T f h
  cases T with
  | nil=>exact za1 h
  | alt x y=>exact za1 h
  | op k T' =>
   unfold zgz at h
   split at h
   ·rename_i a;simp only[bAT,JP,dE] at a;refine⟨Jp.2 (Kw a.1),fun i b=>?_⟩;by_cases e:i=k
    ·subst e;exact⟨T',by simp[OT.first],h⟩
    ·obtain⟨T'',j,g⟩:=(ih _ T' (zcb f a.1) h).2 i (zax b e);refine⟨.op k T'',?_,?_⟩
     ·have:¬k=i:=fun d=>e d.symm;rw[OT.first,Gc this,Gd (zjq f a.2 a.1 b e),j];rfl
     ·have c:k∈Region.ready .any ops (L.setIfInBounds i true):=zax a.1 (fun d=>e d.symm);have l:((Region.ready .any ops (L.setIfInBounds i true)).contains k&&zeb ind ops k (L.setIfInBounds i true))=true:=by
       simp only[bAT,JP,dE];exact⟨c,zgn a.2⟩
      unfold zgz;rw[l];rw[ziK];exact g
   ·exact za1 h
theorem zhx:∀(m:Nat) (L:Array Bool) (T:OT),zdI ops L->zgz ind ops m L T=true->zkR ind ops m L T=true
 | 0,L,T,_,h=>h
 | m+1,L,T,hc,h=>by
  obtain⟨e,c⟩:=zm1 m L T hc h;simp only[zkR,bAT,KC,Qa];refine⟨e,fun i a=>?_⟩;obtain⟨T',b,d⟩:=c i a;rw[b];exact zhx m _ T' (zcb hc a) d
theorem DrawE.treeQ{S:Sig}{ops:Array Oper}{E:Env}{w:Wd}{K:Env->Wd->Prop}{QP:List PanicEntry->Wd->Prop}(X:List Nat)(T:OT)
  (h:(zgz (zb8 S.τ X ops) ops ops.size (Array.replicate ops.size false) T&&ops.all (fun o=>jf o.op))=true) (k:zfZ S ops.toList X QP T E w.drew K):DrawE S ops E w K QP :=
 .inr (.inl ⟨X,T,by
  simp only[bAT] at h ⊢;refine⟨zhx _ _ _ (fun j o b=>?_) h.1,h.2⟩;by_cases a:j<ops.size <;> simp[a] at b,k⟩)
end
theorem zhm{z:Value}(h:0<z.cells.size)(n:Nat):(madeCells z.cells (n*z.cells.size)).toList=zby z.cells.toList n:=by
 have:=zld z.cells.toList (by simpa using h) n;unfold madeCells;simpa using UY Array.toList this
theorem zhl{P:Program}{w:Wd}{t T:TypeId}{iT:TI}{z:List Value}{kl kc:IntKind}(hu:P.underlying t=some (.slice T))(hT:TIok P T iT)(hz:iT.zero=some z)(hzl:z.length=iT.size)(hp:0<iT.size)(n:Nat)(h1:iT.bytes*n<=281474976710656)(h63:n<=9223372036854775807){K:Value->Wd->Prop}
  (k:∀w',w'.heap[w.heap.size]?=some (.cells (zby z n).toArray T (0,0))->Bw w w'->w'.heap.size=w.heap.size+1->K (.slice (some ⟨w.heap.size,0,none⟩) n n) w') :
  SatR ((Instr.makeSlice t (.int kl (n:Int)) (.int kc (n:Int))).run P w) K:=by
 obtain⟨⟨a,p,f,j,e⟩,_⟩:=hT;obtain⟨d,i,c⟩:=e z hz;have b:(n:Int)<=9223372036854775807:=by omega
 have g:(a.bytes:Int)*(n:Int)<=281474976710656:=by
  have h:((a.bytes*n:Nat):Int)<=281474976710656:=by rw[j];omega
  rwa [Qy] at h
 have m:=run_make (P:=P) w t T a d hu p i kl kc n n (by omega) (Int.le_refl _) g b;simp only[KE] at m;have l:d.cells.size=a.size:=by rw[f,<- hzl,<- c];simp
 have o:madeCells d.cells (n*a.size)=(zby z n).toArray:=by
  have:=zhm (z:=d) (by omega) n;rw[c,l] at this;rw[<- this]
 rw[o] at m;exact SatR.mk m (k _ (zw w _) ((zba _ _)) (by simp))
theorem zn{P:Program}{w:Wd}{g:Nat}{Te:TypeId}{iT:TI}(hT:TIok P Te iT){cs:List Value}{t:TypeId}(hg:w.heap[g]?=some (.cells cs.toArray t (0,0))){o:Nat}{v:Value}(hv:v.cells = #[v])(hi:iT.size=1)(ho:o<cs.length)(h1:v.oneCell'=true){K:Wd->Prop}
  (k:∀w',w'.heap[g]?=some (.cells (cs.set o v).toArray t (0,0))->w.grownBy w' (some g)->w'.heap.size=w.heap.size->K w') :
  SatR ((storeVar Te ⟨g,o,none⟩ v).run P w) fun _ w'=>K w':=by
 refine jp hT hg (o:=o) (v:=v) (by rw[hv,hi];rfl) (by rw[hv];show o+1<=cs.length;omega) (by rw[hv];simpa using h1) fun w' f b a=>k w' ?_ b a;rw[f,hv];congr 2;show(cs.take o++[v]++cs.drop (o+1)).toArray=_;rw[Ja,Gd ho];simp
theorem zm{n:Nat}{A B:Wd}{g:Nat}(h:A.grownBy B (some g))(hn:n<=A.heap.size)(hg:n<=g):Below n A B :=
 ⟨h.os,h.tape,h.output,h.size,fun j a=>h.block j (nL a hn) (by simp;omega)⟩
theorem OwnS.lower{α:Type}{E:Enc α}{T B B' cap:Nat}{w:Wd}{p:OA}{l:List α}(h:OwnS E T B w p cap l)(hB:B'<=B):OwnS E T B' w p cap l:=by
 obtain⟨d,a⟩:=h;refine⟨d,?_⟩;rcases a with a | ⟨g,b,c,a,e,qA⟩
 ·exact .inl a
 ·exact .inr ⟨g,b,c,a,UC hB e,qA⟩
theorem zm5{P:Program}{w:Wd}{t T ty:TypeId}{iT:TI}{z:Value}(hu:P.underlying t=some (.slice T))(hT:TIok P T iT)(hz:iT.zero=some [z])(h1:z.oneCell'=true){b o n c:Nat}(hn:0<n){cs:Array Value}{u:TypeId}(hg:w.heap[b]?=some (.cells cs u (0,0)))(ho:o+n<=cs.size){K:Value->Wd->Prop}
  (k:∀w',w'.heap[b]?=some (.cells (cs.toList.take o++List.replicate n z++cs.toList.drop (o+n)).toArray u (0,0))->w.grownBy w' (some b)->w'.heap.size=w.heap.size->K (.tuple #[]) w') :
  SatR ((Builtin.clear_ #[t] ty #[.slice (some ⟨b,o,none⟩) n c]).run P w) K:=by
 obtain⟨⟨r,s,_,_,h⟩,_⟩:=hT;obtain⟨g,l,p⟩:=h _ hz;have q:∀w,(zeroValue T).run P w = .ok g w:=fun w=>by simp[zeroValue,typeInfo,s,l]
 have d:g.cells = #[z]:=by rw[<- p]
 have e:(Builtin.zeroCells g.cells n).toList=List.replicate n z:=by
  rw[d];simp[Builtin.zeroCells];apply List.ext_getElem
  ·simp
  ·intro i h1 x;simp[Nat.mod_one]
 have f:=KV P b o u (List.replicate n z) 0 cs w hg (by simpa using ho) (fun v j=>by rw[Jq j];exact h1);refine SatR.mk (v := .tuple #[]) (w':=w.setRow b (cs.toList.take o++List.replicate n z++cs.toList.drop (o+n)).toArray) ?_ (k _ (zk hg) (qp w b _) (by simp));obtain⟨m,rfl⟩:∃m,n=m+1:=⟨n-1,by omega⟩;have a:Builtin.zeroCells g.cells (m+1)=(List.replicate (m+1) z).toArray:=by rw[<- e]
 simp only[UB,JI] at f;simp[Builtin.clear_,Ui hu,q,a,f]
theorem zcC{α:Type}{E:Enc α}{P:Program}{w:Wd}{t T:TypeId}{iT:TI}{z:List Value}{kl kc:IntKind}(hu:P.underlying t=some (.slice T))(hT:TIok P T iT)(hz:iT.zero=some z)(hzl:z.length=iT.size)(hs:iT.size=E.sz)(n:Nat)(h1:iT.bytes*n<=281474976710656)(h63:n<=maxLen){K:Value->Wd->Prop}
  (k:∀w',OwnS E T w.heap.size w' (some ⟨w.heap.size,0,none⟩) n []->Bw w w'->w'.heap.size=w.heap.size+1->K (.slice (some ⟨w.heap.size,0,none⟩) 0 n) w') :
  SatR ((Instr.makeSlice t (.int kl 0) (.int kc (n:Int))).run P w) K:=by
 obtain⟨⟨a,p,b,j,f⟩,_⟩:=hT;obtain⟨d,i,l⟩:=f z hz;have e:(n:Int)<=9223372036854775807:=by unfold maxLen at h63;omega
 have g:(a.bytes:Int)*(n:Int)<=281474976710656:=by
  have h:((a.bytes*n:Nat):Int)<=281474976710656:=by rw[j];omega
  rwa [Qy] at h
 have m:=run_make (P:=P) w t T a d hu p i kl kc 0 n (by omega) (by omega) g e;simp only[KE,Int.toNat_zero] at m;have c:d.cells.size=a.size:=by rw[b,<- hzl,<- l];simp
 have q:0<d.cells.size:=by rw[c,b,hs];exact E.pos
 have o:(madeCells d.cells (n*a.size)).size=n*E.sz:=by
  have:=UY List.length (zhm (z:=d) q n);rw[zfw,c] at this;rw[<- hs,<- b];simpa [c] using this
 exact SatR.mk m (k _ (World.ownsRow_made w _ n (UN _) h63 o) ((zba _ _)) (by simp))
structure StepG (n0:Nat) (Ow F:Nat->Prop) (A B:Wd):Prop where
 os:B.os=A.os
 tape:B.tape=A.tape
 output:B.output=A.output
 size:A.heap.size<=B.heap.size
 same:∀k,k<A.heap.size->((k<n0/\¬Ow k)\/F k)->B.heap[k]?=A.heap[k]?
theorem StepG.mono{n0 n1:Nat}{Ow F:Nat->Prop}{A B:Wd}(h:StepG n0 Ow F A B)(hn:n1<=n0):StepG n1 Ow F A B :=
 ⟨h.os,h.tape,h.output,h.size,fun k a b=>h.same k a (b.imp (fun h=>⟨nL h.1 hn,h.2⟩) id)⟩
theorem StepG.below{n0:Nat}{Ow F:Nat->Prop}{A B:Wd}(h:Bw A B):StepG n0 Ow F A B :=
 ⟨h.os,h.tape,h.output,h.size,fun k a _=>h.block k a⟩
theorem StepG.trans{n0:Nat}{Ow F:Nat->Prop}{A B C:Wd}(h:StepG n0 Ow F A B)(k:StepG n0 Ow F B C):StepG n0 Ow F A C :=
 ⟨k.os.trans h.os,k.tape.trans h.tape,k.output.trans h.output,UC h.size k.size,fun i a b=>(k.same i (nL a h.size) b).trans (h.same i a b)⟩
theorem StepG.put{n0:Nat}{Ow F:Nat->Prop}{A:Wd}{l:Nat}(h:n0<=l)(hf:¬F l)(o:Obj):StepG n0 Ow F A (A.putObj l o) :=
 ⟨rfl,rfl,rfl,by simp[World.putObj],fun k _ a=>zj (fun e=>by subst e;rcases a with a | a;omega;exact hf a)⟩
theorem StepG.grown{n0:Nat}{Ow F:Nat->Prop}{A B:Wd}{l:Nat}(h:A.grownBy B (some l))(hl:n0<=l\/Ow l)(hf:¬F l):StepG n0 Ow F A B :=
 ⟨h.os,h.tape,h.output,h.size,fun k c b=>h.block k c (fun e=>by
  have e:k=l:=by simpa using e
  subst e;rcases b with a | a
  ·rcases hl with hl | hl
   ·omega
   ·exact a.2 hl
  ·exact hf a)⟩
structure JG {σ:Type} (n0:Nat) (Ow:Nat->Prop) (J:σ->(Nat->Prop)->Wd->Prop):Prop where
 step:∀s F A B,J s F A->StepG n0 Ow F A B->J s F B
 lt:∀s F A k,J s F A->F k->k<A.heap.size/\¬Ow k
theorem JG.mono{σ:Type}{n0 n1:Nat}{Ow:Nat->Prop}{J:σ->(Nat->Prop)->Wd->Prop}(h:JG n0 Ow J)(hn:n0<=n1):JG n1 Ow J :=
 ⟨fun s F A B b a=>h.step s F A B b (a.mono hn),h.lt⟩
structure KeepsG (F F':Nat->Prop) (A B:Wd):Prop where
 os:B.os=A.os
 tape:B.tape=A.tape
 output:B.output=A.output
 size:A.heap.size<=B.heap.size
 same:∀k,k<A.heap.size->¬F k->B.heap[k]?=A.heap[k]?
 fp:∀k,F' k->F k\/A.heap.size<=k
theorem KeepsG.refl(F:Nat->Prop)(A:Wd):KeepsG F F A A:=⟨rfl,rfl,rfl,UN _,fun _ _ _=>rfl,fun _ h => .inl h⟩
theorem KeepsG.trans{F F' F'':Nat->Prop}{A B C:Wd}(h:KeepsG F F' A B)(k:KeepsG F' F'' B C):KeepsG F F'' A C :=
 ⟨k.os.trans h.os,k.tape.trans h.tape,k.output.trans h.output,UC h.size k.size,fun i b c=>(k.same i (nL b h.size) (fun d=>by rcases h.fp i d with a | a;exact c a;omega)).trans (h.same i b c),fun i b=>Or.elim (k.fp i b) (fun a=>h.fp i a) fun a => .inr (UC h.size a)⟩
theorem KeepsG.weak{F F' G:Nat->Prop}{A B:Wd}(h:KeepsG F F' A B)(hF:∀k,F k->G k):KeepsG G F' A B :=
 ⟨h.os,h.tape,h.output,h.size,fun k a b=>h.same k a fun c=>b (hF k c),fun k a=>(h.fp k a).imp (hF k) id⟩
theorem KeepsG.below{F F':Nat->Prop}{A B:Wd}(h:Bw A B)(hf:∀k,F' k->F k\/A.heap.size<=k):KeepsG F F' A B :=
 ⟨h.os,h.tape,h.output,h.size,fun k a _=>h.block k a,hf⟩
theorem KeepsG.grown{F:Nat->Prop}{A B:Wd}{g:Nat}(h:A.grownBy B (some g))(hg:F g):KeepsG F F A B :=
 ⟨h.os,h.tape,h.output,h.size,fun k a b=>h.block k a (fun e=>b (by cases e;exact hg)),fun k h => .inl h⟩
def zhE {α:Type} (P:Program) (g:Nat) (lb:List Value) (xs:List α) (W0:Wd) (Rd Ow:Nat->Prop) (St:List α->List Value->Wd->Prop):Prop :=
 ∀(l:Nat) (F0:Nat->Prop) (J Jx:List α->(Nat->Prop)->Wd->Prop) (W:Wd),W0.heap.size<=W.heap.size->(∀k,Rd k\/Ow k->W.heap[k]?=W0.heap[k]?)->(∀k,Rd k->¬F0 k) ->
  JG W.heap.size Ow J->JG W.heap.size Ow Jx ->
  (∀pre x vs F W1,J pre F W1->St (pre++[x]) vs W1->(pre++[x]) <+: xs->YieldR P l vs.toArray W1 fun v W2 =>
   (v = .bool true/\∃F',J (pre++[x]) F' W2/\KeepsG F F' W1 W2)\/(v = .bool false/\∃F',Jx (pre++[x]) F' W2)) ->
  J [] F0 W ->
  Calls P g (.func (.yield l) #[] #[]::lb).toArray W fun e W'=>(∃v,e = .returned v)/\((∃F',J xs F' W')\/∃pre F',pre <+: xs/\Jx pre F' W')
def zrx {α:Type} (F:Nat->Prop) (J:List α->(Nat->Prop)->Wd->Prop) (Jx:Exit->List α->(Nat->Prop)->Wd->Prop) (xs:List α) (A:Wd):Exit->Env->Wd->Prop
 | .normal,_,B=>∃F',J xs F' B/\KeepsG F F' A B
 | .ret,_,B=>∃F',Jx .ret xs F' B/\KeepsG F F' A B
 | .exit id,_,B=>∃F',Jx (.exit id) xs F' B/\KeepsG F F' A B
 | _,_,_=>False
theorem zcw{α:Type}{S:Sig}(hS:SigOk S)(hr:S.r=none){f:Operand}{ps:Array Tmp}{assign body:Code}{E:Env}{w:Wd}{Q:Exit->Env->Wd->Prop}
  {gf:Nat} {lb:Array Value} (hg:opd E f=some (.func (.func gf) #[] lb)) (hok:jh S gf=true)
  {xs:List α} {W0:Wd} {Rd Ow:Nat->Prop} {St:List α->List Value->Wd->Prop} (hI:zhE S.P gf lb.toList xs W0 Rd Ow St) (hW0:W0.heap.size<=w.heap.size) (hRd:∀k,Rd k\/Ow k->k<W0.heap.size/\w.heap[k]?=W0.heap[k]?)
  (hps:∀pre vs W,St pre vs W->vs.length=ps.size) (hpn:∀p∈ps.toList,p<S.n)
  (F0:Nat->Prop) (J:List α->(Nat->Prop)->Wd->Prop) (Jx:Exit->List α->(Nat->Prop)->Wd->Prop) (hRF:∀k,Rd k->¬F0 k)
  (hJ:JG w.heap.size Ow J) (hJx:∀ex,JG w.heap.size Ow (Jx ex)) (h0:J [] F0 w)
  (hround:∀(l:Nat) (pre:List α) (x:α) (vs:List Value) (F:Nat->Prop) (W:Wd),w.heap.size<=l->(pre++[x]) <+: xs->J pre F W->St (pre++[x]) vs W->¬F l->(∃lo,W.heap[l]?=some (.loop lo)) ->
   wpE (sr S l) assign ⟨zfN ps.toList vs E.vs,[]⟩ W fun ex E1 W1=>ex = .normal/\∃F1,KeepsG F F1 W W1/\J pre F1 W1 /\
    ∀o W2,W2=W1.putObj l o->J pre F1 W2->wpE (sr S l) body E1 W2 (zrx F1 J Jx (pre++[x]) W2))
  (hdone:∀D F W,w.heap.size<=D->¬F D->J xs F W->W.heap[D]?=some (.deferred (some []))->Q .normal ⟨E.vs,{ target := .collected D,args := #[] }::E.ds⟩ W)
  (hstop:∀D ex pre F W,w.heap.size<=D->¬F D->pre <+: xs->Jx ex pre F W->W.heap[D]?=some (.deferred (some []))->Q ex ⟨E.vs,{ target := .collected D,args := #[] }::E.ds⟩ W) :
  ziw S f ps assign body E w Q:=by
 intro a ha;have ay:∀args w,(callFunc gf args).run S.P w = .ok (.enter gf args) w:=by
  simp only[jh,bAT,US,UT] at hok;exact fun args w=>hS.call gf hok.1.1 hok.1.2 hok.2 args w
 refine wpIn_rangeFunc ?_;intro fn bk;have bi:(FR S.r).round=none:=hr;rw[bi];obtain⟨d,g⟩:∃d:LoopState->Option Code->Loop,d=fun st pe=>{ state:=st,pending:=pe,fn,tmps:=a.tmps,params:=ps,assign,body,defers:=w.heap.size }:=⟨_,rfl⟩;obtain⟨W1,aj⟩:∃W1,(w.alloc (.deferred (some []))).alloc (.loop (d .ready none))=W1:=⟨_,rfl⟩;have a9:=zw w (.deferred (some []));have bc:W1.heap[w.heap.size]?=some (.deferred (some [])):=by rw[<- aj];exact z6 _ a9
 have be:W1.heap[w.heap.size+1]?=some (.loop (d .ready none)):=by
  rw[<- aj];have:=zw (w.alloc (.deferred (some []))) (.loop (d .ready none));rwa [wz] at this
 have bj:W1.heap.size=w.heap.size+2:=by rw[<- aj];simp
 have ao:Bw w W1:=by
  rw[<- aj];exact((zba w _)).alloc (by simp) _
 have ba:=hJ.step _ _ _ _ h0 (.below ao);have a4:∀k,w.heap.size<=k->¬Ow k:=fun k hk ho=>by have:=(hRd k (.inr ho)).1;omega
 have a6:∀k,F0 k->k<w.heap.size:=fun k hk=>(hJ.lt _ _ _ k h0 hk).1;refine⟨w.heap.size+1,[{ target := .collected w.heap.size,args := #[] }],W1,{ target := .fn (.func gf) lb,args := #[.func (.yield (w.heap.size+1)) #[] #[]] },W1,gf,
  #[.func (.yield (w.heap.size+1)) #[] #[]]++lb,W1,?_,?_,fun _ _=>trivial,?_,fun h=>by simp[FR] at h,?_⟩
 ·rw[<- aj,g];exact Kk _ _ _ _ _
 ·have bg:=ha.eval hg;simp only[resolve,bg];simp[go_sem]
 ·simp[invoke,go_sem,ay]
 ·have ar : #[Value.func (.yield (w.heap.size+1)) #[] #[]]++lb=(Value.func (.yield (w.heap.size+1)) #[] #[]::lb.toList).toArray:=by rw[<- KW];simp
  rw[ar];have ap:∀{σ:Type} {K:σ->(Nat->Prop)->Wd->Prop} (lo:Loop),JG w.heap.size Ow K->JG W1.heap.size Ow (fun s F W=>K s F W/\W.heap[w.heap.size+1]?=some (.loop lo)/\W.heap[w.heap.size]?=some (.deferred (some []))/\¬F (w.heap.size+1)/\¬F w.heap.size):=by
   intro σ K lo hK;exact⟨fun s F A B ⟨hk,hl,hd,u,z⟩ hs=>⟨hK.step s F A B hk (hs.mono (by omega)),(hs.same _ (hlt hl) (.inl ⟨by omega,a4 _ (by omega)⟩)).trans hl,(hs.same _ (hlt hd) (.inl ⟨by omega,a4 _ (by omega)⟩)).trans hd,u,z⟩,fun s F A k ⟨hk,_⟩ hf=>hK.lt s F A k hk hf⟩
  have al:=hI (w.heap.size+1) F0 (fun pre F W=>J pre F W/\W.heap[w.heap.size+1]?=some (.loop (d .ready none))/\W.heap[w.heap.size]?=some (.deferred (some []))/\¬F (w.heap.size+1)/\¬F w.heap.size)
   (fun pre F W=>∃ex c,((ex = .ret/\c = .ret)\/∃id,ex = .exit id/\c = .exit id)/\Jx ex pre F W/\W.heap[w.heap.size+1]?=some (.loop (d .done (some c)))/\W.heap[w.heap.size]?=some (.deferred (some []))/\¬F (w.heap.size+1)/\¬F w.heap.size)
   W1 (by omega) (fun k hk=>by
    obtain⟨h1,h2⟩:=hRd k hk;rw[<- h2];exact ao.block k (by omega)) hRF (ap _ hJ)
   ⟨fun s F A B ⟨ex,c,hc,ab⟩ hs=>⟨ex,c,hc,(ap (d .done (some c)) (hJx ex)).step s F A B ab hs⟩,fun s F A k ⟨ex,c,hc,ab⟩ hf=>(hJx ex).lt s F A k ab.1 hf⟩ ?_ ⟨ba,be,bc,fun h=>by have:=a6 _ h;omega,fun h=>by have:=a6 _ h;omega⟩
  ·refine zcd (al.mono ?_);rintro e W2 ⟨⟨v,rfl⟩,(⟨F,hj,hl,hk,u,z⟩ | ⟨pre,F,ad,ex,c,hc,hj,hl,hk,u,z⟩)⟩
   ·have aa:=hJ.step _ _ _ _ hj (StepG.put (Ow:=Ow) (o := .loop (d .exhausted none)) (n0:=w.heap.size) (l:=w.heap.size+1) (by omega) u);refine⟨none,_,by have:=UQ (P:=S.P) hl (by rw[g];simp);rw[g] at this;exact this,?_⟩;rw[g] at aa;exact⟨⟨E.vs,{ target := .collected w.heap.size,args := #[] }::E.ds⟩,⟨ha.size,by simp[ha.defers],ha.val⟩,hdone w.heap.size F _ (UN _) z aa ((zj (by omega)).trans hk)⟩
   ·have aa:=(hJx ex).step _ _ _ _ hj (StepG.put (Ow:=Ow) (o := .loop (d .exhausted (some c))) (n0:=w.heap.size) (l:=w.heap.size+1) (by omega) u);refine⟨some c,_,by have:=UQ (P:=S.P) hl (by rw[g];simp);rw[g] at this;exact this,?_⟩;rw[g] at aa;have hq:=hstop w.heap.size ex pre F _ (UN _) z ad aa ((zj (by omega)).trans hk);rcases hc with⟨rfl,rfl⟩ | ⟨id,rfl,rfl⟩
    ·exact wpIn_ret ⟨⟨E.vs,{ target := .collected w.heap.size,args := #[] }::E.ds⟩,⟨ha.size,by simp[ha.defers],ha.val⟩,hq⟩
    ·exact wpIn_exit ⟨⟨E.vs,{ target := .collected w.heap.size,args := #[] }::E.ds⟩,⟨ha.size,by simp[ha.defers],ha.val⟩,hq⟩
  ·rintro pre x vs F W ⟨hj,hl,hk,u,z⟩ am ad;have hy:=run_yield (P:=S.P) (args:=vs.toArray) hl (by rw[g];simpa using hps _ _ _ am);rw[g] at hy;refine⟨fn,_,assign,body,hy,zbn (r:=none) (n:=NN) (roundIn_of_wpIn (F:=FR none) trivial ?_)⟩;have bh:Agrees (sr S (w.heap.size+1)) { tmps:=(ps.zip vs.toArray).foldl (fun t (p,v)=>t.setIfInBounds p v) a.tmps,defers:=[] } ⟨zfN ps.toList vs E.vs,[]⟩:=by
    have h1:Agrees (sr S (w.heap.size+1)) { a with defers:=[] } ⟨E.vs,[]⟩:=⟨ha.size,rfl,ha.val⟩;have h2:=zbm ps.toList vs _ _ h1 hpn;have e:(ps.zip vs.toArray).foldl (fun t (p,v)=>t.setIfInBounds p v) a.tmps=(ps.toList.zip vs).foldl (fun t (p,v)=>t.setIfInBounds p v) a.tmps:=by
     rw[<- Kl];simp
    rw[e];exact h2
   have hw:=qx (zg4 hS _) assign _ _ W _ bh (hround (w.heap.size+1) pre x vs F W (by omega) ad hj am u ⟨_,hl⟩);refine UW hw ?_;rintro ex a1 Wa ⟨E1,a0,rfl,F1,j,a8,av⟩;have a7:=(j.same _ (hlt hl) u).trans hl;have bb:=(j.same _ (hlt hk) z).trans hk;have ai:¬F1 (w.heap.size+1):=fun h=>by rcases j.fp _ h with h | h;exact u h;have:=hlt hl;omega
   have an:¬F1 w.heap.size:=fun h=>by rcases j.fp _ h with h | h;exact z h;have:=hlt hk;omega
   refine⟨_,run_beginRound a7 (by rw[g]),?_⟩;have ak:StepG w.heap.size Ow F1 Wa (Wa.putObj (w.heap.size+1) (.loop { d .ready none with state := .busy })) := .put (by omega) ai _;have aa:=hJ.step _ _ _ _ a8 ak;have bf:=qx (zg4 hS _) body _ _ _ _ a0 (av _ _ rfl aa);refine UW bf ?_;have az:(Wa.putObj (w.heap.size+1) (.loop { d .ready none with state := .busy })).heap[w.heap.size+1]?=some (.loop { d .ready none with state := .busy }):=j3 a7;have aq:(Wa.putObj (w.heap.size+1) (.loop { d .ready none with state := .busy })).heap[w.heap.size]?=some (.deferred (some [])):=(zj (by omega)).trans bb;have aw:∀(b:Option Code) (F3:Nat->Prop) (W3:Wd),KeepsG F1 F3 (Wa.putObj (w.heap.size+1) (.loop { d .ready none with state := .busy })) W3 ->
     (Instr.endRound (w.heap.size+1) b).run S.P W3 = .ok (.bool b.isNone) (W3.putObj (w.heap.size+1) (.loop (d (if b.isNone then .ready else .done) b))) /\
     (W3.putObj (w.heap.size+1) (.loop (d (if b.isNone then .ready else .done) b))).heap[w.heap.size+1]?=some (.loop (d (if b.isNone then .ready else .done) b)) /\
     (W3.putObj (w.heap.size+1) (.loop (d (if b.isNone then .ready else .done) b))).heap[w.heap.size]?=some (.deferred (some [])) /\
     StepG w.heap.size Ow F3 W3 (W3.putObj (w.heap.size+1) (.loop (d (if b.isNone then .ready else .done) b)))/\¬F3 (w.heap.size+1)/\¬F3 w.heap.size:=fun b F3 W3 i=>by
    have a5:=(i.same _ (hlt az) ai).trans az;have bd:=(i.same _ (hlt aq) an).trans aq;have m:¬F3 (w.heap.size+1):=fun h=>by rcases i.fp _ h with h | h;exact ai h;have:=hlt az;omega
    have q:¬F3 w.heap.size:=fun h=>by rcases i.fp _ h with h | h;exact an h;have:=hlt aq;omega
    have:=run_endRound (P:=S.P) b a5;rw[g] at this ⊢;exact⟨this,j3 a5,(zj (by omega)).trans bd,.put (by omega) m _,m,q⟩
   rintro e a3 W3 ⟨E3,_,hq⟩
   cases e with
   | normal =>
    obtain⟨F3,ae,i⟩:=hq;obtain⟨ah,ac,ag,y,m,q⟩:=aw none F3 W3 i;have af:=hJ.step _ _ _ _ ae y;refine⟨_,_,ah,.inl ⟨rfl,F3,⟨af,ac,ag,m,q⟩,y.os.trans (i.os.trans j.os),y.tape.trans (i.tape.trans j.tape),y.output.trans (i.output.trans j.output),?_,fun k ax a2=>?_,fun k ax=>?_⟩⟩
    ·have h1:=j.size;have h2:=ak.size;have h3:=i.size;have h4:=y.size;omega
    ·by_cases au:k=w.heap.size+1
     ·subst au;rw[ac,hl];rfl
     ·have h1:¬F1 k:=fun h=>by rcases j.fp _ h with h | h;exact a2 h;omega
      have h2:=j.size;have h3:=ak.size;rw[zj au,i.same k (by omega) h1,zj au];exact j.same k ax a2
    ·rcases i.fp _ ax with h2 | h2
     ·exact j.fp _ h2
     ·have h3:=j.size;have h4:=ak.size;exact .inr (by omega)
   | ret =>
    obtain⟨F3,ae,i⟩:=hq;obtain⟨ah,ac,ag,y,m,q⟩:=aw (some .ret) F3 W3 i;have af:=(hJx .ret).step _ _ _ _ ae y;exact⟨_,_,ah,.inr ⟨rfl,F3,.ret,.ret,.inl ⟨rfl,rfl⟩,af,ac,ag,m,q⟩⟩
   | exit id =>
    obtain⟨F3,ae,i⟩:=hq;obtain⟨ah,ac,ag,y,m,q⟩:=aw (some (.exit id)) F3 W3 i;have af:=(hJx (.exit id)).step _ _ _ _ ae y;exact⟨_,_,ah,.inr ⟨rfl,F3,.exit id,.exit id,.inr ⟨id,rfl,rfl⟩,af,ac,ag,m,q⟩⟩
   | goto t=>exact hq.elim
   | panic ch=>exact hq.elim
   | outgrown=>exact hq.elim
end Go.Vc
namespace Go.Proofs.YtakcdebpklffiaaGreatDoor
open Go.Vc Go.RowKit Go.Sei
def s64 (n:Nat):Value := .int .u64 (n:Nat)
def s32 (n:Nat):Value := .int .u32 (n:Nat)
theorem bvN{a:Nat}(h:a<2^64):(BitVec.ofInt 64 (a:Int)).toNat=a:=by
 rw[Km];have:((a:Int)%((2^64:Nat):Int))=(a:Int):=Int.emod_eq_of_lt (by omega) (by omega);rw[this];rfl
theorem w64{a:Int}(h:0<=a/\a<=18446744073709551615):IntKind.u64.wrap a=a:=zcn h
theorem jo{a b:Nat}(ha:a<2^64)(hb:b<2^64):IntKind.u64.wrap ((BitVec.ofInt IntKind.u64.bits (a:Int)&&&BitVec.ofInt IntKind.u64.bits (b:Int)).toNat:Int)=((a&&&b:Nat):Int):=by
 show IntKind.u64.wrap ((BitVec.ofInt 64 (a:Int)&&&BitVec.ofInt 64 (b:Int)).toNat:Int)=_;rw[KY,bvN ha,bvN hb];have:a&&&b<=a:=QN;exact w64 (by omega)
theorem jB{a b:Nat}(ha:a<2^64)(hb:b<2^64):IntKind.u64.wrap ((BitVec.ofInt IntKind.u64.bits (a:Int)|||BitVec.ofInt IntKind.u64.bits (b:Int)).toNat:Int)=((a|||b:Nat):Int):=by
 show IntKind.u64.wrap ((BitVec.ofInt 64 (a:Int)|||BitVec.ofInt 64 (b:Int)).toNat:Int)=_;rw[BitVec.toNat_or,bvN ha,bvN hb];have:a|||b<2^64:=KR ha hb;exact w64 (by omega)
def jl (a b:Nat):Nat:=a&&&(18446744073709551615-b)
theorem zbK{a b:Nat}(ha:a<2^64)(hb:b<2^64):IntKind.u64.wrap ((BitVec.ofInt IntKind.u64.bits (a:Int) &&& ~~~ BitVec.ofInt IntKind.u64.bits (b:Int)).toNat:Int)=((jl a b:Nat):Int):=by
 show IntKind.u64.wrap ((BitVec.ofInt 64 (a:Int) &&& ~~~ BitVec.ofInt 64 (b:Int)).toNat:Int)=_;rw[KY,BitVec.toNat_not,bvN ha,bvN hb];have e:2^64-1-b=18446744073709551615-b:=by omega
 rw[e];have:a&&&(18446744073709551615-b)<=a:=QN;unfold jl;exact w64 (by omega)
theorem zgd{a b:Nat}(ha:a<2^64):jl a b<2^64:=by
 have:jl a b<=a:=QN;omega
theorem zeG{a b i:Nat}(hb:b<2^64)(hi:i<64):(jl a b).testBit i=(a.testBit i && !b.testBit i):=by
 unfold jl;rw[QR,show 18446744073709551615-b=2^64-(b+1) by omega,Nat.testBit_two_pow_sub_succ hb];simp[hi]
theorem jn{e:Nat}(he:e<64):IntKind.u64.wrap ((1:Int)*2^(min (Int.toNat (e:Int)) IntKind.u64.bits))=((2^e:Nat):Int):=by
 have c:2^e<2^64:=JZ (by decide) he;have a:min (Int.toNat (e:Int)) IntKind.u64.bits=e:=by
  rw[KE];show min e 64=_;omega
 rw[a,Int.one_mul];have b:(2:Int)^e=((2^e:Nat):Int):=by simp
 rw[b];exact w64 ⟨Int.natCast_nonneg _,Int.ofNat_le.2 (show 2^e<=18446744073709551615 by omega)⟩
theorem zfl{a k:Nat}(hk:k<=64):((a:Nat):Int).fdiv (2^(min (Int.toNat (k:Int)) IntKind.u64.bits))=((a/2^k:Nat):Int):=by
 rw[KE,show min k IntKind.u64.bits=k from QQ hk,Int.fdiv_eq_ediv_of_nonneg _ (Int.pow_nonneg (by decide)),Int.natCast_ediv,Int.natCast_pow];rfl
theorem zir{a k:Nat}:(a/2^k)&&&1=if a.testBit k then 1 else 0:=by
 rw[Ky,Nat.testBit_eq_decide_div_mod_eq];by_cases h:a/2^k%2=1
 ·rw[h];rfl
 ·rw[Gc (by simpa using h)];omega
theorem zT{k:Nat}(h:k<64):2^k<2^64:=JZ (by decide) h
theorem w32{a:Int}(h:0<=a/\a<=4294967295):IntKind.u32.wrap a=a:=by
 unfold IntKind.wrap;simp only[IntKind.bits,IntKind.signed,QZ,Kn,UZ];omega
theorem zrw{a:Nat}(h:a<2^32):(BitVec.ofInt 32 (a:Int)).toNat=a:=by
 rw[Km];have:((a:Int)%((2^32:Nat):Int))=(a:Int):=Int.emod_eq_of_lt (by omega) (by omega);rw[this];rfl
theorem zlg{a b:Nat}(ha:a<2^32)(hb:b<2^32):IntKind.u32.wrap ((BitVec.ofInt IntKind.u32.bits (a:Int)&&&BitVec.ofInt IntKind.u32.bits (b:Int)).toNat:Int)=((a&&&b:Nat):Int):=by
 show IntKind.u32.wrap ((BitVec.ofInt 32 (a:Int)&&&BitVec.ofInt 32 (b:Int)).toNat:Int)=_;rw[KY,zrw ha,zrw hb];have:a&&&b<=a:=QN;exact w32 (by omega)
theorem zpA{e:Nat}(he:e<32):IntKind.u32.wrap ((1:Int)*2^(min (Int.toNat (e:Int)) IntKind.u32.bits))=((2^e:Nat):Int):=by
 have c:2^e<2^32:=JZ (by decide) he;have a:min (Int.toNat (e:Int)) IntKind.u32.bits=e:=by
  rw[KE];show min e 32=_;omega
 rw[a,Int.one_mul];have b:(2:Int)^e=((2^e:Nat):Int):=by simp
 rw[b];exact w32 ⟨Int.natCast_nonneg _,Int.ofNat_le.2 (show 2^e<=4294967295 by omega)⟩
def zgY:List UInt8:=[0,1,56,2,57,49,28,3,61,58,42,50,38,29,17,4,62,47,59,36,45,43,51,22,53,39,33,30,24,18,12,5,63,55,48,27,60,41,37,16,46,35,44,21,52,32,23,11,54,26,40,15,34,20,31,10,25,14,19,9,13,8,7,6]
def zgZ:List UInt8:=[0,1,28,2,29,14,24,3,30,22,20,15,25,17,4,8,31,27,13,23,21,19,16,7,26,12,18,6,11,5,10,9]
def Tz64M (X:Wd):Prop:=zF X ⟨7,0,none⟩ (zgY.map u8)
def Tz32M (X:Wd):Prop:=zF X ⟨8,0,none⟩ (zgZ.map u8)
theorem Tz64M.below{w w2:Wd}(h:Tz64M w)(hb:Bw w w2):Tz64M w2:=zt hb h
theorem Tz32M.below{w w2:Wd}(h:Tz32M w)(hb:Bw w w2):Tz32M w2:=zt hb h
theorem zns{k:Nat}(hk:k<64):2^k*285870213051353865%18446744073709551616/2^58<64/\zgY[2^k*285870213051353865%18446744073709551616/2^58]?=some (UInt8.ofNat k):=by
 have h:(List.range 64).all (fun k=>decide (2^k*285870213051353865%18446744073709551616/2^58<64)&&decide (zgY[2^k*285870213051353865%18446744073709551616/2^58]?=some (UInt8.ofNat k)))=true:=by kernel_rfl
 have a:=Qa.1 h k (Ue.2 hk);rw[bAT,dE,dE] at a;exact a
theorem znu{k:Nat}(hk:k<32):2^k*125613361%4294967296/2^27<32/\zgZ[2^k*125613361%4294967296/2^27]?=some (UInt8.ofNat k):=by
 have h:(List.range 32).all (fun k=>decide (2^k*125613361%4294967296/2^27<32)&&decide (zgZ[2^k*125613361%4294967296/2^27]?=some (UInt8.ofNat k)))=true:=by kernel_rfl
 have a:=Qa.1 h k (Ue.2 hk);rw[bAT,dE,dE] at a;exact a
theorem znt{s:Nat}{w:Wd}(hT:Tz64M w)(h0:s≠0)(h:s<2^64):Calls PG 255 #[s64 s] w fun e w'=>e = .returned (i64 (ctz s:Nat))/\w=w':=by
 refine zC 14 [s64 s] Tryz.func255 ?_;obtain⟨_,_,i,c⟩:=jg h0 h;have j:=zT c;obtain⟨g,d⟩:=zns c;refine brN (QX (fun e=>h0 (by omega))) ⟨((2^64-s:Nat):Int),by unfold IntKind.wrap;simp only[IntKind.bits,IntKind.signed,QZ,Kn,UZ];omega,?_⟩;refine⟨((2^ctz s:Nat):Int),(jo (a:=s) (b:=2^64-s) h (by omega)).trans (by rw[i]),?_⟩;refine⟨((2^ctz s*285870213051353865%18446744073709551616:Nat):Int),by
  have e:(((2^ctz s:Nat):Int)*285870213051353865)=((2^ctz s*285870213051353865:Nat):Int):=by rw[Qy];rfl
  rw[e];generalize 2^ctz s*285870213051353865=n;unfold IntKind.wrap;simp only[IntKind.bits,IntKind.signed,QZ,Kn,UZ];omega,?_⟩
 refine⟨by decide,_,zfl (k:=58) (by decide),_,rfl,g,?_⟩;have f:(zgY.map u8)[2^ctz s*285870213051353865%18446744073709551616/2^58]?=some (u8 (UInt8.ofNat (ctz s))):=by rw[KM,d];rfl
 refine⟨u8 (UInt8.ofNat (ctz s)),by rw[UO];exact zc hT f,?_⟩;have e:(UInt8.ofNat (ctz s)).toNat=ctz s:=by rw[KB];omega
 exact⟨(ctz s:Int),by rw[e];exact zg (by omega),rfl,rfl⟩
theorem zgw{s:Nat}{w:Wd}:Calls PG 187 #[s64 s] w fun e w'=>e = .returned (.func (.func 254) #[] #[.pointer (some ⟨w.heap.size,0,none⟩)])/\w'=w.alloc (.cells #[s64 s] 73):=by
 refine zC 4 [s64 s] Tryz.func187 ?_;exact⟨rfl,rfl⟩
def StN (pre:List Nat) (vs:List Value) (W:Wd):Prop:=∃c,pre.getLast?=some c/\vs=[i64 (c:Nat)]
theorem jJ{X Y:Wd}(h:Tz64M X)(hs:Y.heap[7]?=X.heap[7]?):Tz64M Y:=qC hs h
theorem zal{X:Wd}(h:Tz64M X):7<X.heap.size:=Ju X _ (jt h)
def RdE (bx:Nat) (k:Nat):Prop:=k=bx\/k=7
theorem zjz{bx s:Nat}{W0:Wd}(hbx:W0.heap[bx]?=some (.cells #[s64 s] 73 (0,0)))(hs:s<2^64)(hT:Tz64M W0) :
  zhE PG 254 [At0 bx] (els s) W0 (RdE bx) (fun _=>False) StN:=by
 intro yl F0 J Jx W ac t ab hJ ae hy h0;have p:W.heap[bx]?=some (.cells #[s64 s] 73 (0,0)):=(t bx (.inl (.inl rfl))).trans hbx;have n:Tz64M W:=jJ hT (t _ (.inl (.inr rfl)));have u:¬F0 7:=ab _ (.inr rfl);refine zC 16 [.func (.yield yl) #[] #[],At0 bx] Tryz.func254 ?_;refine⟨_,zc (za p) (i:=0) rfl,?_⟩;refine⟨List Nat×Nat,fun q=>⟨[(0,.func (.yield yl) #[] #[]),(3,s64 q.2)],[]⟩,
  fun q X=>∃F,J q.1 F X/\els s=q.1++els q.2/\q.2<2^64/\Tz64M X/\¬F 7,fun q=>q.2,([],s),
  (cvE rfl rfl),⟨F0,h0,rfl,hs,n,u⟩,?_⟩
 clear p n u h0;rintro⟨g,r⟩ X ⟨F,z,c,w,l,m⟩;dsimp only at z c w ⊢;refine biE (fun d=>?_) fun d=>?_
 ·have d:(!decide ((r:Int)=0))=true:=d;have d:¬(r:Int)=0:=by simpa using d
  have o:r≠0:=by omega
  obtain⟨e1,e2,_,_⟩:=jg o w;refine cmo (znt l o w) ?_;rintro e _ ⟨rfl,rfl⟩;have f:(g++[ctz r]) <+: els s:=⟨els (qA r),by rw[c,e1];simp⟩;refine YieldR.mono (hy g (ctz r) [i64 (ctz r:Nat)] F X z ⟨ctz r,by simp,rfl⟩ f) ?_;rintro v V (⟨rfl,F',k,j⟩ | ⟨rfl,F',k⟩)
  ·refine brF ?_;have ad:=j.size;have aa:=zal l;have y:Tz64M V:=jJ l (j.same _ aa m);have x:¬F' 7:=fun h=>by
    rcases j.fp _ h with h3 | h3
    ·exact m h3
    ·omega
   exact⟨((r-1:Nat):Int),(zcn (a:=(r:Int)-1) (by omega)).trans (by omega),((qA r:Nat):Int),jo (a:=r) (b:=r-1) w (by omega),(g++[ctz r],qA r),(cvE rfl rfl),⟨F',k,by rw[c,e1];simp,by show qA r<_;omega,y,x⟩,e2⟩
  ·exact brT ⟨⟨_,rfl⟩,.inr ⟨_,F',f,k⟩⟩
 ·have d:(!decide ((r:Int)=0))=false:=d;have d:(r:Int)=0:=by simpa using d
  obtain rfl:r=0:=by omega
  refine⟨⟨_,rfl⟩,.inl ?_⟩;rw[c,zbg,QA];exact⟨F,z⟩
theorem joG{σ:Type}{n0:Nat}{F:Nat->Prop}{J:σ->Wd->Prop}(hF:∀k,F k->k<n0)(hn:∀s A,J s A->n0<=A.heap.size)(hJ:∀s A B,J s A->Below n0 A B->J s B) :
  JG n0 (fun _=>False) (fun s F' W=>F'=F/\J s W):=by
 refine⟨fun s F' A B ⟨e,h⟩ a=>⟨e,hJ s A B h ⟨a.os,a.tape,a.output,a.size,fun k b=>a.same k (nL b (hn s A h)) (.inl ⟨b,fun h=>h⟩)⟩⟩,fun s F' A k ⟨e,h⟩ b=>?_⟩;subst e;exact⟨nL (hF k b) (hn s A h),fun h=>h⟩
theorem jO{n:Nat}{A B:Wd}(h:Below n A B){g:Nat}{o:Obj}(hg:g<n)(f:A.heap[g]?=some o):B.heap[g]?=some o:=(h.block g hg).trans f
theorem zas{s:Nat}{w:Wd}(hs:s<2^64)(hT:Tz64M w):Calls PG 117 #[s64 s] w fun e w' =>
  e = .returned (.tuple #[i64 ((els s).headD 0:Nat),.bool (!(els s).isEmpty)])/\Bw w w':=by
 refine qg 9 [s64 s] (.c .p .p) Tryz.func117 ?_;obtain⟨L,hL⟩:=nm (w.heap.size);refine⟨Unit,fun _=>⟨[(0,s64 s),(2,At0 L),(3,At0 (L+1))],[]⟩,fun _ X=>X.heap[L]?=some (.cells #[i64 0] 3 (0,0))/\X.heap[L+1]?=some (.cells #[.bool false] 4 (0,0))/\X.heap.size=L+2/\Bw w X,?_,?_⟩
 ·have sz:=wz w (.cells #[i64 0] 3);refine⟨(),⟨.cons rfl (.cons (by rw[hL];rfl) (.cons (by rw[hL,<- sz];rfl) .nil)),rfl⟩,?_,?_,?_,?_⟩
  ·rw[hL];exact z6 _ (zw w _)
  ·have:=zw (w.alloc (.cells #[i64 0] 3)) (.cells #[.bool false] 4);rw[sz,<- hL] at this;exact this
  ·have:=wz (w.alloc (.cells #[i64 0] 3)) (.cells #[.bool false] 4);rw[sz,<- hL] at this;exact this
  ·exact((zba w _)).alloc (by simp) _
 rintro _ X ⟨f1,f2,sX,ac⟩;refine cmo zgw ?_;rintro e W ⟨rfl,hW⟩;have q:Bw X W:=by rw[hW];exact(zba _ _)
 have fb:W.heap[X.heap.size]?=some (.cells #[s64 s] 73 (0,0)):=by rw[hW];exact zw X _
 have sW:W.heap.size=L+3:=by rw[hW,wz,sX]
 have g1:=zb q f1;have g2:=zb q f2;have ab:Bw w W:=zst ac q;have aa:=hT.below ab;clear hW;refine zcw (zes _) rfl (lb := #[.pointer (some ⟨X.heap.size,0,none⟩)]) rfl rfl (zjz fb hs aa) (UN _) (fun k hk=>⟨by rcases hk with(rfl | rfl) | h;exact hlt fb;exact zal aa;exact h.elim,rfl⟩) (fun a vs W ⟨c,_,h⟩=>by rw[h];rfl) (by decide)
  (fun k=>k=L\/k=L+1) (fun a F Y=>F=(fun k=>k=L\/k=L+1)/\a=[]/\W.heap.size<=Y.heap.size/\Y.heap[L]?=some (.cells #[i64 0] 3 (0,0))/\Y.heap[L+1]?=some (.cells #[.bool false] 4 (0,0))/\Bw w Y)
  (fun ex a F Y=>F=(fun k=>k=L\/k=L+1)/\ex = .ret/\W.heap.size<=Y.heap.size/\(∃c,a=[c]/\Y.heap[L]?=some (.cells #[i64 (c:Nat)] 3 (0,0)))/\Y.heap[L+1]?=some (.cells #[.bool true] 4 (0,0))/\Bw w Y)
  (fun k hk h=>by have:=zal hT;rcases hk with rfl | rfl <;> omega)
  (joG (F:=fun k=>k=L\/k=L+1) (J:=fun(a:List Nat) Y=>a=[]/\W.heap.size<=Y.heap.size/\Y.heap[L]?=some (.cells #[i64 0] 3 (0,0))/\Y.heap[L+1]?=some (.cells #[.bool false] 4 (0,0))/\Bw w Y) (fun k h=>by omega) (fun s A h=>h.2.1) (fun a A B ⟨h0,z,f,d,g⟩ j=>⟨h0,UC z j.size,jO j (by omega) f,jO j (by omega) d,g.trans (j.mono (by omega))⟩))
  (fun ex=>joG (F:=fun k=>k=L\/k=L+1) (J:=fun(a:List Nat) Y=>ex = .ret/\W.heap.size<=Y.heap.size/\(∃c,a=[c]/\Y.heap[L]?=some (.cells #[i64 (c:Nat)] 3 (0,0)))/\Y.heap[L+1]?=some (.cells #[.bool true] 4 (0,0))/\Bw w Y) (fun k h=>by omega) (fun s A h=>h.2.1) (fun a A B ⟨h0,z,⟨c,hc,f⟩,d,g⟩ j=>⟨h0,UC z j.size,⟨c,hc,jO j (by omega) f⟩,jO j (by omega) d,g.trans (j.mono (by omega))⟩))
  ⟨rfl,rfl,UN _,g1,g2,ab⟩ ?_ ?_ ?_
 ·rintro yl a x vs F V af ae hJ ⟨x',y,rfl⟩ ah ⟨lo,ai⟩;have y:x=x':=by simpa using y
  subst y;refine⟨rfl,F,KeepsG.refl _ _,hJ,?_⟩;rintro o V2 ag ⟨rfl,rfl,z,f,d,g⟩;refine zn k3 f (o:=0) (v:=i64 (x:Nat)) rfl rfl (by show 0<1;decide) rfl fun Y fY n sY=>?_;have u:=(n.block (L+1) (hlt d) (by simp)).trans d;refine zn k4 u (o:=0) (v := .bool true) rfl rfl (by show 0<1;decide) rfl fun Z fZ m sZ=>?_;have l:=(m.block L (hlt fY) (by simp)).trans fY;refine⟨_,⟨rfl,rfl,by omega,⟨x,rfl,l⟩,fZ,(g.trans (zm n (by omega) (by omega))).trans (zm m (by omega) (by omega))⟩,(KeepsG.grown (F:=fun k=>k=L\/k=L+1) n (.inl rfl)).trans (KeepsG.grown m (.inr rfl))⟩
 ·rintro D F Y hD ad ⟨_,h0,z,f,d,g⟩ b;refine zn k3 f (o:=0) (v:=i64 0) rfl rfl (by show 0<1;decide) rfl fun Y1 fY n sY=>?_;have u:=(n.block (L+1) (hlt d) (by simp)).trans d;refine zn k4 u (o:=0) (v := .bool false) rfl rfl (by show 0<1;decide) rfl fun Z fZ m sZ=>?_;have l:=(m.block L (hlt fY) (by simp)).trans fY;have r:=(m.block D (by rw[sY];exact hlt b) (by simp;omega)).trans ((n.block D (hlt b) (by simp;omega)).trans b);refine⟨_,rfl,r,i64 0,?_,.bool false,?_,?_,?_⟩
  ·exact zc (za ((zj (by omega)).trans l)) (i:=0) rfl
  ·exact zc (za ((zj (by omega)).trans fZ)) (i:=0) rfl
  ·rw[h0];rfl
  ·exact qh ((g.trans (zm n (by omega) (by omega))).trans (zm m (by omega) (by omega))) (by omega) _
 ·rintro D ex a F Y hD ad ⟨t,ht⟩ ⟨_,rfl,z,⟨c,rfl,f⟩,d,g⟩ b;refine⟨_,rfl,b,i64 (c:Nat),?_,.bool true,?_,?_,?_⟩
  ·exact zc (za ((zj (by omega)).trans f)) (i:=0) rfl
  ·exact zc (za ((zj (by omega)).trans d)) (i:=0) rfl
  ·rw[<- ht];rfl
  ·exact qh g (by omega) _
def zaf (n:Int):Nat:=if n<1 then 0 else if 64<=n then 18446744073709551615 else 2^n.toNat-1
theorem zaY(n:Int):zaf n<2^64:=by
 unfold zaf
 split
 ·decide
 split
 ·decide
 ·have:=zT (k:=n.toNat) (by omega);omega
theorem zhG{n:Int}{w:Wd}:Calls PG 115 #[i64 n] w fun e w'=>e = .returned (s64 (zaf n))/\w=w':=by
 refine zC 10 [i64 n] Tryz.func115 ?_;refine biE (fun h=>?_) fun h=>?_
 ·have h:n<1:=dT h;exact⟨by unfold zaf;rw[Gd h];rfl,rfl⟩
 ·have h:¬n<1:=dF h;refine biE (fun b=>?_) fun b=>?_
  ·have b:64<=n:=dT b;exact⟨by unfold zaf;rw[Gc h,Gd b];rfl,rfl⟩
  ·have b:¬64<=n:=dF b;obtain⟨k,rfl⟩:∃k:Nat,n=k:=⟨n.toNat,by omega⟩;have d:k<64:=by omega
   have f:=zT d;have c:=QS k;refine⟨by omega,_,jn d,?_⟩;refine⟨((2^k-1:Nat):Int),?_,?_⟩
   ·generalize 2^k=m at f c ⊢;exact(w64 (a:=(m:Int)-1) (by omega)).trans (by omega)
   ·exact⟨by unfold zaf;rw[Gc h,Gc b];rfl,rfl⟩
def zB:Enc Nat:=⟨fun n=>[i64 (n:Nat)],1,fun _=>rfl,by decide,fun a u hu=>by
 simp only[Ur,Qm,Ga] at hu;subst hu;rfl⟩
theorem zee(s:Nat):(els s).length<=64:=by
 have:=JH (fun i=>s.testBit i) (List.range 64);rw[KN] at this;exact this
def zan (to:Nat->Nat):List Value:=(List.range 48).map fun i=>s64 (to i)
def zd (r:RelD):List Value:=i64 r.n::zan r.to
def zG (to:Nat->Nat):Prop:=∀i,i<48->to i<2^64
theorem zaH(to:Nat->Nat):(zan to).length=48:=by unfold zan;rw[QD,KN]
theorem zb3(to:Nat->Nat){i:Nat}(h:i<48):(zan to)[i]?=some (s64 (to i)):=by
 unfold zan;rw[KM,Kc h];rfl
theorem ze(r:RelD):(zd r).length=49:=by unfold zd;rw[Qj,zaH]
theorem zdS(r:RelD){i:Nat}(h:i<48):(zd r)[1+i]?=some (s64 (r.to i)):=by
 unfold zd;rw[UA,Jr,zb3 _ h]
theorem znS(to:Nat->Nat){i:Nat}(h:i<48)(v:Nat):(zan to).set i (s64 v)=zan (upd to i v):=by
 apply KI;intro j;by_cases a:j<48
 ·rw[zb3 _ a];by_cases e:i=j
  ·subst e;rw[Jz (by rw[zaH];exact h),qM]
  ·rw[JQ e,zb3 _ a,zak _ _ (fun h=>e h.symm)]
 ·rw[JE (by rw[QF,zaH];omega),JE (by rw[zaH];omega)]
theorem zdR(r:RelD){i:Nat}(h:i<48)(v:Nat):(zd r).set (1+i) (s64 v)=zd ⟨r.n,upd r.to i v⟩:=by
 unfold zd;rw[UA,Kx,znS _ h]
theorem zD(r:RelD):(zd r).all Value.oneCell'=true:=by
 unfold zd zan;rw[Up,List.all_map];rw[bAT,Qa];exact⟨rfl,fun x _=>rfl⟩
theorem zgD{S:Sig}{g:Nat}{caps:Array Value}{vs:List Value}{w:Wd}{K:Value->Wd->Prop}{KP:List PanicEntry->Wd->Prop}{R:Ending->Wd->Prop}(hok:jh S g=true)
  (h:Calls S.P g (vs++caps.toList).toArray w R) (k:∀e w',R e w'->∃v,e = .returned v/\K v w'):zlZ S (.func (.func g) #[] caps) vs w K KP:=by
 unfold zlZ;dsimp only;rw[hok];exact CallR.mk h k
theorem zel(n:Int):zcl n=zaf n:=rfl
theorem zjg(a b:Nat):zaT a b=jl a b:=rfl
section
variable{r:RelD}{w:Wd}
theorem jk(hr:zG r.to):CB 56 #[.agg (zd r).toArray] w (.bool (okR r)):=by
 refine zC 38 [.agg (zd r).toArray] Tryz.func56 ?_;have f0:=zw w (.cells (zd r).toArray 76);have hb:Bw w (w.alloc (.cells (zd r).toArray 76)):=zba w _;obtain⟨X,hX⟩:=nm (w.alloc (.cells (zd r).toArray 76));have hX':w.alloc (.cells (Value.agg (zd r).toArray).cells 76)=X:=hX.symm;rw[<- hX] at f0 hb;have hn:X.cell? ⟨w.heap.size,0+0,none⟩=some (i64 r.n):=zc (za f0) (i:=0) rfl;have out:∀b,okR r=b->(∀h:Ending.returned (.bool b)=Ending.returned (.bool (okR r)),True):=fun _ _ _=>trivial;refine⟨i64 r.n,by rw[hX'];exact hn,?_⟩;rw[hX'];refine biE (fun h=>?_) fun h=>?_
 ·have h:r.n<0:=dT h;refine brT ?_;exact⟨rb (by unfold okR;rw[QX (by omega)];rfl),hb⟩
 have h:¬r.n<0:=dF h;refine⟨i64 r.n,hn,?_⟩;refine biE (fun h2=>?_) fun h2=>?_
 ·have h2:(48:Int)<r.n:=dT h2;exact⟨rb (by unfold okR;rw[QX (show ¬r.n<=48 by omega),QZ,QY]),hb⟩
 have h2:¬(48:Int)<r.n:=dF h2;have ok0:okR r=(List.range 48).all (za7 r):=by
  unfold okR;rw[Uh (by omega),Uh (by omega)];rfl
 rw[ok0];refine⟨i64 r.n,hn,?_⟩;refine cmo zhG ?_;rintro e _ ⟨rfl,rfl⟩;refine⟨zan r.to,zaH _,?_,hlt f0,?_⟩
 ·have:=zI (n:=1) (m:=48) (za f0);have e:((zd r).toArray.toList.drop 1).take 48=zan r.to:=by
   show(zan r.to).take 48=_;rw[JB (by rw[zaH];exact UN _)]
  rw[e] at this;exact this
 refine⟨Nat,fun k=>⟨[(1,.pointer (some ⟨w.heap.size,0,none⟩)),(3,s64 (zaf r.n)),(18,.agg (zan r.to).toArray),(19,i64 (k:Nat))],[]⟩,fun k Y=>X=Y/\k<=48/\∀i,i<k->za7 r i=true,fun k=>48-k,0,
  (cvE rfl rfl),⟨rfl,UP _,fun i hi=>by omega⟩,?_⟩
 rintro k _ ⟨rfl,hk,hall⟩;refine biE (fun hc=>?_) fun hc=>?_
 ·have hc:(k:Int)<48:=dT hc;have hk':k<48:=by omega
  refine⟨k,rfl,hk',?_⟩;refine zbb (by rw[UO];exact zb3 _ hk') ?_;refine⟨_,zbK (hr k hk') (zaY _),?_⟩;have no:za7 r k=false->(List.range 48).all (za7 r)=false:=fun h=>by
   rw[KF];exact⟨k,Ue.2 hk',by rw[h];exact Ko⟩
  refine biE (fun h3=>?_) fun h3=>?_
  ·have h3:(!decide (((jl (r.to k) (zaf r.n):Nat):Int)=0))=true:=h3;have h3:¬zaT (r.to k) (zcl r.n)=0:=fun e=>by
    rw[zjg,zel] at e;rw[e] at h3;exact Ge h3 (by decide)
   refine brT ?_;exact⟨rb (no (by unfold za7;rw[QX h3];rfl)).symm,hb⟩
  have h3:(!decide (((jl (r.to k) (zaf r.n):Nat):Int)=0))=false:=h3;have h3:zaT (r.to k) (zcl r.n)=0:=by
   have h4:decide (((jl (r.to k) (zaf r.n):Nat):Int)=0)=true:=by simpa using h3
   exact Uo (dT h4)
  refine⟨i64 r.n,hn,?_⟩;have next:za7 r k=true->∀{K:Prop},(∀k',k'=k+1->(∀i,i<k'->za7 r i=true)->K)->K:=fun h K hK=>hK _ rfl fun i hi=>by
   by_cases e:i=k
   ·rw[e];exact h
   ·exact hall i (by omega)
  have fin:za7 r k=true->∃s':Nat,s'=k+1/\(X=X/\s'<=48/\∀i,i<s'->za7 r i=true):=fun h=>next h fun k' e h=>⟨k',e,rfl,by omega,h⟩
  refine biE (fun h4=>?_) fun h4=>?_
  ·have h4:r.n<=(k:Int):=dT h4;refine biE (fun h5=>?_) fun h5=>?_
   ·have h5:(!decide (((r.to k:Nat):Int)=0))=true:=h5;have h5:¬r.to k=0:=fun e=>by
     rw[e] at h5;exact Ge h5 (by decide)
    exact⟨rb (no (by unfold za7;rw[Uh h3,QX (by omega),QX h5];rfl)).symm,hb⟩
   ·have h5:(!decide (((r.to k:Nat):Int)=0))=false:=h5;have h5:r.to k=0:=by
     have h6:decide (((r.to k:Nat):Int)=0)=true:=(by simpa using h5);exact Uo (dT h6)
    obtain⟨s',e,hs⟩:=fin (by unfold za7;rw[Uh h3,Uh h5];simp);refine nxI (by omega) ?_;exact⟨s',⟨.cons rfl (.cons rfl (.cons rfl (.cons (by rw[e];rfl) .nil))),rfl⟩,hs,by show 48-s'<48-k;omega⟩
  ·have h4:¬r.n<=(k:Int):=dF h4;refine brF ?_;obtain⟨s',e,hs⟩:=fin (by unfold za7;rw[Uh h3,Uh (by omega)];rfl);refine nxI (by omega) ?_;exact⟨s',⟨.cons rfl (.cons rfl (.cons rfl (.cons (by rw[e];rfl) .nil))),rfl⟩,hs,by show 48-s'<48-k;omega⟩
 ·have hc:¬(k:Int)<48:=dF hc;obtain rfl:k=48:=by omega
  refine⟨rb ?_,hb⟩;symm;rw[Qa];exact fun i hi=>hall i (Ue.1 hi)
theorem zio{n g:Nat}{caps:Array Value}{row:Nat->Nat}(hn:n<=48)(hok:jh (sg 0) g=true)(zck:∀a X,a<n->Bw w X->Calls PG g (i64 (a:Nat)::caps.toList).toArray X fun e Y=>e = .returned (s64 (row a))/\Bw X Y) :
  CB 199 #[i64 n,.func (.func g) #[] caps] w (.agg (zd (jW n row)).toArray):=by
 refine qg 21 [i64 n,.func (.func g) #[] caps] (.s .p (.c .p .p)) Tryz.func199 ?_;obtain⟨L,q⟩:=nm (w.heap.size);refine⟨Unit,fun _=>⟨[(0,i64 n),(1,.func (.func g) #[] caps),(4,At0 L),(5,At0 (L+1))],[]⟩,fun _ X=>X.heap[L]?=some (.cells (zd zz).toArray 76 (0,0))/\X.heap[L+1]?=some (.cells (zd ⟨n,fun _=>0⟩).toArray 76 (0,0))/\X.heap.size=L+2/\Bw w X,?_,?_⟩
 ·have h1:=zw w (.cells (zd zz).toArray 76);have t:=wz w (.cells (zd zz).toArray 76);have u:=zw (w.alloc (.cells (zd zz).toArray 76)) (.cells (zd zz).toArray 76);have s2:=wz (w.alloc (.cells (zd zz).toArray 76)) (.cells (zd zz).toArray 76);have b2:Bw w ((w.alloc (.cells (zd zz).toArray 76)).alloc (.cells (zd zz).toArray 76)):=((zba w _)).alloc (by simp) _;refine⟨zd ⟨n,fun _=>0⟩,rfl,?_⟩;refine zo (v := .agg (zd ⟨n,fun _=>0⟩).toArray) k76 u rfl rfl (zD _) ?_;rw[t] at u s2;refine⟨(),⟨.cons rfl (.cons rfl (.cons (by rw[q];rfl) (.cons (by rw[q,<- t];rfl) .nil))),rfl⟩,?_,?_,?_,?_⟩
  ·rw[q];exact(zq (by rw[t];omega)).trans (z6 _ h1)
  ·rw[q,t];exact zk u
  ·rw[q];simp
  ·exact zh b2 (by omega) _
 rintro _ X ⟨f,j,sX,b⟩;refine⟨Nat,fun k=>⟨[(1,.func (.func g) #[] caps),(4,At0 L),(5,At0 (L+1)),(9,i64 n),(10,i64 (k:Nat))],[]⟩,fun k Y=>k<=n/\Y.heap[L]?=some (.cells (zd zz).toArray 76 (0,0))/\Y.heap[L+1]?=some (.cells (zd (⟨n,fun i=>if i<k then row i else 0⟩)).toArray 76 (0,0))/\Bw w Y,fun k=>n-k,0,
  (cvE rfl rfl),⟨UP _,f,j,b⟩,?_⟩
 clear f j sX b X;rintro k X ⟨hk,f,j,b⟩;refine biE (fun m=>?_) fun m=>?_
 ·have m:(k:Int)<(n:Int):=dT m;have l:k<n:=by omega
  refine zgD (S:=sg 21) hok (zck k X l b) ?_;rintro e Y ⟨rfl,d⟩;refine⟨_,rfl,?_⟩;refine⟨k,rfl,by omega,?_⟩;have x:=zb d j;refine zn k73 x (o:=0+1+k*1) (v:=s64 (row k)) rfl rfl (by rw[ze];omega) rfl fun Z z y sZ=>?_;rw[UH,UO,zdR _ (by omega)] at z;refine nxI (by omega) ?_;refine⟨k+1,(cvE rfl rfl),⟨l,(y.block L (hlt (zb d f)) (by simp)).trans (zb d f),?_,((zst b d)).trans (zm y ((zst b d)).size (by omega))⟩,zdc (by omega)⟩;have e:upd (fun i=>if i<k then row i else 0) k (row k)=fun i=>if i<k+1 then row i else 0:=by
   funext i;by_cases e:i=k
   ·subst e;rw[qM,Gd (by omega)]
   ·rw[zak _ _ e];by_cases h:i<k
    ·rw[Gd h,Gd (by omega)]
    ·rw[Gc h,Gc (by omega)]
  rw[<- e];exact z
 ·have m:¬(k:Int)<(n:Int):=dF m;obtain rfl:k=n:=by omega
  refine⟨zd (jW k row),ze _,za j,hlt j,?_⟩;refine zo (v := .agg (zd (jW k row)).toArray) k76 f rfl rfl (zD _) ?_;exact⟨zd (jW k row),ze _,za (zk f),rfl,zh b (by omega) _⟩
end
def evE:Enc Ev:=⟨fun e=>[i64 e.th,u8 e.k,u8 e.l,u8 e.v,u8 e.m,u8 e.i,u8 e.p],7,fun _=>rfl,by decide,fun a u hu=>by
 simp only[Ur,Qm,Ga] at hu;rcases hu with rfl | rfl | rfl | rfl | rfl | rfl | rfl <;> rfl⟩
def seg (n:Nat) (f:Nat->Value):List Value:=(List.range n).map f
def zdz (f:Nat->Ev):List Value:=((List.range 24).map f).flatMap evE.enc
def qG (R:RunD):List Value:=i64 R.pc::(seg 8 (fun i=>u8 (R.regs i))++(seg 8 (fun i=>s32 (R.deps i))++([s32 R.ctl,i64 R.many]++(zdz R.ev ++
 (seg 24 (fun i=>s32 (R.data i))++(seg 24 (fun i=>s32 (R.ctrl i))++seg 24 (fun i=>s32 (R.att i))))))))
theorem zy(n:Nat)(f:Nat->Value):(seg n f).length=n:=by unfold seg;rw[QD,KN]
theorem zb9(f:Nat->Ev):(zdz f).length=168:=by
 unfold zdz;rw[zU,QD,KN];rfl
theorem jV{n:Nat}(f:Nat->Value){i:Nat}(h:i<n):(seg n f)[i]?=some (f i):=by
 unfold seg;rw[KM,Kc h];rfl
theorem zcR{n:Nat}(f g:Nat->Value){i:Nat}(h:i<n)(hg:g i=g i)(hs:∀j,j≠i->g j=f j):(seg n f).set i (g i)=seg n g:=by
 apply KI;intro j;by_cases a:j<n
 ·rw[jV g a];by_cases e:i=j
  ·subst e;rw[Jz (by rw[zy];exact h)]
  ·rw[JQ e,jV f a,hs j (fun h=>e h.symm)]
 ·rw[JE (by rw[QF,zy];omega),JE (by rw[zy];omega)]
theorem qH{A B:List Value}{n i:Nat}(h:A.length=n):(A++B)[n+i]?=B[i]?:=by
 rw[Jj (by omega),h,Jt]
theorem zfr{B:List Value}{n i:Nat}{f:Nat->Value}(h:i<n):(seg n f++B)[i]?=some (f i):=by
 rw[Jn (by rw[zy];exact h),jV f h]
theorem jq{A B:List Value}{n i:Nat}(h:A.length=n){v:Value}:(A++B).set (n+i) v=A++B.set i v:=by
 rw[JK _ _ (by omega),h,Jt]
theorem zdL{B:List Value}{n i:Nat}{f:Nat->Value}(g:Nat->Value)(h:i<n)(hs:∀j,j≠i->g j=f j):(seg n f++B).set i (g i)=seg n g++B:=by
 rw[List.set_append_left _ _ (by rw[zy];exact h),zcR f g h rfl hs]
theorem zam(R:RunD):(qG R).length=259:=by
 unfold qG;simp only[Qj,lap,zy,zb9,QE]
section
variable(R:RunD)
theorem zpL{i:Nat}(h:i<8):(qG R)[1+i]?=some (u8 (R.regs i)):=by
 unfold qG;rw[UA,Jr,zfr h]
theorem zpM{i:Nat}(h:i<8):(qG R)[9+i]?=some (s32 (R.deps i)):=by
 unfold qG;rw[show 9+i=(8+i)+1 by omega,Jr,qH (zy _ _),zfr h]
theorem zfQ:∃A,A.length=16/\qG R=i64 R.pc::(A++([s32 R.ctl,i64 R.many]++(zdz R.ev++(seg 24 (fun i=>s32 (R.data i))++(seg 24 (fun i=>s32 (R.ctrl i))++seg 24 (fun i=>s32 (R.att i))))))) :=
 ⟨seg 8 (fun i=>u8 (R.regs i))++seg 8 (fun i=>s32 (R.deps i)),by rw[lap,zy,zy],by unfold qG;rw[KH]⟩
theorem zpN:(qG R)[17]?=some (s32 R.ctl):=by
 obtain⟨A,a,e⟩:=zfQ R;rw[e];exact(qH (i:=0) a).trans rfl
theorem za6:(qG R)[18]?=some (i64 R.many):=by
 obtain⟨A,a,e⟩:=zfQ R;rw[e];exact(qH (i:=1) a).trans rfl
theorem znP{i:Nat}(h:i<24):(qG R)[187+i]?=some (s32 (R.data i)):=by
 obtain⟨A,a,e⟩:=zfQ R;rw[e,show 187+i=(16+(2+(168+i)))+1 by omega,Jr,qH a,qH (A:=[s32 R.ctl,i64 R.many]) (n:=2) rfl,qH (zb9 _),zfr h]
theorem znQ{i:Nat}(h:i<24):(qG R)[211+i]?=some (s32 (R.ctrl i)):=by
 obtain⟨A,a,e⟩:=zfQ R;rw[e,show 211+i=(16+(2+(168+(24+i))))+1 by omega,Jr,qH a,qH (A:=[s32 R.ctl,i64 R.many]) (n:=2) rfl,qH (zb9 _),qH (zy _ _),zfr h]
theorem zpO{i:Nat}(h:i<24):(qG R)[235+i]?=some (s32 (R.att i)):=by
 obtain⟨A,a,e⟩:=zfQ R;rw[e,show 235+i=(16+(2+(168+(24+(24+i)))))+1 by omega,Jr,qH a,qH (A:=[s32 R.ctl,i64 R.many]) (n:=2) rfl,qH (zb9 _),qH (zy _ _),qH (zy _ _),jV _ h]
theorem zkf(n:Nat):(qG R).set 0 (i64 n)=qG { R with pc:=n }:=rfl
theorem ziL{i:Nat}(h:i<8)(v:UInt8):(qG R).set (1+i) (u8 v)=qG { R with regs:=upd R.regs i v }:=by
 unfold qG;rw[UA,Kx];have:=zdL (B:=seg 8 (fun i=>s32 (R.deps i))++([s32 R.ctl,i64 R.many]++(zdz R.ev++(seg 24 (fun i=>s32 (R.data i))++(seg 24 (fun i=>s32 (R.ctrl i))++seg 24 (fun i=>s32 (R.att i))))))) (f:=fun i=>u8 (R.regs i)) (fun j=>u8 (upd R.regs i v j)) h (fun j a=>by rw[zak _ _ a]);rw[qM] at this;rw[this]
theorem ziM{i:Nat}(h:i<8)(v:Nat):(qG R).set (9+i) (s32 v)=qG { R with deps:=upd R.deps i v }:=by
 unfold qG;rw[show 9+i=(8+i)+1 by omega,Kx,jq (zy _ _)];have:=zdL (B:=[s32 R.ctl,i64 R.many]++(zdz R.ev++(seg 24 (fun i=>s32 (R.data i))++(seg 24 (fun i=>s32 (R.ctrl i))++seg 24 (fun i=>s32 (R.att i)))))) (f:=fun i=>s32 (R.deps i)) (fun j=>s32 (upd R.deps i v j)) h (fun j a=>by rw[zak _ _ a]);rw[qM] at this;rw[this]
theorem zhM(v:Nat):(qG R).set 18 (i64 v)=qG { R with many:=v }:=by
 unfold qG;show i64 R.pc::(seg 8 (fun i=>u8 (R.regs i))++_).set (8+(8+1)) (i64 v)=_;rw[jq (zy _ _),jq (zy _ _)];rfl
theorem zhN{i:Nat}(h:i<24)(v:Nat):(qG R).set (187+i) (s32 v)=qG { R with data:=upd R.data i v }:=by
 unfold qG;rw[show 187+i=(8+(8+(2+(168+i))))+1 by omega,Kx,jq (zy _ _),jq (zy _ _),jq (A:=[s32 R.ctl,i64 R.many]) (n:=2) rfl,jq (zb9 _)];have:=zdL (B:=seg 24 (fun i=>s32 (R.ctrl i))++seg 24 (fun i=>s32 (R.att i))) (f:=fun i=>s32 (R.data i)) (fun j=>s32 (upd R.data i v j)) h (fun j a=>by rw[zak _ _ a]);rw[qM] at this;rw[this]
theorem zhO{i:Nat}(h:i<24)(v:Nat):(qG R).set (211+i) (s32 v)=qG { R with ctrl:=upd R.ctrl i v }:=by
 unfold qG;rw[show 211+i=(8+(8+(2+(168+(24+i)))))+1 by omega,Kx,jq (zy _ _),jq (zy _ _),jq (A:=[s32 R.ctl,i64 R.many]) (n:=2) rfl,jq (zb9 _),jq (zy _ _)];have:=zdL (B:=seg 24 (fun i=>s32 (R.att i))) (f:=fun i=>s32 (R.ctrl i)) (fun j=>s32 (upd R.ctrl i v j)) h (fun j a=>by rw[zak _ _ a]);rw[qM] at this;rw[this]
theorem zqa{α:Type}(f:Nat->α){n i:Nat}(h:i<n)(v:α):((List.range n).map f).set i v=(List.range n).map (upd f i v):=by
 apply KI;intro j;by_cases a:j<n
 ·rw[KM,Kc a];by_cases e:i=j
  ·subst e;rw[Jz (by simpa using h)];show _=some (upd f i v i);rw[qM]
  ·rw[JQ e,KM,Kc a];show some (f j)=some (upd f i v j);rw[zak _ _ (fun h=>e h.symm)]
 ·rw[JE (by simp;omega),JE (by simp;omega)]
theorem zkg{i:Nat}(h:i<24)(v:Ev):(qG R).take (19+i*7)++evE.enc v++(qG R).drop (19+i*7+7)=qG { R with ev:=upd R.ev i v }:=by
 obtain⟨A,b,e⟩:∃A:List Value,A.length=19/\∀ev,qG { R with ev:=ev }=A++(zdz ev++(seg 24 (fun i=>s32 (R.data i))++(seg 24 (fun i=>s32 (R.ctrl i))++seg 24 (fun i=>s32 (R.att i))))) :=
  ⟨i64 R.pc::(seg 8 (fun i=>u8 (R.regs i))++(seg 8 (fun i=>s32 (R.deps i))++[s32 R.ctl,i64 R.many])),by
   simp only[Qj,lap,zy,QE],fun ev=>by
   unfold qG;simp only[Qc,KH,QJ]⟩
 have a:qG R=_:=e R.ev;rw[a,e,<- b,List.take_length_add_append,Us,Jh];have:=zjr (E:=evE) ((List.range 24).map R.ev) (i:=i) (by simpa using h) v (seg 24 (fun i=>s32 (R.data i))++(seg 24 (fun i=>s32 (R.ctrl i))++seg 24 (fun i=>s32 (R.att i))));rw[zqa _ h] at this;unfold zdz;rw[KH,KH,<- this,KH];rfl
end
theorem zoS(f:Nat->Ev){i:Nat}(h:i<24):((zdz f).drop (i*7)).take 7=evE.enc (f i):=by
 unfold zdz;have:=zcH (E:=evE) ((List.range 24).map f) i (by simpa using h);rw[Qh,Kt] at this;exact this
theorem zlj{R:RunD}{w:Wd}{b:Nat}{t:TypeId}(f:w.heap[b]?=some (.cells (qG R).toArray t (0,0))):zF w ⟨b,19,none⟩ (zdz R.ev):=by
 have h:=za f;unfold qG at h;have a:=zI (n:=19) (m:=168) h;have e:((i64 R.pc::(seg 8 (fun i=>u8 (R.regs i))++(seg 8 (fun i=>s32 (R.deps i))++([s32 R.ctl,i64 R.many]++(zdz R.ev++(seg 24 (fun i=>s32 (R.data i))++(seg 24 (fun i=>s32 (R.ctrl i))++seg 24 (fun i=>s32 (R.att i))))))))).drop 19).take 168=zdz R.ev:=by
  show((seg 8 (fun i=>u8 (R.regs i))++_).drop (8+(8+2))).take 168=_;have d:∀{A B:List Value} {n i:Nat},A.length=n->(A++B).drop (n+i)=B.drop i:=fun{A B n i} h=>by rw[<- h,Jh]
  rw[d (zy _ _),d (zy _ _)];show(zdz R.ev++_).take 168=_;rw[QM (zb9 _)]
 rw[<- e];exact a
theorem w8N(u:Nat):IntKind.u8.wrap (u:Int)=((UInt8.ofNat u).toNat:Int):=by
 rw[KB];unfold IntKind.wrap;simp only[IntKind.bits,IntKind.signed,QZ,Kn,UZ];omega
abbrev zag (X:Wd) (b:Nat) (R:RunD):Prop:=X.heap[b]?=some (.cells (qG R).toArray 209 (0,0))
abbrev AtR (b:Nat):Value:=At0 b
section
variable{R:RunD}{b:Nat}{w:Wd}
theorem zkP{k l v m:UInt8}{d:Nat}(f:zag w b R)(hm:R.many<24):Calls PG 330 #[AtR b,u8 k,u8 l,u8 v,u8 m,s32 d] w fun e w' =>
  e = .returned (i64 R.many)/\zag w' b (zbu R k l v m d)/\w.grownBy w' (some b)/\w'.heap.size=w.heap.size:=by
 refine zC 58 [AtR b,u8 k,u8 l,u8 v,u8 m,s32 d] Tryz.func330 ?_;refine⟨_,zc (za f) (i:=18) (za6 R),?_⟩;refine DrawE.ord [17] [0,1,2,3,4,5,6,7,8,9,10,11,12,13,14,15,16,17] (by kernel_rfl) ?_;refine⟨_,zc (za (hdr f)) (i:=0) rfl,?_⟩;refine⟨_,w8N _,?_⟩;refine⟨_,w8N _,?_⟩;obtain⟨ev,hev⟩:∃ev:Ev,ev=⟨0,k,l,v,m,UInt8.ofNat R.pc,UInt8.ofNat R.many⟩:=⟨_,rfl⟩;refine⟨evE.enc ev,by rw[hev];rfl,?_⟩;refine⟨R.many,rfl,hm,?_⟩;refine jp k80 (hdr f) (o:=0+19+R.many*7) (v := .agg (evE.enc ev).toArray) rfl (by
  show 0+19+R.many*7+7<=(qG R).length;rw[zam];omega) rfl fun Y fY gY sY=>?_
 have fY:zag Y b { R with ev:=upd R.ev R.many ev }:=by
  show Y.heap[b]?=some (.cells (qG { R with ev:=upd R.ev R.many ev }).toArray 209 (0,0));rw[<- zkg R hm ev,fY,UH];rfl
 refine⟨R.many,rfl,hm,?_⟩;refine zn zrY fY (o:=0+187+R.many*1) (v:=s32 d) rfl rfl (by rw[zam];omega) rfl fun Z fZ gZ sZ=>?_;rw[UH,UO,zhN _ hm] at fZ;refine DrawE.ord [9] [0,1,2,3,4,5,6,7,8,9] (by kernel_rfl) ?_;refine⟨_,zc (za (hdr fZ)) (i:=17) (zpN _),?_⟩;refine⟨R.many,rfl,hm,?_⟩;refine zn zrY (hdr fZ) (o:=0+211+R.many*1) (v:=s32 R.ctl) rfl rfl (by rw[zam];omega) rfl fun U fU gU sU=>?_;rw[UH,UO,zhO _ hm] at fU;refine⟨_,zc (za fU) (i:=18) (za6 _),?_⟩;refine⟨((R.many+1:Nat):Int),(zg (by show _<=((R.many:Nat):Int)+1/\((R.many:Nat):Int)+1<=_;omega)).trans rfl,?_⟩;refine zn k3 fU (o:=0+18) (v:=i64 (R.many+1:Nat)) rfl rfl (by rw[zam];decide) rfl fun V fV gV sV=>?_;rw[UH,zhM] at fV;have gd:w.grownBy w.drew (some b):=⟨rfl,rfl,rfl,UN _,fun _ _ _=>rfl⟩;have gd2:Z.grownBy Z.drew (some b):=⟨rfl,rfl,rfl,UN _,fun _ _ _=>rfl⟩;refine⟨rfl,?_,zf (zf (zf (zf gd gY) gZ) (zf gd2 gU)) gV,?_⟩
 ·unfold zbu;rw[<- hev];exact fV
 ·rw[sV,sU];show Z.heap.size=_;rw[sZ,sY];rfl
theorem zsZ{d v:UInt8}{s:Nat}(f:zag w b R)(hd:d.toNat<8):Calls PG 331 #[AtR b,u8 d,u8 v,s32 s] w fun e w' =>
  e = .returned (.tuple #[])/\zag w' b (znK R d v s)/\w.grownBy w' (some b)/\w'.heap.size=w.heap.size:=by
 refine zC 20 [AtR b,u8 d,u8 v,s32 s] Tryz.func331 ?_;refine⟨d.toNat,rfl,hd,?_⟩;refine zn k5 f (o:=0+1+d.toNat*1) (v:=u8 v) rfl rfl (by rw[zam];omega) rfl fun Y fY gY sY=>?_;rw[UH,UO,ziL _ hd] at fY;refine⟨d.toNat,rfl,hd,?_⟩;refine zn zrY fY (o:=0+9+d.toNat*1) (v:=s32 s) rfl rfl (by rw[zam];omega) rfl fun Z fZ gZ sZ=>?_;rw[UH,UO,ziM _ hd] at fZ;exact⟨rfl,fZ,zf gY gZ,sZ.trans sY⟩
theorem zpB{r:Bool}{n:UInt8}(f:zag w b R)(hn:r=true->n.toNat<8):Calls PG 332 #[AtR b,.agg #[.bool r,u8 n]] w fun e w' =>
  e = .returned (.tuple #[u8 (zaG r n R).1,s32 (zaG r n R).2])/\Bw w w':=by
 refine zC 24 [AtR b,.agg #[.bool r,u8 n]] Tryz.func332 ?_;have c:=zw w (.cells #[.bool r,u8 n] 66);have d:Bw w (w.alloc (.cells #[.bool r,u8 n] 66)):=zba w _;refine⟨_,zc (za c) (i:=0) rfl,?_⟩;refine biE (fun h=>?_) fun h=>?_
 ·have a:=hn h;have g:=zb d f;refine DrawE.ord [] [0,1,2,3,4,5,6,7,8,9,10,11,12,13,14,15] (by kernel_rfl) ?_;refine⟨_,zc (za (hdr c)) (i:=1) rfl,?_⟩;refine⟨n.toNat,rfl,a,?_⟩;refine⟨_,by rw[UO,Us];exact zc (za (hdr g)) (zpL R a),?_⟩;refine⟨_,zc (za (hdr c)) (i:=1) rfl,?_⟩;refine⟨n.toNat,rfl,a,?_⟩;refine⟨_,by rw[UO,Us];exact zc (za (hdr g)) (zpM R a),?_⟩;refine⟨?_,d.trans ((UR _ _).drew)⟩;unfold zaG;rw[Gd h];rfl
 ·refine⟨_,zc (za c) (i:=1) rfl,?_⟩;refine⟨?_,d⟩;unfold zaG;rw[Gc (by rw[h];exact Ko)];rfl
end
def zdr (vb fb:Nat):UInt8->Option Value:=fun q =>
 if q=5 then some (.func (.func 153) #[] #[At0 vb]) else if q=4 then some (.func (.func 152) #[] #[At0 vb]) else if q=3 then some (.func (.func 150) #[] #[At0 vb]) else
 if q=2 then some (.func (.func 149) #[] #[At0 fb]) else if q=1 then some (.func (.func 148) #[] #[At0 fb]) else if q=0 then some (.func (.func 147) #[] #[]) else none
theorem zdw{w X Y:Wd}{r b:Nat}(h:w.grownBy X (some r))(k:X.grownBy Y (some b))(hb:w.heap.size<=b):w.grownBy Y (some r) :=
 ⟨k.os.trans h.os,k.tape.trans h.tape,k.output.trans h.output,UC h.size k.size,fun i a f=>(k.block i (nL a h.size) (by intro e;cases e;omega)).trans (h.block i a f)⟩
theorem zjo{w X Y:Wd}{r:Nat}(h:w.grownBy X (some r))(k:Bw X Y):w.grownBy Y (some r):=zf h (zi k)
theorem jm{w X:Wd}{r b n:Nat}{es:Array MapEntry}{cs:Array Value}{t:TypeId}(hr:w.heap[r]?=some (.map es n))(h:w.grownBy X (some r))(hb:w.heap[b]?=some (.cells cs t (0,0))):X.heap[b]?=some (.cells cs t (0,0)) :=
 (h.block b (hlt hb) fun e=>by cases e;rw[hr] at hb;cases hb).trans hb
structure JudV (X:Wd) (B jb rk rn vb fb:Nat) (F:FinV) (g:PlK->Option Value):Prop where
 j:X.heap[jb]?=some (.cells #[.map (some rk),.map (some rn)] 235 (0,0))
 v:X.heap[vb]?=some (.cells #[At0 jb] 165 (0,0))
 f:X.heap[fb]?=some (.cells (zA.enc F).toArray 52 (0,0))
 kn:MapF u8 X rk (zdr vb fb)
 mn:MapF plV X rn g
 ok:KnowOk B F X g
 ne:rk≠rn
 hB:B<=rn/\B<=X.heap.size
section
variable{w X:Wd}{B jb rk rn vb fb:Nat}{F:FinV}{g:PlK->Option Value}
theorem JudV.rmap(h:JudV w B jb rk rn vb fb F g):∃(es:Array MapEntry) (n:Nat),w.heap[rn]?=some (.map es n):=by
 obtain⟨es,n,h,_⟩:=h.mn;exact⟨_,n,h⟩
theorem JudV.below(h:JudV w B jb rk rn vb fb F g)(hb:Bw w X):JudV X B jb rk rn vb fb F g :=
 ⟨zb hb h.j,zb hb h.v,zb hb h.f,h.kn.below hb,h.mn.below hb,h.ok.by fun k b t _ a=>hb.block k (hlt a),h.ne,h.hB.1,UC h.hB.2 hb.size⟩
theorem JudV.grown{g':PlK->Option Value}(h:JudV w B jb rk rn vb fb F g)(hg:w.grownBy X (some rn))(hm:MapF plV X rn g')(hk:KnowOk B F X g'):JudV X B jb rk rn vb fb F g':=by
 obtain⟨i,n,a⟩:=h.rmap;refine⟨jm a hg h.j,jm a hg h.v,jm a hg h.f,h.kn.same (hg.block rk ?_ fun e=>h.ne (by cases e;rfl)),hm,hk,h.ne,h.hB.1,UC h.hB.2 hg.size⟩;obtain⟨_,_,b,_⟩:=h.kn;exact hlt b
theorem JudV.other{b:Nat}(h:JudV w B jb rk rn vb fb F g)(hg:w.grownBy X (some b))(h1:jb≠b/\vb≠b/\fb≠b/\rk≠b/\rn≠b)(hb:B<=b):JudV X B jb rk rn vb fb F g:=by
 have s:∀{k:Nat} {o:Obj},k≠b->w.heap[k]?=some o->X.heap[k]?=w.heap[k]?:=fun{k o} i n=>hg.block k (hlt n) fun e=>i (by cases e;rfl);obtain⟨_,_,a,_⟩:=h.kn;obtain⟨_,_,l,_⟩:=h.mn;exact⟨(s h1.1 h.j).trans h.j,(s h1.2.1 h.v).trans h.v,(s h1.2.2.1 h.f).trans h.f,h.kn.same (s h1.2.2.2.1 a),h.mn.same (s h1.2.2.2.2 l),h.ok.by fun k p t hB m=>s (by omega) m,h.ne,h.hB.1,UC h.hB.2 hg.size⟩
theorem JudV.kids(h:JudV w B jb rk rn vb fb F g)(hg:w.grownBy X (some rn)){q:OA}{l:List Cnd}(hk:KidsG B w q l):KidsG B X q l:=hk.by fun k b t hB a=>hg.block k (hlt a) fun e=>by cases e;have:=h.hB;omega
def JudS (B jb rk rn vb fb:Nat) (F:FinV) (w X:Wd):Prop:=(∃g,JudV X B jb rk rn vb fb F g)/\w.grownBy X (some rn)
theorem JudS.of_below(h:JudV w B jb rk rn vb fb F g)(hb:Bw w X):JudS B jb rk rn vb fb F w X:=⟨⟨g,h.below hb⟩,zi hb⟩
end
abbrev qT (F:FinV):Value := .agg (zA.enc F).toArray
abbrev zaC (c:Cnd) (q:OA) (cap:Nat):Value := .agg (zu c q cap).toArray
section
variable{w:Wd}{c:Cnd}{q:OA}{cap:Nat}{d:Nat}{B jb rk rn vb fb:Nat}{F:FinV}{g:PlK->Option Value}
theorem zdp{a b:Nat}:decide ((a:Int)<(b:Int))=decide (a<b):=Qw.2 Int.ofNat_lt
theorem za2{x y:UInt8}:decide (((x.toNat:Nat):Int)=((y.toNat:Nat):Int))=decide (x=y):=Qw.2 qm
theorem zaz{X:Wd}{l:List Cnd}(hJ:JudV w B jb rk rn vb fb F g)(hb:Bw w X)(hk:KidsG B w q l):KidsG B X q l:=hk.by fun k b t _ a=>hb.block k (hlt a)
theorem zox:CB 147 #[zaC c q cap,i64 d] w (.bool true):=by
 refine zC 5 [zaC c q cap,i64 d] Tryz.func147 ?_;exact⟨rfl,(zba w _)⟩
theorem zib{t r:Nat}(ht:t<4)(hr:r<8):(zA.enc F)[t*8+r]?=some (u8 (F.reg t r)):=by
 show(F.l.map u8)[t*8+r]?=_;have:=F.len;rw[KM,gE (by omega),FinV.reg,gDe,gE (by omega)];rfl
theorem zic{i:Nat}(hi:i<6):(zA.enc F)[32+i]?=some (u8 (F.mem i)):=by
 show(F.l.map u8)[32+i]?=_;have:=F.len;rw[KM,gE (by omega),FinV.mem,gDe,gE (by omega)];rfl
theorem zow(hf:w.heap[fb]?=some (.cells (zA.enc F).toArray 52 (0,0))):Calls PG 148 #[zaC c q cap,i64 d,At0 fb] w fun e w' =>
  e = .returned (.bool (decide (c.thread.toNat<4)&&(decide (c.n.toNat<8)&&decide (F.reg c.thread.toNat c.n.toNat=c.val))))/\Bw w w':=by
 refine zC 27 [zaC c q cap,i64 d,At0 fb] Tryz.func148 ?_;have j:=zw w (.cells (zu c q cap).toArray 27);have k:Bw w (w.alloc (.cells (zu c q cap).toArray 27)).drew:=((zba w _)).drew;have hf:=zb k hf;refine DrawE.ord [] [0,1,2,3,4,5,6,7,8,9,10,11,12,13,14,15,16,17,18,19,20,21] (by kernel_rfl) ⟨_,zc (za (hdr j)) (i:=1) rfl,biE (fun h=>?_) fun h=>?_⟩
 ·have f:c.thread.toNat<4:=dT ((zdp (b:=4)).symm.trans h);refine⟨_,zc (za (hdr j)) (i:=2) rfl,biE (fun h=>?_) fun h=>?_⟩
  ·have a:c.n.toNat<8:=dT ((zdp (b:=8)).symm.trans h);refine⟨_,zc (za (hdr j)) (i:=1) rfl,_,zc (za (hdr j)) (i:=2) rfl,c.thread.toNat,rfl,f,c.n.toNat,rfl,a,?_⟩;refine⟨_,by
    have:=zc (za hf) (zib (F:=F) f a);rw[UO,Us];exact this,?_⟩
   refine⟨_,zc (za (hdr j)) (i:=3) rfl,?_,k⟩;rw[Uh f,Uh a,<- za2];rfl
  ·have a:¬c.n.toNat<8:=dF ((zdp (b:=8)).symm.trans h);refine⟨?_,k⟩;rw[QX a,QZ,QY];rfl
 ·have f:¬c.thread.toNat<4:=dF ((zdp (b:=4)).symm.trans h);refine brF ⟨?_,k⟩;rw[QX f,QZ];rfl
theorem zov(hf:w.heap[fb]?=some (.cells (zA.enc F).toArray 52 (0,0))):Calls PG 149 #[zaC c q cap,i64 d,At0 fb] w fun e w' =>
  e = .returned (.bool (decide (c.n.toNat<6)&&decide (F.mem c.n.toNat=c.val)))/\Bw w w':=by
 refine zC 19 [zaC c q cap,i64 d,At0 fb] Tryz.func149 ?_;have f:=zw w (.cells (zu c q cap).toArray 27);have j:Bw w (w.alloc (.cells (zu c q cap).toArray 27)).drew:=((zba w _)).drew;have hf:=zb j hf;refine DrawE.ord [] [0,1,2,3,4,5,6,7,8,9,10,11,12,13] (by kernel_rfl) ⟨_,zc (za (hdr f)) (i:=2) rfl,biE (fun h=>?_) fun h=>?_⟩
 ·have a:c.n.toNat<6:=dT ((zdp (b:=6)).symm.trans h);refine⟨_,zc (za (hdr f)) (i:=2) rfl,c.n.toNat,rfl,a,?_⟩;refine⟨_,by
   have:=zc (za hf) (zic (F:=F) a);rw[UO,Us];exact this,?_⟩
  refine⟨_,zc (za (hdr f)) (i:=3) rfl,?_,j⟩;rw[Uh a,<- za2];rfl
 ·have a:¬c.n.toNat<6:=dF ((zdp (b:=6)).symm.trans h);refine⟨?_,j⟩;rw[QX a,QZ];rfl
def zgI (B jb rk rn vb fb:Nat) (F:FinV) (d:Nat):Prop:=∀(X:Wd) (g:PlK->Option Value) (q:OA) (l:List Cnd) (cap:Nat),JudV X B jb rk rn vb fb F g->KidsG B X q l ->
 Calls PG 151 #[At0 jb,.slice q l.length cap,i64 d] X fun e Y=>e = .returned (zk5 F d l)/\JudS B jb rk rn vb fb F X Y
theorem zou(hd:d<=20)(hJ:JudV w B jb rk rn vb fb F g)(hk:KidsG B w q c.kids)(hK:zgI B jb rk rn vb fb F (d+1)):Calls PG 150 #[zaC c q cap,i64 d,At0 vb] w fun e w' =>
  e = .returned (.bool (c.kids.all (qe F (20-d))))/\JudS B jb rk rn vb fb F w w':=by
 refine zC 13 [zaC c q cap,i64 d,At0 vb] Tryz.func150 ?_;have k:=zw w (.cells (zu c q cap).toArray 27);have b:Bw w (w.alloc (.cells (zu c q cap).toArray 27)):=zba w _;have a:=hJ.below b;refine⟨_,zc (za a.v) (i:=0) rfl,_,zc (za k) (i:=4) rfl,((d+1:Nat):Int),(zg (by omega)).trans rfl,cmo (hK _ g q c.kids cap a (zaz hJ b hk)) ?_⟩;rintro e Y ⟨rfl,⟨f,h⟩,j⟩;refine⟨?_,⟨f,h⟩,zf (zi b) j⟩;rw[show 21-(d+1)=20-d by omega];rfl
theorem zot(hd:d<=20)(hJ:JudV w B jb rk rn vb fb F g)(hk:KidsG B w q c.kids)(hK:zgI B jb rk rn vb fb F (d+1)):Calls PG 152 #[zaC c q cap,i64 d,At0 vb] w fun e w' =>
  e = .returned (.bool (c.kids.any (qe F (20-d))))/\JudS B jb rk rn vb fb F w w':=by
 refine zC 13 [zaC c q cap,i64 d,At0 vb] Tryz.func152 ?_;have k:=zw w (.cells (zu c q cap).toArray 27);have b:Bw w (w.alloc (.cells (zu c q cap).toArray 27)):=zba w _;have a:=hJ.below b;refine⟨_,zc (za a.v) (i:=0) rfl,_,zc (za k) (i:=4) rfl,((d+1:Nat):Int),(zg (by omega)).trans rfl,cmo (hK _ g q c.kids cap a (zaz hJ b hk)) ?_⟩;rintro e Y ⟨rfl,⟨f,h⟩,j⟩;refine⟨?_,⟨f,h⟩,zf (zi b) j⟩;rw[show 21-(d+1)=20-d by omega];rfl
theorem zos(hd:d<=20)(hJ:JudV w B jb rk rn vb fb F g)(hk:KidsG B w q c.kids)(hK:zgI B jb rk rn vb fb F (d+1)):Calls PG 153 #[zaC c q cap,i64 d,At0 vb] w fun e w' =>
  e = .returned (.bool (!c.kids.all (qe F (20-d))))/\JudS B jb rk rn vb fb F w w':=by
 refine zC 14 [zaC c q cap,i64 d,At0 vb] Tryz.func153 ?_;have k:=zw w (.cells (zu c q cap).toArray 27);have b:Bw w (w.alloc (.cells (zu c q cap).toArray 27)):=zba w _;have a:=hJ.below b;refine⟨_,zc (za a.v) (i:=0) rfl,_,zc (za k) (i:=4) rfl,((d+1:Nat):Int),(zg (by omega)).trans rfl,cmo (hK _ g q c.kids cap a (zaz hJ b hk)) ?_⟩;rintro e Y ⟨rfl,⟨f,h⟩,j⟩;refine⟨?_,⟨f,h⟩,zf (zi b) j⟩;rw[show 21-(d+1)=20-d by omega];rfl
end
section
variable{w:Wd}{c:Cnd}{q:OA}{cap:Nat}{d:Nat}{B jb rk rn vb fb:Nat}{F:FinV}{g:PlK->Option Value}
theorem zle{T:TypeId}{v:Value}(h:(Tryz.prog.info? T).bind (fun i=>i.zero)=some v)(w:Wd):(zeroValue T).run PG w = .ok v w:=by
 cases hi:Tryz.prog.info? T with
 | none=>rw [hi] at h;cases h
 | some inf =>
  rw[hi] at h;have h:inf.zero=some v:=h;simp[zeroValue,typeInfo,hi,h]
theorem zmJ{w:Wd}(h:MapF u8 w rk (zdr vb fb))(k:UInt8):(Instr.lookup 233 (.map (some rk)) (u8 k) true).run PG w = .ok (.tuple #[(zdr vb fb k).getD .nilFunc,.bool (zdr vb fb k).isSome]) w :=
 zkD zfH Tryz.underlying233 (z := .nilFunc) (zle (by kernel_rfl)) h k true
theorem zlI(hd:d<=20)(hJ:JudV w B jb rk rn vb fb F g)(hk:KidsG B w q c.kids)(hK:zgI B jb rk rn vb fb F (d+1)):Calls PG 81 #[At0 jb,zaC c q cap,i64 d] w fun e w' =>
  e = .returned (.bool (qe F (21-d) c))/\JudS B jb rk rn vb fb F w w':=by
 refine zC 30 [At0 jb,zaC c q cap,i64 d] Tryz.func81 ?_;obtain⟨X,hX⟩:=nm ((w.alloc (.cells (zu c q cap).toArray 27)).drew);have n:X.heap[w.heap.size]?=some (.cells (zu c q cap).toArray 27 (0,0)):=by rw[hX];exact zw w _
 have hb:Bw w X:=by rw[hX];exact((zba w _)).drew
 have a:=hJ.below hb;have o:=zaz hJ hb hk;have y:(w.alloc (.cells (Value.agg (zu c q cap).toArray).cells 27)).drew=X:=hX.symm;have x:qe F (21-d) c=qe F (20-d+1) c:=by rw[show 21-d=20-d+1 by omega]
 have k:∀{b:Bool} {Y:Wd},qe F (20-d+1) c=b->JudS B jb rk rn vb fb F X Y->Ending.returned (.bool b)=Ending.returned (.bool (qe F (21-d) c))/\JudS B jb rk rn vb fb F w Y:=fun{b Y} h l=>⟨by rw[x,h],l.1,zf (zi hb) l.2⟩;have m:decide ((d:Int)<=20)=true:=Uh (by omega);refine DrawE.ord [] [0,1,2,3,4,5,6,7,8,9,10,11] (by kernel_rfl) ?_;rw[y];refine⟨_,zc (za a.j) (i:=0) rfl,_,zc (za n) (i:=0) rfl,_,fun w2 z=>zmJ (a.kn.below z) c.kind,?_⟩;by_cases s:c.kind=5
 ·rw[s];refine brT (brE m ⟨zu c q cap,rfl,za n,hlt n,cmo (zos hd a o hK) ?_⟩);rintro e Y ⟨rfl,l⟩;exact k (by unfold qe;rw[s];rfl) l
 by_cases t:c.kind=4
 ·rw[t];refine brT (brE m ⟨zu c q cap,rfl,za n,hlt n,cmo (zot hd a o hK) ?_⟩);rintro e Y ⟨rfl,l⟩;exact k (by unfold qe;rw[t];rfl) l
 by_cases r:c.kind=3
 ·rw[r];refine brT (brE m ⟨zu c q cap,rfl,za n,hlt n,cmo (zou hd a o hK) ?_⟩);rintro e Y ⟨rfl,l⟩;exact k (by unfold qe;rw[r];rfl) l
 by_cases p:c.kind=2
 ·rw[p];refine brT (brE m ⟨zu c q cap,rfl,za n,hlt n,cmo (zov a.f) ?_⟩);rintro e Y ⟨rfl,l⟩;exact k (by unfold qe;rw[p];rfl) (.of_below a l)
 by_cases u:c.kind=1
 ·rw[u];refine brT (brE m ⟨zu c q cap,rfl,za n,hlt n,cmo (zow a.f) ?_⟩);rintro e Y ⟨rfl,l⟩;exact k (by unfold qe;rw[u];rfl) (.of_below a l)
 by_cases v:c.kind=0
 ·rw[v];refine brT (brE m ⟨zu c q cap,rfl,za n,hlt n,cmo zox ?_⟩);rintro e Y ⟨rfl,l⟩;exact k (by unfold qe;rw[v];rfl) (.of_below a l)
 ·have e:zdr vb fb c.kind=none:=by unfold zdr;rw[Gc s,Gc t,Gc r,Gc p,Gc u,Gc v]
  rw[e];exact brF (brF (k (by unfold qe;rw[Gc v,Gc u,Gc p,Gc r,Gc t,Gc s]) (.of_below a (UR _ _))))
theorem zmI{w:Wd}(hm:MapF plV w rn g)(hk:KnowOk B F w g){k:PlK}(hp:PlainAt w k):(Instr.lookup 232 (.map (some rn)) (plV k) true).run PG w = .ok (.tuple #[(g k).getD (.agg #[.bool false,.bool false]),.bool (g k).isSome]) w :=
 zqc (zs2 w) Tryz.underlying232 (z := .agg #[.bool false,.bool false]) (zle (by kernel_rfl)) hm k (fun q v h=>hk.at h) hp true
theorem PlainAt.below{w w2:Wd}{k:PlK}(h:PlainAt w k)(hb:Bw w w2):PlainAt w2 k:=by
 obtain⟨a,t,h⟩:=h;exact⟨a,t,zb hb h⟩
end
section
variable{w:Wd}{q:OA}{cap:Nat}{d:Nat}{B jb rk rn vb fb:Nat}{F:FinV}
abbrev ziu (s a:Bool):List Value:=[.bool s,.bool a]
structure KidI (w:Wd) (B jb rk rn vb fb:Nat) (F:FinV) (d:Nat) (k:PlK) (l:List Cnd) (b8 i:Nat) (X:Wd):Prop where
 J:∃g,JudV X B jb rk rn vb fb F g
 gr:w.grownBy X (some rn)
 f6:X.heap[w.heap.size]?=some (.cells (ziu false false).toArray 237 (0,0))
 f7:X.heap[w.heap.size+1]?=some (.cells (plV k).cells 300 (0,0))
 f8:X.heap[b8]?=some (.cells (ziu ((l.take i).any (qe F (21-d))) ((l.take i).all (qe F (21-d)))).toArray 237 (0,0))
theorem JudV.lt{X:Wd}{g:PlK->Option Value}(h:JudV X B jb rk rn vb fb F g){b:Nat}(hb:X.heap.size<=b):jb≠b/\vb≠b/\fb≠b/\rk≠b/\rn≠b:=by
 obtain⟨_,_,a,_⟩:=h.kn;obtain⟨_,_,c,_⟩:=h.mn;have:=hlt h.j;have:=hlt h.v;have:=hlt h.f;have:=hlt a;have:=hlt c;omega
theorem zng{α:Type}{p:α->Bool}{l:List α}{i:Nat}(h:i<l.length):(l.take (i+1)).any p=((l.take i).any p||p l[i]):=by
 rw[tsg h,List.any_append];simp
theorem znh{α:Type}{p:α->Bool}{l:List α}{i:Nat}(h:i<l.length):(l.take (i+1)).all p=((l.take i).all p&&p l[i]):=by
 rw[tsg h,Qz];simp
theorem zhp(hd:d<=21)(hK:d<=20->zgI B jb rk rn vb fb F (d+1)):zgI B jb rk rn vb fb F d:=by
 intro w g q l cap hJ hk;refine qg 68 [At0 jb,.slice q l.length cap,i64 d] (.s .p (.s .p (.s .p (.c .p (.c .p (.s .p (.c .p (.c (.c .p (.b (.l (.s .p (.s .p (.s (.b (.c .p (.c .p (.s .p .p)))) .p)))))) .p)))))))) Tryz.func151 ?_;obtain⟨L,hL⟩:=nm (w.heap.size);have bk:=hk.inv.1;have u:=zw w (.cells #[.bool false,.bool false] 237);have au:Bw w (w.alloc (.cells #[.bool false,.bool false] 237)):=zba w _;refine biE (fun h=>?_) fun h=>?_
 ·have h0:l.length=0:=by have:=dT h;omega
  have hl:l=[]:=Jd h0;subst hl;exact⟨_,rfl,zo (v := .agg #[.bool false,.bool true]) zor u rfl rfl rfl ⟨ziu false true,rfl,za (zk u),rfl,.of_below hJ (zh au (UN _) _)⟩⟩
 have h0:l.length≠0:=by have:=dF h;omega
 refine biE (fun h=>?_) fun h=>?_
 ·have a3:d=21:=by have:=dT h;omega
  subst a3;refine⟨_,rfl,zo (v := .agg #[.bool false,.bool false]) zor u rfl rfl rfl ⟨ziu false false,rfl,za (zk u),?_,.of_below hJ (zh au (UN _) _)⟩⟩;have e1:l.any (qe F 0)=false:=by rw[KG];intro a _ h;cases h
  have e2:l.all (qe F 0)=false:=by
   cases l with
   | nil=>exact Ge rfl h0
   | cons a r=>rfl
  show _=Ending.returned (.agg #[.bool (l.any (qe F 0)),.bool (l.all (qe F 0))]);rw[e1,e2];rfl
 have ap:d<=20:=by have:=dF h;omega
 have hK:=hK ap;clear h;obtain⟨b,o,rfl,a9,ba,bl⟩:=hk.plain h0;have bm:b<w.heap.size:=nL a9 hJ.hB.2;refine⟨Unit,fun _=>⟨[(0,At0 jb),(1,.slice (some ⟨b,o,none⟩) l.length cap),(2,i64 d),(6,At0 L),(7,At0 (L+1))],[]⟩,
  fun _ X=>Bw w X/\X.heap[w.heap.size]?=some (.cells (ziu false false).toArray 237 (0,0))/\X.heap[w.heap.size+1]?=some (.cells (plV (b,o,l.length,d)).cells 300 (0,0)),?_,?_⟩
 ·refine⟨0,rfl,by omega,?_⟩;refine⟨_,rfl,?_⟩;have f7:=zw (w.alloc (.cells #[.bool false,.bool false] 237)) (.cells #[.pointer none,.int .i64 0,.int .i64 0] 300);have e1:(w.alloc (.cells #[.bool false,.bool false] 237)).heap.size=w.heap.size+1:=wz _ _;refine zo (v:=plV (b,o,l.length,d)) zty f7 rfl rfl rfl ?_;have af:=zh (au.alloc (by omega) (.cells #[.pointer none,.int .i64 0,.int .i64 0] 300)) (g:=(w.alloc (.cells #[.bool false,.bool false] 237)).heap.size) (by omega) (plV (b,o,l.length,d)).cells;refine⟨(),⟨.cons rfl (.cons rfl (.cons rfl (.cons (by rw[hL];rfl) (.cons (by rw[hL,<- e1];rfl) .nil)))),rfl⟩,af,?_,?_⟩
  ·exact(zq (by omega)).trans (z6 _ u)
  ·have:=zk (cs':=(plV (b,o,l.length,d)).cells) f7;rw[e1] at this ⊢;exact this
 rintro _ X ⟨an,u,f7⟩;have ab:=hJ.below an;have aw:=zaz hJ an hk;have a1:PlainAt X (b,o,l.length,d):=PlainAt.below (w:=w) ba an;refine⟨Nat,fun s=>⟨[(0,At0 jb),(1,.slice (some ⟨b,o,none⟩) l.length cap),(2,i64 d),(6,At0 L),(7,At0 (L+1)),(8,At0 s),(9,.bool (g (b,o,l.length,d)).isSome)],[]⟩,
  fun s Y=>s=X.heap.size/\Bw X Y/\Y.heap[s]?=some (.cells ((g (b,o,l.length,d)).getD (.agg #[.bool false,.bool false])).cells 237 (0,0)),?_,?_⟩
 ·refine DrawE.ord [10] [0,1,2,3,4,5,6,7,8,9,10,11] (by kernel_rfl) ⟨_,zc (za (hdr ab.j)) (i:=1) rfl,_,rfl,by rw[hL];exact za (hdr f7),by have:=hlt f7;rw[hL];exact this,?_⟩;refine⟨_,fun w2 af=>zmI (ab.below ((UR _ X).drew.trans (af.mono (UN _)))).mn (ab.below ((UR _ X).drew.trans (af.mono (UN _)))).ok (a1.below ((UR _ X).drew.trans (af.mono (UN _)))),?_⟩;have f:=zw X.drew (.cells #[.bool false,.bool false] 237);refine⟨(zba _ _),?_⟩;have hv:∃s a,(g (b,o,l.length,d)).getD (.agg #[.bool false,.bool false]) = .agg (ziu s a).toArray:=by
   cases e:g (b,o,l.length,d) with
   | none=>exact⟨false,false,rfl⟩
   | some v=>exact⟨_,_,ab.ok.use aw e⟩
  obtain⟨s,a,hv⟩:=hv;rw[hv];exact zo (v := .agg (ziu s a).toArray) zor f rfl rfl rfl ⟨X.heap.size,(cvE rfl rfl),rfl,zh ((UR _ X).drew.alloc (UN _) _) (UN _) _,zk f⟩
 rintro s Y ⟨hs,ag,f⟩;have ay:=zst an ag;have ao:=zb ag u;have a2:=zb ag f7;have a8:=ab.below ag;refine biE (fun h=>?_) fun h=>?_
 ·obtain⟨v,hv⟩:=Option.isSome_iff_exists.1 h;have bb:=ab.ok.use aw hv;rw[hv,bb] at f;refine⟨_,rfl,za f,hlt f,?_⟩;rw[hL];exact zo (v:=zk5 F d l) zor ao rfl rfl rfl ⟨_,rfl,za (zk ao),rfl,.of_below hJ (zh ay (UN _) _)⟩
 have hv:g (b,o,l.length,d)=none:=Option.not_isSome_iff_eq_none.1 (by rw[h];decide);rw[hv] at f;clear h;have f:Y.heap[s]?=some (.cells (ziu false false).toArray 237 (0,0)):=f;have bi:w.heap.size+2<=s:=by have:=hlt f7;omega
 have a6:=hJ.lt (b:=s) (by omega);have a0:B<=s:=by have:=hJ.hB;omega
 refine⟨Unit,fun _=>⟨[(0,At0 jb),(1,.slice (some ⟨b,o,none⟩) l.length cap),(2,i64 d),(6,At0 L),(7,At0 (L+1)),(8,At0 s)],[]⟩,
  fun _ Z=>KidI w B jb rk rn vb fb F d (b,o,l.length,d) l s 0 Z,?_,?_⟩
 ·refine zn k4 f (o:=0+1) (v := .bool true) rfl rfl (by decide) rfl fun Z fZ gZ sZ=>?_;have aj:∀{k:Nat} {ob:Obj},k≠s->Y.heap[k]?=some ob->Z.heap[k]?=some ob:=fun{k ob} hk ah=>(gZ.block k (hlt ah) fun e=>hk (by cases e;rfl)).trans ah;exact⟨(),(cvE rfl rfl),⟨g,a8.other gZ a6 a0⟩,zdw (zi ay) gZ (by omega),aj (by omega) ao,aj (by omega) a2,fZ⟩
 rintro _ Z hI;clear f a2 ao a8 ay ag u f7 ab aw a1;refine⟨Unit,fun _=>⟨[(0,At0 jb),(2,i64 d),(6,At0 L),(7,At0 (L+1)),(8,At0 s)],[]⟩,
  fun _ Z=>KidI w B jb rk rn vb fb F d (b,o,l.length,d) l s l.length Z,?_,?_⟩
 ·refine⟨Nat,fun k=>⟨[(0,At0 jb),(1,.slice (some ⟨b,o,none⟩) l.length cap),(2,i64 d),(6,At0 L),(7,At0 (L+1)),(8,At0 s),(38,.slice (some ⟨b,o,none⟩) l.length cap),(39,i64 l.length),(40,i64 k)],[]⟩,fun k Z=>k=0/\KidI w B jb rk rn vb fb F d (b,o,l.length,d) l s 0 Z,⟨0,(cvE rfl rfl),rfl,hI⟩,?_⟩;rintro _ Z ⟨rfl,hI⟩;refine⟨Nat,fun k=>⟨[(0,At0 jb),(1,.slice (some ⟨b,o,none⟩) l.length cap),(2,i64 d),(6,At0 L),(7,At0 (L+1)),(8,At0 s),(38,.slice (some ⟨b,o,none⟩) l.length cap),(39,i64 l.length),(40,i64 k)],[]⟩,
   fun k Z=>k<=l.length/\KidI w B jb rk rn vb fb F d (b,o,l.length,d) l s k Z,fun k=>l.length-k,0,(cvE rfl rfl),⟨UP _,hI⟩,?_⟩
  rintro k Z ⟨z,hI⟩;refine biE (fun h=>?_) fun h=>?_
  ·have z:k<l.length:=by have:=dT h;omega
   clear h;obtain⟨c,hc⟩:=nm (l[k]);refine⟨Nat×OA×Nat,fun x=>⟨[(0,At0 jb),(1,.slice (some ⟨b,o,none⟩) l.length cap),(2,i64 d),(6,At0 L),(7,At0 (L+1)),(8,At0 s),(38,.slice (some ⟨b,o,none⟩) l.length cap),(39,i64 l.length),(40,i64 k),(11,At0 x.1)],[]⟩,fun x U=>KidI w B jb rk rn vb fb F d (b,o,l.length,d) l s k U/\KidsG B U x.2.1 c.kids/\U.heap[x.1]?=some (.cells (zu c x.2.1 x.2.2).toArray 27 (0,0)),?_,?_⟩
   ·obtain⟨⟨g1,J1⟩,gr,u,f7,f⟩:=hI;have bh:=hJ.kids gr hk;obtain⟨b',o',ax,_,ai,a4⟩:=bh.plain h0
    cases ax
    obtain⟨qk,ck,az,al⟩:=a4 k z;rw[<- hc] at az al;have bc:b<Z.heap.size:=(by obtain⟨_,_,h⟩:=ai;exact hlt h);refine⟨k,rfl,z,zu c qk ck,rfl,az,bc,?_⟩;have a7:=zw Z (.cells #[.int .u8 0,.int .u8 0,.int .u8 0,.int .u8 0,.slice none 0 0] 27);refine zo (v:=zaC c qk ck) k27 a7 rfl rfl rfl ?_;have m:=zh ((UR Z.heap.size Z).alloc (UN _) (.cells #[.int .u8 0,.int .u8 0,.int .u8 0,.int .u8 0,.slice none 0 0] 27)) (UN Z.heap.size) (zaC c qk ck).cells;exact⟨(Z.heap.size,qk,ck),(cvE rfl rfl),⟨⟨g1,J1.below m⟩,zjo gr m,zb m u,zb m f7,zb m f⟩,zaz J1 m al,zk a7⟩
   rintro⟨bj,qk,ck⟩ U ⟨⟨⟨g1,J1⟩,gr,u,f7,f⟩,al,aq⟩;dsimp only at al aq;refine⟨Unit,fun _=>⟨[(0,At0 jb),(1,.slice (some ⟨b,o,none⟩) l.length cap),(2,i64 d),(6,At0 L),(7,At0 (L+1)),(8,At0 s),(38,.slice (some ⟨b,o,none⟩) l.length cap),(39,i64 l.length),(40,i64 k),(12,.bool (qe F (21-d) c))],[]⟩,fun _ V=>KidI w B jb rk rn vb fb F d (b,o,l.length,d) l s k V,?_,?_⟩
   ·refine⟨zu c qk ck,rfl,za aq,hlt aq,cmo (zlI ap J1 al hK) ?_⟩;rintro e V ⟨rfl,hV,gV⟩;obtain⟨es,n,ae⟩:=J1.rmap;exact⟨(),(cvE rfl rfl),hV,zf gr gV,jm ae gV u,jm ae gV f7,jm ae gV f⟩
   rintro _ V ⟨⟨g3,J3⟩,bf,u,f7,f⟩;obtain⟨S,hS⟩:=nm ((l.take k).any (qe F (21-d)));obtain⟨A,hA⟩:=nm ((l.take k).all (qe F (21-d)));obtain⟨H,hH⟩:=nm (qe F (21-d) c);rw[<- hS,<- hA] at f;rw[<- hH];have step:∀(x y:Bool) (V1 V2:Wd),V.grownBy V1 (some s)->V1.grownBy V2 (some s)->x=(S||H)->y=(A&&H)->V2.heap[s]?=some (.cells (ziu x y).toArray 237 (0,0)) ->
     KidI w B jb rk rn vb fb F d (b,o,l.length,d) l s (k+1) V2:=fun x y V1 V2 g1 g2 hx hy hf=>by
    have av:V.grownBy V2 (some s):=zf g1 g2;have aj:∀{k:Nat} {ob:Obj},k≠s->V.heap[k]?=some ob->V2.heap[k]?=some ob:=fun{k ob} hk ah=>(av.block k (hlt ah) fun e=>hk (by cases e;rfl)).trans ah;refine⟨⟨g3,J3.other av a6 a0⟩,zdw bf av (by omega),aj (by omega) u,aj (by omega) f7,?_⟩;rw[zng z,znh z,<- hS,<- hA,<- hc,<- hH,<- hx,<- hy];exact hf
   refine⟨_,zc (za f) (i:=0) rfl,biE (fun h1=>?_) fun h1=>?_⟩
   ·refine zn k4 f (o:=0+0) (v := .bool true) rfl rfl (by show 0<2;decide) rfl fun V1 ad ak bd=>⟨_,zc (za ad) (i:=1) rfl,biE (fun h2=>?_) fun h2=>?_⟩
    ·exact zn k4 ad (o:=0+1) (v := .bool H) rfl rfl (by show 1<2;decide) rfl fun V2 aa ac ar=>⟨_,zg (by omega),k+1,(cvE rfl rfl),⟨z,step true H V1 V2 ak ac (by rw[h1];rfl) (by rw[h2];rfl) aa⟩,by dsimp only;omega⟩
    ·exact zn k4 ad (o:=0+1) (v := .bool false) rfl rfl (by show 1<2;decide) rfl fun V2 aa ac ar=>⟨_,zg (by omega),k+1,(cvE rfl rfl),⟨z,step true false V1 V2 ak ac (by rw[h1];rfl) (by rw[h2];rfl) aa⟩,by dsimp only;omega⟩
   ·refine zn k4 f (o:=0+0) (v := .bool H) rfl rfl (by show 0<2;decide) rfl fun V1 ad ak bd=>⟨_,zc (za ad) (i:=1) rfl,biE (fun h2=>?_) fun h2=>?_⟩
    ·exact zn k4 ad (o:=0+1) (v := .bool H) rfl rfl (by show 1<2;decide) rfl fun V2 aa ac ar=>⟨_,zg (by omega),k+1,(cvE rfl rfl),⟨z,step H H V1 V2 ak ac (by rw[h1];rfl) (by rw[h2];rfl) aa⟩,by dsimp only;omega⟩
    ·exact zn k4 ad (o:=0+1) (v := .bool false) rfl rfl (by show 1<2;decide) rfl fun V2 aa ac ar=>⟨_,zg (by omega),k+1,(cvE rfl rfl),⟨z,step H false V1 V2 ak ac (by rw[h1];rfl) (by rw[h2];rfl) aa⟩,by dsimp only;omega⟩
  ·have bg:k=l.length:=by have:=dF h;omega
   subst bg;exact⟨(),(cvE rfl rfl),hI⟩
 rintro _ U ⟨⟨g1,J1⟩,gr,u,f7,f⟩;rw[Qn] at f;have a5:=hJ.kids gr hk;have be:PlainAt U (b,o,l.length,d):=by
  obtain⟨_,_,ax,_,ai,_⟩:=a5.plain h0
  cases ax
  exact ai
 have am:Bw U U.drew:=(UR _ U).drew;refine DrawE.ord [6] [0,1,2,3,4,5,6] (by kernel_rfl) ⟨_,zc (za (hdr J1.j)) (i:=1) rfl,_,rfl,by rw[hL];exact za (hdr f7),by have:=hlt f7;rw[hL];exact this,?_⟩;refine⟨_,rfl,za (hdr f),hlt f,?_⟩;obtain⟨ob,r1,m1⟩:=zkC (zs2 U.drew) Tryz.underlying232 (J1.mn.below am) (b,o,l.length,d) (zk5 F d l) (fun q v e=>(J1.ok.at e).below am) (be.below am);refine⟨_,_,r1,?_⟩;have gp:U.grownBy (U.drew.putObj rn ob) (some rn):=zf (zi am) (zmP U.drew rn ob);have J2:JudV (U.drew.putObj rn ob) B jb rk rn vb fb F _:=J1.grown gp m1 ((J1.ok.add a5 h0 (d:=d)).by fun k cs t hB hc=>gp.block k (hlt hc) fun e=>by cases e;have:=J1.hB;omega);obtain⟨es,n,ae⟩:=J1.rmap;have u:=jm ae gp u;have f:=jm ae gp f;refine⟨_,rfl,za f,hlt f,?_⟩;rw[hL];exact zo (v:=zk5 F d l) zor u rfl rfl rfl ⟨_,rfl,za (zk u),rfl,⟨_,J2.other (qp _ _ _) (hJ.lt (UN _)) hJ.hB.2⟩,zdw (zf gr gp) (qp _ _ _) (UN _)⟩
theorem zrW(n:Nat):∀d,d+n=21->zgI B jb rk rn vb fb F d:=by
 induction n with
 | zero=>exact fun d h=>zhp (by omega) fun a=>by omega
 | succ n ih=>exact fun d h=>zhp (by omega) fun _=>ih (d+1) (by omega)
end
section
variable{w:Wd}{F:FinV}{B:Nat}
theorem zkz(hB:B<=w.heap.size):Calls PG 80 #[qT F] w fun e w'=>∃jb rk rn vb fb,e = .returned (At0 jb)/\JudV w' B jb rk rn vb fb F (fun _=>none)/\w.heap.size<=rn/\Bw w w':=by
 refine qg 18 [qT F] (.s .p (.c .p (.c .p .p))) Tryz.func80 ?_;obtain⟨W1,t⟩:=nm (w.alloc (.cells (zA.enc F).toArray 52));have fb:W1.heap[w.heap.size]?=some (.cells (zA.enc F).toArray 52 (0,0)):=by rw[t];exact zw w _
 have b1:Bw w W1:=by rw[t];exact(zba w _)
 have n1:W1.heap.size=w.heap.size+1:=by rw[t];exact wz _ _
 refine⟨Nat×Nat×Nat,fun s=>⟨[(1,At0 w.heap.size),(3,At0 s.2.2)],[]⟩,fun s X=>MapF plV X s.1 (fun(_:PlK)=>none)/\X.heap[s.2.1]?=some (.cells [Value.map none,.map (some s.1)].toArray 235 (0,0))/\X.heap[s.2.2]?=some (.cells #[At0 s.2.1] 165 (0,0)) /\
  X.heap[w.heap.size]?=some (.cells (zA.enc F).toArray 52 (0,0))/\w.heap.size<s.1/\s.1<s.2.1/\s.2.1<s.2.2/\Bw w X,?_,?_⟩
 ·refine⟨Value.map (some W1.heap.size),W1.alloc (.map #[] 0),by rw[t];rfl,?_⟩;have m0:MapF (key:=plV) (W1.alloc (.map #[] 0)) W1.heap.size (fun(_:PlK)=>none):=MapF.new;have b2:Bw W1 (W1.alloc (.map #[] 0)):=zba W1 _;have n2:(W1.alloc (.map #[] 0)).heap.size=W1.heap.size+1:=wz _ _;obtain⟨W2,e2⟩:=nm (W1.alloc (.map #[] 0));rw[<- e2] at m0 b2 n2 ⊢;refine⟨[Value.map none,.map (some W1.heap.size)],rfl,?_⟩;have u:=zw W2 (.cells #[Value.map none,.map (some W1.heap.size)] 235);have b3:Bw W2 (W2.alloc (.cells #[Value.map none,.map (some W1.heap.size)] 235)):=zba W2 _;have n3:(W2.alloc (.cells #[Value.map none,.map (some W1.heap.size)] 235)).heap.size=W2.heap.size+1:=wz _ _;have d:=zw (W2.alloc (.cells #[Value.map none,.map (some W1.heap.size)] 235)) (.cells #[.pointer none] 165);refine zo (v:=At0 W2.heap.size) ztD d rfl rfl rfl ?_;have r:=zh ((UR (W2.alloc (.cells #[Value.map none,.map (some W1.heap.size)] 235)).heap.size _).alloc (UN _) (.cells #[.pointer none] 165)) (UN _) (At0 W2.heap.size).cells;have m:=zst b3 r;have n:=zst b2 m;exact⟨(W1.heap.size,W2.heap.size,(W2.alloc (.cells #[Value.map none,.map (some W1.heap.size)] 235)).heap.size),(cvE rfl rfl),m0.below m,zb r u,zk d,zb n fb,by dsimp only;omega,by dsimp only;omega,by dsimp only;omega,(zst b1 n)⟩
 rintro⟨rn,jb,vb⟩ W4 ⟨m4,u,d,fb,l1,l2,l3,r⟩;dsimp only at m4 u d l1 l2 l3;have hv:=hlt d;refine⟨Nat,fun s=>⟨[(3,At0 vb)],[]⟩,fun s X=>JudV X B jb s rn vb w.heap.size F (fun _=>none)/\Bw w X,?_,?_⟩
 ·refine⟨_,zc (za d) (i:=0) rfl,Value.map (some W4.heap.size),W4.alloc (.map #[] 0),by rfl,?_⟩;have k0:MapF (key:=u8) (W4.alloc (.map #[] 0)) W4.heap.size (fun(_:UInt8)=>none):=MapF.new;have b5:Bw W4 (W4.alloc (.map #[] 0)):=zba W4 _;obtain⟨o1,r1,k1⟩:=jv zfH Tryz.underlying233 k0 0 (.func (.func 147) #[] #[]);obtain⟨o2,r2,k2⟩:=jv zfH Tryz.underlying233 k1 1 (.func (.func 148) #[] #[At0 w.heap.size]);obtain⟨y,r3,k3⟩:=jv zfH Tryz.underlying233 k2 2 (.func (.func 149) #[] #[At0 w.heap.size]);obtain⟨o4,r4,k4⟩:=jv zfH Tryz.underlying233 k3 3 (.func (.func 150) #[] #[At0 vb]);obtain⟨o5,r5,k5⟩:=jv zfH Tryz.underlying233 k4 4 (.func (.func 152) #[] #[At0 vb]);obtain⟨x,r6,j⟩:=jv zfH Tryz.underlying233 k5 5 (.func (.func 153) #[] #[At0 vb]);refine⟨_,_,r1,_,_,r2,_,_,r3,_,_,r4,_,_,r5,_,_,r6,?_⟩;have b:=qh (qh (qh (qh (qh (qh b5 (UN _) o1) (UN _) o2) (UN _) y) (UN _) o4) (UN _) o5) (UN _) x;have j:MapF u8 (((((((W4.alloc (.map #[] 0)).putObj W4.heap.size o1).putObj W4.heap.size o2).putObj W4.heap.size y).putObj W4.heap.size o4).putObj W4.heap.size o5).putObj W4.heap.size x) W4.heap.size (zdr vb w.heap.size):=j;have h:=zb b u;refine zn ztA h (o:=0+0) (v := .map (some W4.heap.size)) rfl rfl (by show 0<2;decide) rfl fun X fX g sX=>?_;clear r1 r2 r3 r4 r5 r6 k0 k1 k2 k3 k4 k5 b5;generalize (((((((W4.alloc (.map #[] 0)).putObj W4.heap.size o1).putObj W4.heap.size o2).putObj W4.heap.size y).putObj W4.heap.size o4).putObj W4.heap.size o5).putObj W4.heap.size x)=W5 at j b h g sX;have z:=zb b d;have aa:=zb b fb;have m5:=m4.below b;have s5:=b.size;have l:∀{k:Nat} {f:Obj},k≠jb->W5.heap[k]?=some f->X.heap[k]?=some f:=fun{k f} hk a=>(g.block k (hlt a) fun e=>hk (by cases e;rfl)).trans a;have same:∀{k:Nat} {f:Obj},k≠jb->W5.heap[k]?=some f->X.heap[k]?=W5.heap[k]?:=fun{k f} hk a=>g.block k (hlt a) fun e=>hk (by cases e;rfl);obtain⟨_,_,h1,_⟩:=id j;obtain⟨_,_,h2,_⟩:=id m5;have ab:=zst r b;exact⟨W4.heap.size,(cvE rfl rfl),⟨fX,l (by omega) z,l (by omega) aa,j.same (same (by omega) h1),m5.same (same (by omega) h2),.nil,by omega,by omega,by have:=g.size;omega⟩,ab.trans (zm g (by have:=r.size;omega) (by omega))⟩
 rintro rk X ⟨hJ,hb⟩;exact⟨_,zc (za hJ.v) (i:=0) rfl,jb,rk,rn,vb,w.heap.size,rfl,hJ,by omega,hb⟩
end
section
variable{w:Wd}{F:FinV}{c:Cnd}{q:OA}{cap:Nat}
theorem zeo(hk:KidsG w.heap.size w q c.kids):CB 42 #[zaC c q cap,qT F] w (.bool (qe F 20 c)):=by
 refine zC 9 [zaC c q cap,qT F] Tryz.func42 ?_;obtain⟨W1,b⟩:=nm (((w.alloc (.cells (zaC c q cap).cells 27)).alloc (.cells (qT F).cells 52)).drew);have i:W1.heap[w.heap.size]?=some (.cells (zu c q cap).toArray 27 (0,0)):=by rw[b];exact z6 _ (zw w _)
 have j:W1.heap[w.heap.size+1]?=some (.cells (zA.enc F).toArray 52 (0,0)):=by
  rw[b];have:=zw (w.alloc (.cells (zaC c q cap).cells 27)) (.cells (qT F).cells 52);rw[wz] at this;exact this
 have g:Bw w W1:=by rw[b];exact(((zba w _)).alloc (by rw[wz];omega) _).drew
 refine DrawE.ord [3] [0,2,1,3,4] (by kernel_rfl) ?_;rw[<- b];refine⟨zA.enc F,zA.len F,by rw[wz];exact za j,by rw[wz];exact hlt j,?_⟩;refine⟨zu c q cap,rfl,za i,hlt i,cmo (zkz (F:=F) (B:=w.heap.size) g.size) ?_⟩;rintro e Y ⟨r,m,n,p,o,rfl,k,f,a⟩;refine⟨a,?_⟩;have h:=zst g a;refine cmo (zlI (d:=1) (by decide) k (hk.kept h) (zrW 19 2 rfl)) ?_;rintro e Z ⟨rfl,_,l⟩;exact⟨rfl,h.trans (zm l h.size (UC g.size f))⟩
end
def zia:List FinV->Bool
 | []=>true
 | a::r=>r.all (fun b=>ltF a b)&&zia r
theorem zd6:∀{l:List FinV},zia l=true->Inc l
 | [],_=>List.Pairwise.nil
 | a::r,h=>by
  unfold zia at h;rw[bAT,Qa] at h;exact List.pairwise_cons.2 ⟨h.1,zd6 h.2⟩
theorem ziJ{l t:List FinV}(h:(zia t&&(l.all (fun x=>decide (x∈t))&&t.all (fun x=>decide (x∈l))))=true):zaR l=t:=by
 rw[bAT,bAT,Qa,Qa] at h;exact zdv (zer l) (zd6 h.1) fun x=>by
  rw[zeq];exact⟨fun a=>dT (h.2.1 x a),fun a=>dT (h.2.2 x a)⟩
def zV (a b:UInt8):FinV:=⟨a::0::0::0::0::0::0::0::b::(List.replicate 23 0++[1,1,0,0,0,0]),by simp⟩
end Go.Proofs.YtakcdebpklffiaaGreatDoor
namespace Go.Sei
def zbS (before:Nat->Nat):Nat->Nat->List Nat->List (List Nat)
 | 0,left,l=>if left=0 then [l] else []
 | n+1,left,l=>if left=0 then [l] else (els left).flatMap fun a=>if before a&&&left=0 then zbS before n (zaT left (2^a)) (l++[a]) else []
def zcj (r:RelD):List (List Nat):=if zaZ r then zbS (qI r).to 64 (zcl r.n) [] else[]
def zac:List Nat->Nat->List Nat
 | [],_=>[]
 | n::ns,j=>j%n::zac ns (j/n)
def z8:List Nat->Nat
 | []=>1
 | n::ns=>n*z8 ns
def zbh (sizes:List Nat):List (List Nat):=(List.range (z8 sizes.reverse)).map fun j=>(zac sizes.reverse j).reverse
theorem zeg:∀(rs:List Nat) (j:Nat),(zac rs j).length=rs.length
 | [],_=>rfl
 | n::ns,j=>by
  show(zac ns (j/n)).length+1=ns.length+1;rw[zeg ns]
theorem zhv:∀rs:List Nat,zac rs 0=List.replicate rs.length 0
 | []=>rfl
 | n::ns=>by
  show 0%n::zac ns (0/n)=0::List.replicate ns.length 0;rw[Nat.zero_mod,Nat.zero_div,zhv ns]
theorem zg9:∀{rs:List Nat},(∀n∈rs,n≠0)->0<z8 rs
 | [],_=>Nat.one_pos
 | n::ns,h=>Nat.mul_pos (by have:=h n (by simp);omega) (zg9 fun m a=>h m (by simp [a]))
theorem zdn:∀{rs:List Nat},0∈rs->z8 rs=0
 | [],h=>by cases h
 | n::ns,h=>by
  show n*z8 ns=0;rcases Ur.1 h with h | h
  ·rw[<- h,UI]
  ·rw[zdn h,Nat.mul_zero]
theorem zeN{n j:Nat}(hn:n≠0):(j%n=n-1->(j+1)%n=0/\(j+1)/n=j/n+1)/\(j%n≠n-1->(j+1)%n=j%n+1/\(j+1)/n=j/n):=by
 have d:=QO j n;have c:=UU j (KA hn);obtain⟨q,b⟩:∃q,j/n=q:=⟨_,rfl⟩;obtain⟨m,a⟩:∃m,j%n=m:=⟨_,rfl⟩;rw[b,a] at d ⊢;rw[a] at c;refine⟨fun h=>?_,fun h=>?_⟩
 ·have e:j+1=n*(q+1):=by rw[Nat.mul_add];omega
  rw[e];exact⟨Nat.mul_mod_right _ _,Nat.mul_div_cancel_left _ (KA hn)⟩
 ·have e:j+1=n*q+(m+1):=by omega
  rw[e,Nat.mul_add_mod,Qt (by omega),Nat.mul_add_div (KA hn),Nat.div_eq_of_lt (by omega)];exact⟨rfl,rfl⟩
def zgK (rs:List Nat) (j t:Nat):Prop:=∃A ns k,rs=A++ns/\A.length=t/\zac rs (j+1)=List.replicate t 0++zac ns (k+1)/\(zac rs j).drop t=zac ns k/\z8 A*(k+1)=j+1
theorem zcT:∀A B:List Nat,z8 (A++B)=z8 A*z8 B
 | [],B=>(Nat.one_mul _).symm
 | n::A,B=>by
  show n*z8 (A++B)=n*z8 A*z8 B;rw[zcT A B,Ut]
theorem zkU(rs:List Nat)(j:Nat):zgK rs j 0:=⟨[],rs,j,rfl,rfl,rfl,rfl,Nat.one_mul _⟩
theorem zkW{rs:List Nat}{j t:Nat}(hr:∀n∈rs,n≠0)(h:zgK rs j t){n d:Nat}(hn:rs[t]?=some n)(hd:(zac rs j)[t]?=some d)(he:d=n-1):zgK rs j (t+1):=by
 obtain⟨A,b,k,a,g,p,i,s⟩:=h
 cases b with
 | nil =>
  rw[a,QA,JE (by omega)] at hn
  cases hn
 | cons m b =>
  have q:m=n:=by
   rw[a,Jj (by omega),g,UE] at hn;exact QV hn
  subst q;have e:k%m=d:=by
   have:=UY (fun l=>l[0]?) i;simp only[Kr,UB] at this;rw[hd] at this;exact(QV this).symm
  have c:m≠0:=hr m (by rw[a];simp);obtain⟨f,o⟩:=(zeN c).1 (e.trans he);have r:k+1=m*(k/m+1):=by
   have:=QO (k+1) m;rw[f,o] at this;omega
  refine⟨A++[m],b,k/m,by rw[a];simp,by simp[g],?_,?_,?_⟩
  ·rw[p];show _++((k+1)%m::zac b ((k+1)/m))=_;rw[f,o,List.replicate_succ',KH];rfl
  ·rw[<- Ua,i];rfl
  ·rw[<- s,zcT];show z8 A*(m*1)*_=_;rw[UO,Ut,<- r]
theorem zkV{rs:List Nat}{j t:Nat}(hr:∀n∈rs,n≠0)(h:zgK rs j t){n d:Nat}(hn:rs[t]?=some n)(hd:(zac rs j)[t]?=some d)(he:d≠n-1):zac rs (j+1)=List.replicate t 0++(d+1)::(zac rs j).drop (t+1):=by
 obtain⟨A,e,k,c,p,g,f,r⟩:=h
 cases e with
 | nil =>
  rw[c,QA,JE (by omega)] at hn
  cases hn
 | cons m e =>
  have i:m=n:=by
   rw[c,Jj (by omega),p,UE] at hn;exact QV hn
  subst i;have a:k%m=d:=by
   have:=UY (fun l=>l[0]?) f;simp only[Kr,UB] at this;rw[hd] at this;exact(QV this).symm
  have b:m≠0:=hr m (by rw[c];simp);obtain⟨o,q⟩:=(zeN b).2 (fun h=>he (a.symm.trans h));rw[g,<- Ua,f];show _++((k+1)%m::zac e ((k+1)/m))=_;rw[o,q,a];rfl
theorem zm8{rs:List Nat}{j:Nat}(h:zgK rs j rs.length)(hj:j<z8 rs):j+1=z8 rs:=by
 obtain⟨A,e,k,a,d,f,l,g⟩:=h;have c:=UY List.length a;rw[lap,d] at c;have:e=[]:=List.length_eq_zero_iff.1 (by omega);subst this;rw[QA] at a;rw[a] at hj ⊢;have i:z8 A*(k+1)<=z8 A:=by omega
 rcases Nat.eq_zero_or_pos (z8 A) with b | b
 ·omega
 ·have:k+1<=1:=Nat.le_of_mul_le_mul_left (by omega:z8 A*(k+1)<=z8 A*1) b;have:k=0:=by omega
  subst this;omega
theorem zkX{rs:List Nat}{j t:Nat}(hr:∀n∈rs,n≠0)(h:zgK rs j t){n d:Nat}(hn:rs[t]?=some n)(hd:(zac rs j)[t]?=some d)(he:d≠n-1)(hj:j<z8 rs):j+1<z8 rs:=by
 obtain⟨A,a,k,b,o,v,p,w⟩:=h
 cases a with
 | nil =>
  rw[b,QA,JE (by omega)] at hn
  cases hn
 | cons m a =>
  have f:m=n:=by
   rw[b,Jj (by omega),o,UE] at hn;exact QV hn
  subst f;have e:k%m=d:=by
   have:=UY (fun l=>l[0]?) p;simp only[Kr,UB] at this;rw[hd] at this;exact(QV this).symm
  have c:m≠0:=hr m (by rw[b];simp);obtain⟨g,x⟩:=(zeN c).2 (fun h=>he (e.symm.trans h));apply Jl;intro y;have s:z8 rs=z8 A*(m*z8 a):=by rw[b,zcT];rfl
  have r:0<z8 A:=by
   apply KA;intro u;rw[s,u,UI] at hj;omega
  have i:z8 A*(k+1)=z8 A*(m*z8 a):=by omega
  have q:=Nat.eq_of_mul_eq_mul_left r i;rw[q,Nat.mul_mod_right] at g;omega
theorem zg7{L:List Nat}{t d:Nat}(h:L[t]?=some d):(List.replicate t 0++L.drop t).reverse=(L.drop (t+1)).reverse++d::(List.replicate t 0).reverse:=by
 obtain⟨a,rfl⟩:=Jo.1 h;rw[<- JA a,Kh,KO,KH];rfl
theorem zrK{L:List Nat}{t d:Nat}(h:L[t]?=some d){i:Nat}(hi:i+t+1=L.length):(List.replicate t 0++L.drop t).reverse[i]?=some d:=by
 rw[zg7 h,Jj (by simp;omega)];have:i-(L.drop (t+1)).reverse.length=0:=by simp;omega
 rw[this];rfl
theorem zlm{L:List Nat}{t d:Nat}(h:L[t]?=some d){i:Nat}(hi:i+t+1=L.length)(v:Nat):((List.replicate t 0++L.drop t).reverse).set i v=(List.replicate t 0++v::L.drop (t+1)).reverse:=by
 rw[zg7 h,JK _ _ (by simp;omega)];have:i-(L.drop (t+1)).reverse.length=0:=by simp;omega
 rw[this,Kh,KO,KH];rfl
theorem znX{L:List Nat}{t:Nat}:(List.replicate t 0++0::L.drop (t+1)).reverse=(List.replicate (t+1) 0++L.drop (t+1)).reverse:=by
 rw[List.replicate_succ',KH];rfl
structure ExD where
 ev:List Ev
 po:RelD
 rf:RelD
 co:RelD
 dt:RelD
 ct:RelD
 rm:RelD
 regs:Nat->UInt8
 mem:Nat->UInt8
structure MixD where
 base:ExD
 rs:List (Nat×List Nat)
 wr:List (List Nat)
def zdk (n:Nat):RelD:=⟨n,fun _=>0⟩
def ex0 (n:Nat):ExD:=⟨[],zdk n,zdk n,zdk n,zdk n,zdk n,zdk n,fun _=>0,fun _=>0⟩
def ziU (b:Nat):List (Nat×Nat)->(Nat->Nat)->Nat->Nat
 | [],f=>f
 | p::ps,f=>ziU b ps (upd f (b+p.1) (f (b+p.1)|||2^(b+p.2)))
def zkq (b:Nat) (ps:List (Nat×Nat)) (r:RelD):RelD:=⟨r.n,ziU b ps r.to⟩
def ziZ (a:Int):Nat->List Ev->Nat->Nat
 | _,[],s=>s
 | j,e::es,s=>ziZ a (j+1) es (if e.th=a then s|||2^j else s)
def zci (ev:List Ev) (i:Nat):Nat:=match ev[i]? with
 | none=>0
 | some e=>if e.th = -1 then 0 else ziZ e.th (i+1) (ev.drop (i+1)) 0
def poR (ev:List Ev):RelD:=⟨ev.length,zci ev⟩
def jr:Nat->List UInt8->List Ev
 | _,[]=>[]
 | l,v::vs=>⟨-1,2,UInt8.ofNat l,v,0,0,0⟩::jr (l+1) vs
def zdg (k:Nat) (l:List Ev):List Ev:=l.map fun e=>{ e with th:=k }
def zis (x:ExD) (k:Nat) (P:PathD):ExD :=
 { x with ev:=x.ev++zdg k P.ev,dt:=zkq x.ev.length P.data x.dt,ct:=zkq x.ev.length P.ctrl x.ct,rm:=zkq x.ev.length P.rmw x.rm,regs:=fun i=>if i/8=k then P.regs (i%8) else x.regs i }
def asR:Nat->List PathD->ExD->ExD
 | _,[],x=>x
 | k,P::Ps,x=>asR (k+1) Ps (zis x k P)
def znJ (locs:Nat) (Ps:List PathD):Nat:=Ps.foldl (fun n P=>n+P.ev.length) locs
def zl8:Nat->List Ev->List (List Nat)->List (List Nat)
 | _,[],W=>W
 | i,e::es,W=>zl8 (i+1) es (if e.k=2 then W.set e.l.toNat (W.getD e.l.toNat []++[i]) else W)
def zgR (all:List Ev) (W:List (List Nat)):Nat->List Ev->List (Nat×List Nat)
 | _,[]=>[]
 | i,e::es=>if e.k=1 then (i,(W.getD e.l.toNat []).filter fun w=>decide ((all.getD w ev0).v=e.v))::zgR all W (i+1) es else zgR all W (i+1) es
def zpa (init:List UInt8) (Ps:List PathD):ExD :=
 let x:=asR 0 Ps { ex0 (znJ init.length Ps) with ev:=jr 0 init }
 { x with po:=poR x.ev }
def jM (x:ExD) (locs:Nat):MixD :=
 let W:=zl8 0 x.ev (List.replicate locs [])
 ⟨x,zgR x.ev W 0 x.ev,W⟩
def zja (init:List UInt8) (Ps:List PathD):Option MixD:=if znJ init.length Ps<=48 then some (jM (zpa init Ps) init.length) else none
def zjK (lim:Nat):List (List Nat)->Nat->Option Nat
 | [],n=>some n
 | f::fs,n=>if f=[] then none else zjK lim fs (min (n*f.length) lim)
def zjL (lim len:Nat):Nat->Nat->Nat->Nat
 | 0,_,n=>n
 | m+1,k,n=>if k<len then zjL lim len m (k+1) (min (n*k) lim) else n
def zil (lim:Nat):List (List Nat)->Nat->Nat
 | [],n=>n
 | l::ls,n=>zil lim ls (zjL lim l.length l.length 2 n)
def zcM (m:MixD) (lim:Nat):Nat:=match zjK lim (m.rs.map (·.2)) 1 with
 | none=>0
 | some n=>zil lim m.wr n
def j0 (w:List Nat):List (List Nat) :=
 let l:=zcj (zgy w.length 1 (zaT (zcl w.length) 1))
 if l.length<=10000 then l.map fun o=>o.map fun k=>w.getD k 0 else[]
def zlE:List Nat->(Nat->Nat)->Nat->(Nat->Nat)
 | [],f,_=>f
 | a::l,f,b=>zlE l (upd f a b) (b|||2^a)
def zaJ (l:List Nat) (r:RelD):RelD:=⟨r.n,zlE l.reverse r.to 0⟩
def rfF:List (Nat×List Nat)->List Nat->(Nat->Nat)->Nat->Nat
 | [],_,f=>f
 | (r,s)::rs,ds,f=>rfF rs ds.tail (upd f (s.getD (ds.headD 0) 0) (f (s.getD (ds.headD 0) 0)|||2^r))
def coG (ev:List Ev):Nat->List (List (List Nat))->List Nat->RelD×(Nat->UInt8)->RelD×(Nat->UInt8)
 | _,[],_,p=>p
 | l,R::Rs,ds,p=>coG ev (l+1) Rs ds.tail (zaJ (R.getD (ds.headD 0) []) p.1,upd p.2 l (ev.getD ((R.getD (ds.headD 0) []).getLastD 0) ev0).v)
def zav (m:MixD) (ds:List Nat):ExD :=
 let c:=coG m.base.ev 0 (m.wr.map j0) (ds.drop m.rs.length) (m.base.co,m.base.mem)
 { m.base with rf:=⟨m.base.rf.n,rfF m.rs ds m.base.rf.to⟩,co:=c.1,mem:=c.2 }
def zaO (m:MixD):List Nat:=m.rs.map (fun r=>r.2.length)++m.wr.map fun w=>(j0 w).length
def zeU (m:MixD):List ExD:=(zbh (zaO m)).map (zav m)
def zbq (Ts:List (List PathD)):List Nat->List PathD
 | []=>[]
 | d::ds=>match Ts with
  | []=>[]
  | T::Ts=>(match T[d]? with | some P=>[P] | none=>[])++zbq Ts ds
theorem zlU:∀(rs:List Nat) (j:Nat),(∀n∈rs,n≠0)->∀(i n d:Nat),rs[i]?=some n->(zac rs j)[i]?=some d->d<n
 | [],_,_,_,_,_,h,_=>by simp at h
 | m::rs,j,h0,0,n,d,h,a=>by
  have h:m=n:=by simpa using h
  have a:j%m=d:=by simpa [zac] using a
  subst h;subst a;exact UU _ (KA (h0 m (by simp)))
 | m::rs,j,h0,i+1,n,d,h,a=>zlU rs (j/m) (fun n b=>h0 n (by simp [b])) i n d (by simpa using h) (by simpa [zac] using a)
theorem zlT{sizes ds:List Nat}(h:ds∈zbh sizes):ds.length=sizes.length/\∀(i n d:Nat),sizes[i]?=some n->ds[i]?=some d->d<n:=by
 unfold zbh at h;obtain⟨j,c,rfl⟩:=Uz.1 h;have c:=Ue.1 c;have o:∀n∈sizes.reverse,n≠0:=fun n a e=>by
  subst e;rw[zdn a] at c;omega
 have f:(zac sizes.reverse j).length=sizes.length:=by rw[zeg,Ke]
 refine⟨by rw[Ke,f],fun i n d a k=>?_⟩;have m:i<sizes.length:=(Jo.1 a).1;have b:=JF (l:=sizes.reverse) (i:=i) (by simpa using m);rw[List.reverse_reverse,a] at b;have g:=JF (l:=zac sizes.reverse j) (i:=i) (by omega);rw[k,f] at g;rw[Ke] at b;exact zlU _ _ o _ n d b.symm g.symm
theorem ziP:∀(rs:List (Nat×List Nat)) (r:Nat) (s:List Nat) (ds:List Nat) (f:Nat->Nat),rfF (rs++[(r,s)]) ds f=upd (rfF rs ds f) (s.getD (ds.getD rs.length 0) 0) (rfF rs ds f (s.getD (ds.getD rs.length 0) 0)|||2^r)
 | [],r,s,ds,f=>by
  have:ds.getD 0 0=ds.headD 0:=by cases ds <;> rfl
  show upd f (s.getD (ds.headD 0) 0) _=_;rw[<- this];rfl
 | (r',s')::rs,r,s,ds,f=>by
  have e:ds.getD (rs.length+1) 0=ds.tail.getD rs.length 0:=by
   cases ds with
   | nil=>simp
   | cons a ds=>simp
  show rfF (rs++[(r,s)]) ds.tail _=_;rw[ziP rs r s ds.tail];show _=upd (rfF rs ds.tail _) (s.getD (ds.getD (rs.length+1) 0) 0) (rfF rs ds.tail _ (s.getD (ds.getD (rs.length+1) 0) 0)|||2^r);rw[e]
abbrev zge (ev:List Ev) (rk:List Nat):UInt8:=(ev.getD (rk.getLastD 0) ev0).v
theorem zjJ(ev:List Ev):∀(Rs:List (List (List Nat))) (R:List (List Nat)) (l:Nat) (ds:List Nat) (p:RelD×(Nat->UInt8)),
  coG ev l (Rs++[R]) ds p=(zaJ (R.getD (ds.getD Rs.length 0) []) (coG ev l Rs ds p).1,upd (coG ev l Rs ds p).2 (l+Rs.length) (zge ev (R.getD (ds.getD Rs.length 0) [])))
 | [],R,l,ds,p=>by
  have:ds.getD 0 0=ds.headD 0:=by cases ds <;> rfl
  show(zaJ (R.getD (ds.headD 0) []) p.1,upd p.2 l _)=_;rw[<- this];rfl
 | R'::Rs,R,l,ds,p=>by
  have e:ds.getD (Rs.length+1) 0=ds.tail.getD Rs.length 0:=by
   cases ds with
   | nil=>simp
   | cons a ds=>simp
  show coG ev (l+1) (Rs++[R]) ds.tail _=_;rw[zjJ ev Rs R (l+1) ds.tail];show _=(zaJ (R.getD (ds.getD (Rs.length+1) 0) []) _,upd _ (l+(Rs.length+1)) (zge ev (R.getD (ds.getD (Rs.length+1) 0) [])));rw[e,show l+1+Rs.length=l+(Rs.length+1) by omega];rfl
def zfx (r:RelD):Bool:=(List.range 48).all fun i=>decide (r.to i<2^64)
def zok (m:MixD):Bool :=
 decide (m.base.ev.length<=48)&&(decide (m.rs.length<=48)&&(decide (m.wr.length<=6)&&(zfx m.base.rf&&(zfx m.base.co &&
  ((m.rs.all fun r=>decide (r.1<48)&&(decide (r.2.length<=1000)&&r.2.all fun s=>decide (s<48))) &&
   (m.wr.all fun w=>decide (w.length<=48)&&(decide ((j0 w).length<=10000)&&(j0 w).all fun k=>decide (k≠[])&&(decide (k.length<=48)&&k.all fun a=>decide (a<m.base.ev.length)))))))))
structure MixB (m:MixD):Prop where
 ev:m.base.ev.length<=48
 rl:m.rs.length<=48
 wl:m.wr.length<=6
 rf:∀i,i<48->m.base.rf.to i<2^64
 co:∀i,i<48->m.base.co.to i<2^64
 rs:∀r∈m.rs,r.1<48/\r.2.length<=1000/\∀s∈r.2,s<48
 wr:∀w∈m.wr,w.length<=48/\(j0 w).length<=10000/\∀k∈j0 w,k≠[]/\k.length<=48/\∀a∈k,a<m.base.ev.length
theorem zp8{m:MixD}(h:zok m=true):MixB m:=by
 unfold zok zfx at h;simp only[bAT,dE,Qa,Ue] at h;obtain⟨g,d,a,e,b,c,f⟩:=h;exact⟨g,d,a,e,b,c,f⟩
def zbN (a b:RelD):Bool:=decide (a.n=b.n)&&(List.range 48).all fun i=>decide (a.to i=b.to i)
def zab (ev:List Ev):Nat:=(ev.takeWhile fun e=>decide (e.th = -1)).length
def zjw (locs:Nat):Nat->List Ev->Int->Nat->Bool
 | _,[],_,_=>true
 | i,e::es,t,n =>
  if i<locs then(if e=⟨-1,2,UInt8.ofNat i,e.v,0,0,0⟩ then zjw locs (i+1) es t n else false)
  else if e.th<t\/4<=e.th then false
  else
   let t':=if t<e.th then e.th else t
   let n':=if t<e.th then 0 else n
   if e.p.toNat=n' then
    (if e.k=1\/e.k=2 then(if e.l.toNat<locs then zjw locs (i+1) es t' (n'+1) else false) else if e.k=3 then(if e.l=0/\e.v=0 then zjw locs (i+1) es t' (n'+1) else false) else false)
   else false
def ju (ev:List Ev) (locs:Nat):Bool:=zjw locs 0 ev 0 0
def evA (x:ExD) (i:Nat):Ev:=x.ev.getD i ev0
def zct (x:ExD) (s:Nat) (e:Ev):Bool :=
 if e.k=1 then(if s=0 then false else
  (if s=2^ctz s then decide ((evA x (ctz s)).k=2)&&(decide ((evA x (ctz s)).l=e.l)&&decide ((evA x (ctz s)).v=e.v)) else false))
 else decide (s=0)
def zbo (x:ExD):Bool:=(List.range x.ev.length).all fun i=>zct x ((qI x.rf).to i) (evA x i)
def jD (key:Nat->Nat):List Nat->Nat->List Nat
 | [],x=>[x]
 | y::r,x=>if key y<key x then y::jD key r x else x::y::r
def zc8 (key:Nat->Nat) (l:List Nat):List Nat:=(l.foldl (fun acc x=>jD key acc x) []).reverse
def zbR (s:Nat):Nat:=(els s).length
def zbI (x:ExD) (l:Nat):List Nat:=(List.range x.ev.length).filter fun i=>decide ((evA x i).k=2)&&decide ((evA x i).l.toNat=l)
def qo (x:ExD) (l:Nat):List Nat:=zc8 (fun i=>zbR (x.co.to i)) (zbI x l)
def zjI (x:ExD):Nat->Nat->RelD×(Nat->UInt8)->Option (RelD×(Nat->UInt8))
 | 0,_,p=>some p
 | n+1,l,p=>if (qo x l).headD 48=l then zjI x n (l+1) (zaJ (qo x l) p.1,upd p.2 l (zge x.ev (qo x l))) else none
def zbv (x:ExD) (locs:Nat):Bool:=match zjI x locs 0 (⟨x.ev.length,fun _=>0⟩,fun _=>0) with
 | none=>false
 | some p=>zbN p.1 x.co&&(List.range 6).all fun l=>decide (p.2 l=x.mem l)
def znn (x:ExD):Nat:=(List.range x.ev.length).foldl (fun s i=>if(evA x i).k=2 then s|||2^i else s) 0
def zgx (x:ExD) (W:Nat):Nat->List Ev->Nat->Bool
 | _,[],_=>true
 | i,e::es,h =>
  let d:=x.dt.to i
  let c:=x.ct.to i
  let r:=x.rm.to i
  if d|||c|||r=0 then zgx x W (i+1) es h
  else if e.k=1/\zaT (d|||r) W=0/\zaT (d|||c|||r) (x.po.to i)=0 then
   (if r=0 then zgx x W (i+1) es h else if r=2^ctz r/\h.testBit (ctz r)=false/\(evA x (ctz r)).l=e.l then zgx x W (i+1) es (h|||r) else false)
  else false
def zaK (x:ExD):Bool:=zgx x (znn x) 0 x.ev 0
def za0 (x:ExD):Bool:=[x.po,x.rf,x.co,x.dt,x.ct,x.rm].all fun r=>decide (r.n=x.ev.length)&&okR r
def zao (x:ExD):Bool :=
 decide (x.ev.length<=48)&&(decide (1<=zab x.ev)&&(decide (zab x.ev<=6)&&(ju x.ev (zab x.ev)&&(za0 x&&(zbN x.po (poR x.ev)&&(zbo x&&(zbv x (zab x.ev)&&zaK x)))))))
def isR (x:ExD) (i:Nat):Bool:=decide ((evA x i).k=1)
def isW (x:ExD) (i:Nat):Bool:=decide ((evA x i).k=2)
def zcf (x:ExD) (i:Nat):Bool:=isR x i||isW x i
def zl (r:RelD) (a b:Nat):Bool:=(r.to a).testBit b
def zff (n:Nat) (p:Nat->Bool):Nat:=(List.range n).foldl (fun s b=>if p b=true then s|||2^b else s) 0
def za9 (n:Nat) (p:Nat->Nat->Bool):RelD:=jW n fun a=>zff n (p a)
def qj (r:RelD) (l:List RelD):RelD:=l.foldl (fun r o=>(zco r o).1) r
def frM (x:ExD):RelD:=(q9 (qI x.rf) x.co).1
def za4 (x:ExD) (a b:Nat):Bool:=zcf x a&&(zcf x b&&decide ((evA x a).l=(evA x b).l))
def zgs (x:ExD) (r:RelD):RelD:=za9 r.n.toNat fun a b=>zl r a b && !decide ((evA x a).th=(evA x b).th)
def zaE (x:ExD) (md:UInt8):Nat:=((List.range x.ev.length).filter fun i=>decide ((evA x i).k=3)&&decide ((evA x i).m=md)).foldl (fun s i=>s|||2^i) 0
def zL (x:ExD) (md:UInt8):RelD:=(q9 (q9 x.po (idR x.ev.length (zaE x md))).1 x.po).1
def zP (x:ExD) (a:Nat) (md:UInt8):Bool:=decide ((evA x a).m=md)||decide ((evA x a).m=3)
def jX (x:ExD) (f:RelD) (a b:Nat):Bool:=zl f a b||(zP x a 3||zP x b 3)
def zd5 (m:Nat) (x:ExD) (f l s:RelD) (a b:Nat):Bool :=
 match m with
 | 1=>false
 | 2=>true
 | 3=>isR x a||(isW x b||jX x f a b)
 | 4=>isR x a||(jX x f a b||(isW x b&&(za4 x a b||zl s a b)))
 | 5=>(isR x a&&(zP x a 1||zl l a b))||((isW x b&&(zP x b 2||zl s a b))||zl f a b)
 | 6=>zl x.dt a b||((zl x.ct a b&&isW x b)||(zl x.rm a b||(zl f a b||((zl l a b&&(isR x a&&isR x b))||(zl s a b&&(isW x a&&isW x b))))))
 | _=>false
def zaU (m:Nat) (x:ExD):RelD:=za9 x.ev.length fun a b=>zl x.po a b&&(zcf x a&&(zcf x b&&zd5 m x (zL x 3) (zL x 4) (zL x 5) a b))
def zbe (x:ExD):RelD:=za9 x.ev.length fun a b=>zl x.po a b&&za4 x a b
def zce (m:Nat) (x:ExD):Nat :=
 if zaZ (qj (zbe x) [x.rf,x.co,frM x])=true then
  (if zbG (zaL x.rm (q9 (frM x) x.co).1).1=true then
   (if m=1 then 0 else if zaZ (qj (zaU m x) [if m=2 then x.rf else zgs x x.rf,x.co,frM x])=true then 0 else 3) else 2)
 else 1
def zaP (m:Nat):Bool:=decide (1<=m)&&decide (m<=6)
def zeJ (m:Nat) (x:ExD):Bool:=zaP m&&(zao x&&decide (zce m x=0))
end Go.Sei
namespace Go.Proofs.YtakcdebpklffiaaGreatDoor
open Go.Vc Go.RowKit Go.Sei
def zeL (r m:Nat->UInt8):List Value:=seg 32 (fun i=>u8 (r i))++seg 6 (fun i=>u8 (m i))
theorem zoH(r m:Nat->UInt8):(zeL r m).length=38:=by unfold zeL;rw[lap,zy,zy]
def zoG (r m:Nat->UInt8):FinV:=⟨(List.range 32).map r++(List.range 6).map m,by simp⟩
theorem zec(r m:Nat->UInt8):zA.enc (zoG r m)=zeL r m:=by
 show((List.range 32).map r++(List.range 6).map m).map u8=_;unfold zeL seg;rw[QG,Uw,Uw];rfl
theorem zhs(f:FinV):zoG (fun i=>f.l.getD i 0) (fun i=>f.l.getD (32+i) 0)=f:=by
 apply FinV.ext';show(List.range 32).map _++(List.range 6).map _=f.l;have c:=f.len;apply KI;intro i;by_cases a:i<32
 ·rw[Jn (by simpa using a),KM,Kc a,gE (by omega),QU,gDe,gE (by omega)];rfl
 ·rw[Jj (by simpa using a),QD,KN,KM];by_cases b:i<38
  ·rw[Kc (by omega),QU,gDe,show 32+(i-32)=i by omega,gE (by omega)];rfl
  ·rw[JE (by rw[KN];omega),JE (by omega)];rfl
theorem zfP{m n:Nat}{f:Nat->UInt8}{i j:Nat}(hi:i<m)(hj:j<n):zX (zX (seg (m*n) (fun i=>u8 (f i))) (i*n) n) (j*1) 1=[u8 (f (i*n+j))]:=by
 have hlt:i*n+j<m*n:=by
  have:(i+1)*n<=m*n:=JW n hi;rw[UG] at this;omega
 apply KI;intro k;unfold zX;rw[UO]
 cases k with
 | zero =>
  rw[List.getElem?_take_of_lt (by decide),Kr,UB,List.getElem?_take_of_lt hj,Kr,jV _ hlt];rfl
 | succ k =>
  rw[JE (by rw[Ql];omega),JE (by simp)]
theorem zrk:∃G,TyEq PG 52 true 38 4 G/\∀r m:Nat->UInt8,G (zeL r m):=by
 have c:TyEq PG 48 true 8 2 _ := .array (m:=8) (by decide) Tryz.underlying48 (fun w=>Tryz.isAgg48 w) (qr (by kernel_rfl) (by kernel_rfl)).1 (by kernel_rfl) tU8;have a:TyEq PG 49 true 32 3 _ := .array (m:=4) (by decide) Tryz.underlying49 (fun w=>Tryz.isAgg49 w) (qr (by kernel_rfl) (by kernel_rfl)).1 (by kernel_rfl) c;have l:TyEq PG 50 true 6 2 _ := .array (m:=6) (by decide) Tryz.underlying50 (fun w=>Tryz.isAgg50 w) (qr (by kernel_rfl) (by kernel_rfl)).1 (by kernel_rfl) tU8;refine⟨_,.struct (uf Tryz.underlying52).1 (by kernel_rfl) (fun w=>Tryz.isAgg52 w) (qr (by kernel_rfl) (by kernel_rfl)).1 (by kernel_rfl)
  (by rw[(uf Tryz.underlying52).2];exact .cons (by decide) rfl a (.cons (by decide) rfl (l.up 1) .nil)),fun r m=>?_⟩
 have k:zX (zeL r m) 0 32=seg (4*8) fun i=>u8 (r i):=by
  unfold zeL zX;rw[Uc,Je (by rw[zy];decide),JB (by rw[zy];decide)]
 have d:zX (zeL r m) 32 6=seg (1*6) fun i=>u8 (m i):=by
  unfold zeL zX;rw[Jc (by rw[zy];decide),Jw (by rw[zy];decide),QJ,JB (by rw[zy];decide)]
 refine⟨?_,?_,trivial⟩
 ·show ∀i,i<4->∀j,j<8->zsJ .u8 (zX (zX (zX (zeL r m) 0 32) (i*8) 8) (j*1) 1);intro i g j b;rw[k,zfP g b];exact⟨_,rfl⟩
 ·show ∀j,j<6->zsJ .u8 (zX (zX (zeL r m) 32 6) (j*1) 1);intro j b;rw[d];have h:=zfP (m:=1) (n:=6) (f:=m) (i:=0) (j:=j) (by decide) b;have e:zX (seg (1*6) fun i=>u8 (m i)) (0*6) 6=seg (1*6) fun i=>u8 (m i):=by
   unfold zX;rw[UI,Uc,JB (by rw[zy];decide)]
  rw[e] at h;rw[h];exact⟨_,rfl⟩
theorem zpE{a b:UInt8}(h:u8 a=u8 b):a=b:=by
 unfold u8 at h;injection h with _ h;exact QW.1 (by omega)
theorem zjx{a b:FinV}:zA.enc a=zA.enc b↔a=b:=by
 constructor
 ·intro h;apply FinV.ext';have h:a.l.map u8=b.l.map u8:=h;apply List.ext_getElem (by rw[a.len,b.len]);intro i e d;have c:(a.l.map u8)[i]?=(b.l.map u8)[i]?:=by rw[h]
  rw[KM,KM,gE e,gE d] at c;exact zpE (QV c)
 ·rintro rfl;rfl
theorem zoV(u v:Operand)(x y:FinV)(w:Wd):(do eqGuard .eql 52 u v (.agg (zA.enc x).toArray) (.agg (zA.enc y).toArray);binOp .eql 52 (.agg (zA.enc x).toArray) (.agg (zA.enc y).toArray)).run PG w = .ok (.bool (decide (x=y))) w:=by
 obtain⟨G,b,a⟩:=zrk;have g:∀z:FinV,G (zA.enc z):=fun z=>by rw[<- zhs z,zec];exact a _ _
 have:=zih b 9996 rfl (by kernel_rfl) (zA.len x) (zA.len y) (g x) (g y) u v w;rw[this,zbU zjx]
theorem zi8(u v:Operand)(x y:FinV)(w:Wd):(do eqGuard .neq 52 u v (.agg (zA.enc x).toArray) (.agg (zA.enc y).toArray);binOp .neq 52 (.agg (zA.enc x).toArray) (.agg (zA.enc y).toArray)).run PG w = .ok (.bool (!decide (x=y))) w:=by
 obtain⟨G,b,a⟩:=zrk;have g:∀z:FinV,G (zA.enc z):=fun z=>by rw[<- zhs z,zec];exact a _ _
 have:=zof b 9996 rfl (by kernel_rfl) (zA.len x) (zA.len y) (g x) (g y) u v w;rw[this,zbU zjx]
def stV (l v m:UInt8):InsD:=⟨2,0,l,false,v,false,0,0,m,0⟩
def ldV (d l m:UInt8):InsD:=⟨1,d,l,false,0,false,0,0,m,0⟩
def zc6:Prg:=⟨[115,98],[[120],[121]],[0,0],[[stV 0 1 0,ldV 0 1 0],[stV 1 1 0,ldV 0 0 0]],1,.mk 0 0 0 0 []⟩
def zgr (x:ExD):FinV:=zoG x.regs x.mem
def byL (m:Nat) (l:List ExD):List FinV:=(l.filter (zeJ m)).map zgr
def scL:List FinV:=[zV 0 1,zV 1 0,zV 1 1]
def zbA:List FinV:=[zV 0 0,zV 0 1,zV 1 0,zV 1 1]
def zrr (l t:List FinV):Bool:=zia t&&(l.all (fun x=>decide (x∈t))&&t.all (fun x=>decide (x∈l)))
abbrev zjj (x:InsD):Value := .agg (zS.enc x).toArray
section
variable{R:RunD}{b:Nat}{w:Wd}
theorem zmn{x:InsD}{v:UInt8}(f:zag w b R)(hm:R.many<24)(hd:x.dst.toNat<8):Calls PG 319 #[AtR b,zjj x,u8 v] w fun e w' =>
  e = .returned (.tuple #[])/\zag w' b (zro R x v)/\w.grownBy w' (some b):=by
 refine zC 21 [AtR b,zjj x,u8 v] Tryz.func319 ?_;have a:=zw w (.cells (zS.enc x).toArray 68);have j:Bw w (w.alloc (.cells (zS.enc x).toArray 68)):=zba w _;have p:=zb j f;have g:w.heap.size≠b:=fun e=>by have:=hlt f;omega
 refine⟨_,zc (za a) (i:=2) rfl,_,zc (za a) (i:=8) rfl,cmo (zkP (k:=1) (l:=x.loc) (v:=v) (m:=x.mode) (d:=0) p hm) ?_⟩;rintro e Y ⟨rfl,n,h,t⟩;have c:=(h.block w.heap.size (hlt a) (by simpa using g)).trans a;refine DrawE.ord [6] [0,1,2,3,4,5,6] (by kernel_rfl) ⟨_,zc (za (hdr c)) (i:=1) rfl,by omega,_,zpA (e:=R.many) (by omega),cmo (zsZ (d:=x.dst) (v:=v) (s:=2^R.many) (hdr n) hd) ?_⟩;rintro e Z ⟨rfl,r,q,u⟩;have o:Y.grownBy Y.drew (some b):=⟨rfl,rfl,rfl,UN _,fun _ _ _=>rfl⟩;exact⟨rfl,r,zf (zi j) (zf h (zf o q))⟩
theorem zkh{x:InsD}{v:UInt8}(f:zag w b R)(hm:R.many<24)(ha:x.ar=true->x.an.toNat<8):Calls PG 320 #[AtR b,zjj x,u8 v] w fun e w' =>
  e = .returned (.tuple #[])/\zag w' b (znF R x)/\w.grownBy w' (some b):=by
 refine zC 23 [AtR b,zjj x,u8 v] Tryz.func320 ?_;have g:=zw w (.cells (zS.enc x).toArray 68);have j:Bw w (w.alloc (.cells (zS.enc x).toArray 68)):=zba w _;have h:=zb j f;refine⟨[.bool x.ar,u8 x.an],rfl,zcc (o:=3) (n:=2) g,hlt g,cmo (zpB h ha) ?_⟩;rintro e Y ⟨rfl,a⟩;have c:=zb a g;have p:=zb a h;refine⟨_,zc (za c) (i:=2) rfl,_,zc (za c) (i:=8) rfl,cmo (zkP (k:=2) (l:=x.loc) (v:=(zaG x.ar x.an R).1) (m:=x.mode) (d:=(zaG x.ar x.an R).2) p hm) ?_⟩;rintro e Z ⟨rfl,r,q,s⟩;exact⟨rfl,r,zf (zi j) (zf (zi a) q)⟩
theorem zki{x:InsD}{v:UInt8}(f:zag w b R)(hm:R.many<24):Calls PG 325 #[AtR b,zjj x,u8 v] w fun e w' =>
  e = .returned (.tuple #[])/\zag w' b (zoJ R x)/\w.grownBy w' (some b):=by
 refine zC 10 [AtR b,zjj x,u8 v] Tryz.func325 ?_;have h:=zw w (.cells (zS.enc x).toArray 68);have a:Bw w (w.alloc (.cells (zS.enc x).toArray 68)):=zba w _;have c:=zb a f;refine⟨_,zc (za h) (i:=8) rfl,cmo (zkP (k:=3) (l:=0) (v:=0) (m:=x.mode) (d:=0) c hm) ?_⟩;rintro e Z ⟨rfl,j,g,n⟩;exact⟨rfl,j,zf (zi a) g⟩
end
def zc7 (x:InsD):Prop:=(x.op=1/\x.dst.toNat<8)\/(x.op=2/\(x.ar=true->x.an.toNat<8))\/x.op=7
def fnV (g:Nat):Value := .func (.func g) #[] #[]
def zqJ:List Value:=[.nilFunc,fnV 319,fnV 320,fnV 321,fnV 322,fnV 323,fnV 324,fnV 325,fnV 326]
theorem zmU{w:Wd}:CB 309 #[] w (.agg zqJ.toArray):=by
 refine zC 2 [] Tryz.func309 ?_;have a:=zw w (.cells (List.replicate 9 Value.nilFunc).toArray 397);have c:Bw w (w.alloc (.cells (List.replicate 9 Value.nilFunc).toArray 397)):=zba w _;exact⟨zqJ,rfl,zo (v := .agg zqJ.toArray) ztv a rfl rfl rfl ⟨zqJ,rfl,za (zk a),rfl,zh c (UN _) _⟩⟩
section
variable{R:RunD}{b:Nat}{w:Wd}
theorem zht{x:InsD}{v:UInt8}(f:zag w b R)(hm:R.many<24)(hp:R.pc<=1000)(hx:zc7 x):Calls PG 268 #[AtR b,zjj x,u8 v] w fun e w' =>
  e = .returned (.tuple #[])/\zag w' b (ql R x v)/\w.grownBy w' (some b):=by
 refine zC 21 [AtR b,zjj x,u8 v] Tryz.func268 ?_;have l:=zw w (.cells (zS.enc x).toArray 68);obtain⟨W1,j⟩:=nm ((w.alloc (.cells (zS.enc x).toArray 68)).drew);have r:Bw w W1:=by rw[j];exact((zba w _)).drew
 have y:zag W1 b R:=zb r f;have l:W1.heap[w.heap.size]?=some (.cells (zS.enc x).toArray 68 (0,0)):=by rw[j];exact l
 have k:(w.alloc (.cells (Value.agg (zS.enc x).toArray).cells 68)).drew=W1:=j.symm;refine DrawE.ord [7] [1,2,4,5,6,0,3,7] (by kernel_rfl) ?_;rw[k];refine⟨_,zc (za l) (i:=0) rfl,zS.enc x,rfl,za l,hlt l,cmo zmU ?_⟩;rintro e Y ⟨rfl,g⟩;refine⟨g,?_⟩;have p:=zb g y;have s:w.grownBy Y (some b):=zf (zi r) (zi g);have h:∀{S:RunD} {Z:Wd},zag Z b S->Y.grownBy Z (some b)->S.pc=R.pc->ql R x v={ S with pc:=S.pc+1 }->∃u,Z.cell? ⟨b,0+0,none⟩=some u/\zq3 PG .add 3 (.tmp 17) (.const (i64 1)) u (i64 1) (fun m=>SatR ((storeVar 3 ⟨b,0+0,none⟩ m).run PG Z) fun _ w'=>(Ending.returned (.tuple #[])=Ending.returned (.tuple #[]))/\zag w' b (ql R x v)/\w.grownBy w' (some b)):=by
  intro S Z c d aa z;refine⟨_,zc (za c) (i:=0) rfl,((S.pc+1:Nat):Int),(zg (by show _<=((S.pc:Nat):Int)+1/\((S.pc:Nat):Int)+1<=_;omega)).trans rfl,zn k3 c (o:=0+0) (v:=i64 (S.pc+1:Nat)) rfl rfl (by rw[zam];decide) rfl fun V q t sV=>?_⟩;rw[UH,zkf] at q;rw[z];exact⟨rfl,q,zf s (zf d t)⟩
 rcases hx with⟨a,n⟩ | ⟨a,n⟩ | a
 ·refine⟨1,by rw[a];rfl,by decide,?_⟩;refine zbb (v:=fnV 319) rfl (cmo (zmn p hm n) ?_);rintro e Z ⟨rfl,c,d⟩;exact h c d rfl (by unfold ql zmV;rw[Gd a])
 ·refine⟨2,by rw[a];rfl,by decide,?_⟩;refine zbb (v:=fnV 320) rfl (cmo (zkh p hm n) ?_);rintro e Z ⟨rfl,c,d⟩;exact h c d rfl (by unfold ql zmV;rw[Gc (by rw[a];decide),Gd a])
 ·refine⟨7,by rw[a];rfl,by decide,?_⟩;refine zbb (v:=fnV 325) rfl (cmo (zki p hm) ?_);rintro e Z ⟨rfl,c,d⟩;exact h c d rfl (by unfold ql zmV;rw[Gc (by rw[a];decide),Gc (by rw[a];decide),Gc (by rw[a];decide),Gc (by rw[a];decide),Gc (by rw[a];decide),Gc (by rw[a];decide),Gd a])
end
theorem zif{R:RunD}{x:InsD}{v:UInt8}(hx:zc7 x):(ql R x v).pc=R.pc+1/\(ql R x v).many=R.many+1:=by
 unfold ql zmV;rcases hx with⟨h,_⟩ | ⟨h,_⟩ | h
 ·rw[Gd h];exact⟨rfl,rfl⟩
 ·rw[Gc (by rw[h];decide),Gd h];exact⟨rfl,rfl⟩
 ·rw[Gc (by rw[h];decide),Gc (by rw[h];decide),Gc (by rw[h];decide),Gc (by rw[h];decide),Gc (by rw[h];decide),Gc (by rw[h];decide),Gd h];exact⟨rfl,rfl⟩
theorem zmk{α:Type}{E:Enc α}{w X:Wd}{q:OA}{l:List α}{b:Nat}(h:SlR E w q l)(hq:∀a,q=some a->a.block≠b)(g:w.grownBy X (some b)):SlR E X q l:=by
 rcases h with h | ⟨d,o,f,c,j⟩
 ·exact .inl h
 ·refine .inr ⟨d,o,f,nL c g.size,fun i k=>qC (g.block d c (fun e=>hq _ f (by cases e;rfl))) (j i k)⟩
theorem zoD{l:List InsD}{R:RunD}(h:l[R.pc]?=none):∀n,goR l n R=R
 | 0=>rfl
 | n+1=>by unfold goR;rw [h]
theorem zqs{l:List InsD}{R:RunD}{x:InsD}(h:l[R.pc]?=some x)(hr:zdl x=true):∀n,goR l n R=R
 | 0=>rfl
 | n+1=>by unfold goR;rw [h];simp only [hr,Gb]
theorem zqr{l:List InsD}{R:RunD}{x:InsD}(h:l[R.pc]?=some x)(hr:zdl x=false)(n:Nat):goR l (n+1) R=goR l n (ql R x 0):=by
 show(match l[R.pc]? with | none=>R | some x=>if zdl x then R else goR l n (ql R x 0))=_;rw[h];simp only[hr,Kn,UZ]
theorem zn0{x:InsD}(hx:zc7 x):(x.op=1/\zdl x=true)\/((x.op=2\/x.op=7)/\zdl x=false):=by
 unfold zdl;rcases hx with⟨h,_⟩ | ⟨h,_⟩ | h
 ·exact .inl ⟨h,by rw[h];rfl⟩
 ·exact .inr ⟨.inl h,by rw[h];rfl⟩
 ·exact .inr ⟨.inr h,by rw[h];rfl⟩
section
variable{R:RunD}{b:Nat}{w:Wd}{l:List InsD}{q:OA}{cap:Nat}
theorem zha(f:zag w b R)(hl:SlR zS w q l)(hq:∀a,q=some a->a.block≠b)(h12:l.length<=12)(hx:∀x∈l,zc7 x)(hm:R.many<=R.pc)(hp:R.pc<=l.length) :
  Calls PG 267 #[AtR b,.slice q l.length cap] w fun e w'=>e = .returned (.bool (l[(goR l l.length R).pc]?).isSome)/\zag w' b (goR l l.length R)/\w.grownBy w' (some b)/\(goR l l.length R).many<=(goR l l.length R).pc/\(goR l l.length R).pc<=l.length/\R.pc<=(goR l l.length R).pc:=by
 refine zC 34 [AtR b,.slice q l.length cap] Tryz.func267 ?_;refine⟨RunD×Nat,fun s=>⟨[(0,AtR b),(1,.slice q l.length cap)],[]⟩,
  fun s X=>(goR l l.length R=goR l s.2 s.1/\l.length<=s.2+s.1.pc/\s.1.many<=s.1.pc/\s.1.pc<=l.length/\R.pc<=s.1.pc)/\zag X b s.1/\w.grownBy X (some b),fun s=>l.length-s.1.pc,(R,l.length),
  (cvE rfl rfl),⟨⟨rfl,by omega,hm,hp,UN _⟩,f,qP w _⟩,?_⟩
 rintro⟨S,n⟩ X ⟨⟨he,hn,hm,hp,hpp⟩,fX,gX⟩;dsimp only at he hn hm hp hpp fX ⊢;refine⟨_,zc (za fX) (i:=0) rfl,?_⟩;refine biE (fun hc=>?_) fun hc=>?_
 ·have hc:(S.pc:Int)<(l.length:Int):=dT hc;have hi:S.pc<l.length:=by omega
  obtain⟨n,rfl⟩:∃n',n=n'+1:=⟨n-1,by omega⟩;obtain⟨bq,oq,rfl,hlq,hat⟩:=(zmk hl hq gX).at hi;have hg:l[S.pc]?=some l[S.pc]:=gE hi;have hxi:=hx _ (gM hi);refine⟨_,zc (za fX) (i:=0) rfl,?_⟩;refine⟨S.pc,rfl,hi,?_⟩;refine⟨_,zc (hat S.pc hi) (i:=0) rfl,?_⟩;rcases zn0 hxi with⟨ho,hr⟩ | ⟨ho,hr⟩
  ·have e1:goR l l.length R=S:=he.trans (zqs hg hr _);refine brE (by rw[ho];rfl) ?_;refine brE (by rw[ho];rfl) ?_;rw[e1,hg];exact⟨rfl,fX,gX,hm,hp,hpp⟩
  ·have no:∀k:UInt8,k=1\/k=4\/k=5\/k=6->decide (((l[S.pc].op).toNat:Int)=(k.toNat:Int))=false:=fun k hk=>by
    apply QX;intro e;have:=qm.1 e;rw[this] at ho;rcases hk with rfl | rfl | rfl | rfl <;> rcases ho with ho | ho <;> exact Ge ho (by decide)
   refine brN (no 1 (.inl rfl)) ?_;refine brN (no 4 (.inr (.inl rfl))) ?_;refine brN (no 5 (.inr (.inr (.inl rfl)))) ?_;refine brN (no 6 (.inr (.inr (.inr rfl)))) ?_;refine⟨_,zc (za fX) (i:=0) rfl,?_⟩;refine⟨S.pc,rfl,hi,?_⟩;refine⟨zS.enc l[S.pc],rfl,hat S.pc hi,hlq,?_⟩;refine cmo (zht (v:=0) fX (by omega) (by omega) hxi) ?_;rintro e Y ⟨rfl,fY,gY⟩;obtain⟨x1,x2⟩:=zif (R:=S) (v:=0) hxi;exact⟨(ql S l[S.pc] 0,n),(cvE rfl rfl),⟨⟨he.trans (zqr hg hr n),by rw[x1];omega,by rw[x1,x2];omega,by rw[x1];omega,by rw[x1];omega⟩,fY,zf gX gY⟩,by rw[x1];omega⟩
 ·have hc:¬(S.pc:Int)<(l.length:Int):=dF hc;have hg:l[S.pc]?=none:=JE (by omega);have e1:goR l l.length R=S:=he.trans (zoD hg _);rw[e1,hg];exact⟨rfl,fX,gX,hm,hp,hpp⟩
end
theorem zaW{n:Nat}{f:Nat->Value}(h:∀i,(f i).oneCell'=true):(seg n f).all Value.oneCell'=true:=by
 unfold seg;rw[Qa];intro u a;obtain⟨i,_,rfl⟩:=Uz.1 a;exact h i
theorem zl7:(zlc).toArray.size=259:=by kernel_rfl
theorem znR(R:RunD):(qG R).all Value.oneCell'=true:=by
 unfold qG;rw[Up,Qz,Qz,Qz,Qz,Qz,Qz,zaW fun _=>rfl,zaW fun _=>rfl,zaW fun _=>rfl,zaW fun _=>rfl,zaW fun _=>rfl];have:(zdz R.ev).all Value.oneCell'=true:=Qa.2 fun u a=>zgo (E:=evE) _ u a;rw[this];rfl
theorem qE{α:Type}{E:Enc α}{w X:Wd}{q:OA}{l:List α}(h:SlR E w q l)(hs:∀a,q=some a->X.heap[a.block]?=w.heap[a.block]?):SlR E X q l:=by
 rcases h with h | ⟨c,o,d,g,e⟩
 ·exact .inl h
 ·have b:=hs _ d;have b:X.heap[c]?=w.heap[c]?:=b;refine .inr ⟨c,o,d,?_,fun i j=>qC b (e i j)⟩;have f:w.heap[c]?=some w.heap[c]:=Jk g;rw[f] at b;exact hlt b
structure RowF {α:Type} (E:Enc α) (n0:Nat) (F:Nat->Prop) (X:Wd) (q:OA) (l:List α):Prop where
 row:SlR E X q l
 out:∀a,q=some a->a.block<n0/\¬F a.block
theorem RowF.keep{α:Type}{E:Enc α}{n0:Nat}{F F' G:Nat->Prop}{X Y:Wd}{q:OA}{l:List α}(h:RowF E n0 F X q l)(hn:n0<=X.heap.size)(k:KeepsG G F' X Y)(hG:∀k,k<n0->G k->F k):RowF E n0 F' Y q l:=by
 refine⟨qE h.row fun a b=>?_,fun a b=>⟨(h.out a b).1,fun e=>?_⟩⟩
 ·have:=h.out a b;exact k.same _ (by omega) fun d=>this.2 (hG _ this.1 d)
 ·have:=h.out a b;rcases k.fp _ e with c | c
  ·exact this.2 (hG _ this.1 c)
  ·omega
def StR (pre:List RunD) (vs:List Value) (W:Wd):Prop:=∃R b,pre.getLast?=some R/\vs=[AtR b]/\zag W b R
section
variable{yl n0 cap cd:Nat}{J Jx:List RunD->(Nat->Prop)->Wd->Prop}{xs:List RunD}{l:List InsD}{dom:List UInt8}{q p:OA}
theorem znH(hJ:JG n0 (fun _=>False) J)(hn0:∀pre F X,J pre F X->n0<=X.heap.size)(hy:∀pre x vs F W1,J pre F W1->StR (pre++[x]) vs W1->(pre++[x]) <+: xs->YieldR PG yl vs.toArray W1 fun v W2=>(v = .bool true/\∃F',J (pre++[x]) F' W2/\KeepsG F F' W1 W2)\/(v = .bool false/\∃F',Jx (pre++[x]) F' W2))(h12:l.length<=12)(hx:∀x∈l,zc7 x)(hd:dom.length<=1000) :
  ∀(n:Nat) (S:RunD) (b:Nat) (pre:List RunD) (F:Nat->Prop) (X:Wd),l.length<=n+S.pc->S.many<=S.pc->S.pc<=l.length->zag X b S->n0<=b->¬F b->J pre F X->RowF zS n0 F X q l->RowF zN n0 F X p dom->(pre++zZ l dom n S) <+: xs ->
   Calls PG 193 #[AtR b,.slice q l.length cap,.slice p dom.length cd,.func (.yield yl) #[] #[]] X fun e Y =>
    (e = .returned (.bool true)/\∃F',J (pre++zZ l dom n S) F' Y/\KeepsG (fun k=>F k\/k=b) F' X Y)\/(e = .returned (.bool false)/\∃pre' F',pre' <+: xs/\Jx pre' F' Y):=by
 intro n
 induction n with
 | zero =>
  intro S b pre F X hn hm hp fX hb t hj hq ad c;refine zC 41 [AtR b,.slice q l.length cap,.slice p dom.length cd,.func (.yield yl) #[] #[]] Tryz.func193 ?_;have a5:S.pc=l.length:=by omega
  have z:l[S.pc]?=none:=JE (by omega);have e1:goR l l.length S=S:=zoD z _;refine cmo (zha fX hq.row (fun a ha=>by have:=(hq.out a ha).1;omega) h12 hx hm hp) ?_;rintro e Y ⟨rfl,fY,r,_⟩;rw[e1] at fY ⊢;rw[z];refine brT ?_;have o:=hJ.step _ _ _ _ hj (StepG.grown r (.inl hb) t);have hs:zZ l dom 0 S=[S]:=by show[goR l l.length S]=_;rw[e1]
  rw[hs] at c ⊢;refine YieldR.mono (hy pre S [AtR b] F Y o ⟨S,b,by simp,rfl,fY⟩ c) ?_;rintro v Z (⟨rfl,F',d,ab⟩ | ⟨rfl,F',d⟩)
  ·exact .inl ⟨rfl,F',d,(KeepsG.grown (F:=fun k=>F k\/k=b) r (.inr rfl)).trans (ab.weak fun k h => .inl h)⟩
  ·exact .inr ⟨rfl,_,F',c,d⟩
 | succ n ih =>
  intro S b pre F X hn hm hp fX hb t hj hq ad c;refine zC 41 [AtR b,.slice q l.length cap,.slice p dom.length cd,.func (.yield yl) #[] #[]] Tryz.func193 ?_;obtain⟨T,hT⟩:=nm (goR l l.length S);refine cmo (zha fX hq.row (fun a ha=>by have:=(hq.out a ha).1;omega) h12 hx hm hp) ?_;rintro e Y ⟨rfl,fY,r,tm,tp,a3⟩;rw[<- hT] at fY tm tp a3 ⊢;have o:=hJ.step _ _ _ _ hj (StepG.grown r (.inl hb) t);have ae:=hn0 _ _ _ hj;have kY:KeepsG (fun k=>F k\/k=b) F X Y:=⟨r.os,r.tape,r.output,r.size,fun k hk hf=>r.block k hk (fun e=>hf (.inr (by cases e;rfl))),fun k h => .inl (.inl h)⟩;have ag:=hq.keep ae kY (fun k hk h=>h.resolve_right (by omega));have ak:=ad.keep ae kY (fun k hk h=>h.resolve_right (by omega))
  cases z:l[T.pc]? with
  | none =>
   refine brT ?_;have hs:zZ l dom (n+1) S=[T]:=by
    show(match l[(goR l l.length S).pc]? with | none=>[goR l l.length S] | some x=>_)=_;rw[<- hT,z]
   rw[hs] at c ⊢;refine YieldR.mono (hy pre T [AtR b] F Y o ⟨T,b,by simp,rfl,fY⟩ c) ?_;rintro v Z (⟨rfl,F',d,ab⟩ | ⟨rfl,F',d⟩)
   ·exact .inl ⟨rfl,F',d,kY.trans ab⟩
   ·exact .inr ⟨rfl,_,F',c,d⟩
  | some x =>
   have y:T.pc<l.length:=(Jo.1 z).1;have ai:l[T.pc]=x:=by rw[gE y] at z;exact QV z
   have am:zc7 x:=by rw[<- ai];exact hx _ (gM y)
   refine brF ?_;have hs:zZ l dom (n+1) S=dom.flatMap fun v=>zZ l dom n (ql T x v):=by
    show(match l[(goR l l.length S).pc]? with | none=>[goR l l.length S] | some x=>_)=_;rw[<- hT,z]
   rw[hs] at c ⊢;refine⟨Nat×(Nat->Prop),fun s=>⟨[(0,AtR b),(1,.slice q l.length cap),(2,.slice p dom.length cd),(3,.func (.yield yl) #[] #[]),(19,.slice p dom.length cd),(20,i64 dom.length),(21,i64 (s.1:Nat))],[]⟩,
    fun s Z=>s.1<=dom.length/\J (pre++(dom.take s.1).flatMap fun v=>zZ l dom n (ql T x v)) s.2 Z/\zag Z b T/\¬s.2 b/\RowF zS n0 s.2 Z q l/\RowF zN n0 s.2 Z p dom/\KeepsG (fun k=>F k\/k=b) s.2 X Z,fun s=>dom.length-s.1,(0,F),
    (cvE rfl rfl),⟨UP _,by rw[Uf];show J (pre++[]) F Y;rw[QA];exact o,fY,t,ag,ak,kY⟩,?_⟩
   clear fY r o ag ak kY;rintro⟨k,G⟩ Z ⟨hk,f,fZ,ac,aa,w,kZ⟩;dsimp only at hk f ac aa w kZ ⊢;have g:=hn0 _ _ _ f;refine biE (fun hc=>?_) fun hc=>?_
   ·have hc:(k:Int)<(dom.length:Int):=dT hc;have j:k<dom.length:=(by omega);obtain⟨bp,op,al,a4,aj⟩:=w.row.at j;have ah:=aa;obtain⟨bq,oq,aw,a0,an⟩:=aa.row.at y;have ep:some (Value.slice p dom.length cd)=some (Value.slice (some ⟨bp,op,none⟩) dom.length cd):=(by rw[al]);subst al;refine⟨k,rfl,j,u8 dom[k],by have:=zc (aj k j) (i:=0) (v:=u8 dom[k]) rfl;exact this,qG T,zam _,za fZ,hlt fZ,zr (X:=Z) (v := .agg (qG T).toArray) ztB (zam _) zl7 (znR _) fun V m fV sV=>?_⟩;subst aw;have fV:zag V Z.heap.size T:=fV;refine⟨_,zc (za fV) (i:=0) rfl,T.pc,rfl,y,zS.enc x,rfl,by rw[<- ai];exact zt m (an T.pc y),nL a0 m.size,cmo (zht (v:=dom[k]) fV (by omega) (by omega) am) ?_⟩;rintro e U ⟨rfl,fU,gU⟩;obtain⟨x1,x2⟩:=zif (R:=T) (v:=dom[k]) am;have af:¬G Z.heap.size:=fun h=>by have:=(hJ.lt _ _ _ _ f h).1;omega
    have a1:=hJ.step _ _ _ _ (hJ.step _ _ _ _ f (StepG.below m)) (StepG.grown gU (.inl g) af);have ay:Bw Z U:=m.trans (zm gU m.size (UN _));have u:KeepsG G G Z U:=KeepsG.below ay fun k h => .inl h;have ar:=ah.keep g u (fun k _ h=>h);have az:=w.keep g u (fun k _ h=>h);have ap:dom.flatMap (fun v=>zZ l dom n (ql T x v))=(dom.take k).flatMap (fun v=>zZ l dom n (ql T x v))++(zZ l dom n (ql T x dom[k])++(dom.drop (k+1)).flatMap fun v=>zZ l dom n (ql T x v)):=by
     have e:dom=dom.take k++dom[k]::dom.drop (k+1):=(by rw[JA,JL]);have e2:(dom.take k++dom[k]::dom.drop (k+1)).flatMap (fun v=>zZ l dom n (ql T x v))=(dom.take k).flatMap (fun v=>zZ l dom n (ql T x v))++(zZ l dom n (ql T x dom[k])++(dom.drop (k+1)).flatMap fun v=>zZ l dom n (ql T x v)):=by
      rw[Kb,KK]
     rw[<- e] at e2;exact e2
    have aq:((pre++(dom.take k).flatMap fun v=>zZ l dom n (ql T x v))++zZ l dom n (ql T x dom[k])) <+: xs:=by
     refine List.IsPrefix.trans ?_ c;rw[ap];exact⟨(dom.drop (k+1)).flatMap fun v=>zZ l dom n (ql T x v),by simp only[KH]⟩
    have au:(dom.take (k+1)).flatMap (fun v=>zZ l dom n (ql T x v))=(dom.take k).flatMap (fun v=>zZ l dom n (ql T x v))++zZ l dom n (ql T x dom[k]):=by
     rw[tsg j,Kb,KK,Qg,QA]
    refine cmo (ih (ql T x dom[k]) Z.heap.size (pre++(dom.take k).flatMap fun v=>zZ l dom n (ql T x v)) G U (by rw[x1];omega) (by rw[x1,x2];omega) (by rw[x1];omega) fU g af a1 ar az aq) ?_;rintro e V' (⟨rfl,F',av,kV⟩ | ⟨rfl,pre',F',a2,ao⟩)
    ·refine brF ?_;have kW:KeepsG G F' Z V':=⟨kV.os.trans u.os,kV.tape.trans u.tape,kV.output.trans u.output,UC u.size kV.size,fun i y hf=>(kV.same i (nL y u.size) (fun h=>by
      rcases h with h | h
      ·exact hf h
      ·omega)).trans (u.same i y hf),fun i h=>by
      have:=u.size;rcases kV.fp i h with(h2 | h2) | h2
      ·exact .inl h2
      ·exact .inr (by omega)
      ·exact .inr (by omega)⟩
     have ax:=hlt fZ;refine nxI (by omega) ⟨(k+1,F'),(cvE rfl rfl),⟨j,?_,(kW.same b ax ac).trans fZ,fun h=>?_,ah.keep g kW (fun _ _ h=>h),w.keep g kW (fun _ _ h=>h),kZ.trans kW⟩,zdc (by omega)⟩
     ·show J (pre++(dom.take (k+1)).flatMap fun v=>zZ l dom n (ql T x v)) F' V';rw[au,<- KH];exact av
     ·rcases kW.fp b h with h2 | h2
      ·exact ac h2
      ·omega
    ·exact brT (.inr ⟨rfl,pre',F',a2,ao⟩)
   ·have hc:¬(k:Int)<(dom.length:Int):=dF hc;obtain rfl:k=dom.length:=(by omega);rw[Qn] at f;exact .inl ⟨rfl,G,f,kZ⟩
theorem zkN{bi bd:Nat}{W0:Wd}(hl:SlR zS W0 q l)(hp:SlR zN W0 p dom)(fi:W0.heap[bi]?=some (.cells #[.slice q l.length cap] 64 (0,0)))(fd:W0.heap[bd]?=some (.cells #[.slice p dom.length cd] 23 (0,0)))(hql:∀a,q=some a->a.block<W0.heap.size)(hpl:∀a,p=some a->a.block<W0.heap.size)(h12:l.length<=12)(hx:∀x∈l,zc7 x)(hd:dom.length<=1000) :
  zhE PG 192 [AtR bi,AtR bd] (jT l dom) W0 (fun k=>(k=bi\/k=bd)\/(∃a,q=some a/\k=a.block)\/∃a,p=some a/\k=a.block) (fun _=>False) StR:=by
 intro yl F0 J Jx W ae d m r af hy h0;refine zC 9 [.func (.yield yl) #[] #[],AtR bi,AtR bd] Tryz.func192 ?_;obtain⟨X,hX⟩:=nm (W.alloc (.cells (qG zmo).toArray 209));have b:Bw W X:=by rw[hX];exact(zba W _)
 have fX:zag X W.heap.size zmo:=by rw[hX];exact zw W _
 have ez:zlc=qG zmo:=by kernel_rfl
 have f:W.alloc (.cells (zlc).toArray 209)=X:=by rw[hX,ez]
 have ac:=(d bi (.inl (.inl (.inl rfl)))).trans fi;have w:=(d bd (.inl (.inl (.inr rfl)))).trans fd;have ad:=r.step _ _ _ _ h0 (StepG.below b);have hF:¬F0 W.heap.size:=fun h=>by have:=(r.lt _ _ _ _ h0 h).1;omega
 have ab:RowF zS W.heap.size F0 X q l:=⟨qE hl fun a c=>(b.block _ (by have:=hql a c;omega)).trans (d _ (.inl (.inr (.inl ⟨a,c,rfl⟩)))),fun a c=>⟨by have:=hql a c;omega,m _ (.inr (.inl ⟨a,c,rfl⟩))⟩⟩;have aa:RowF zN W.heap.size F0 X p dom:=⟨qE hp fun a c=>(b.block _ (by have:=hpl a c;omega)).trans (d _ (.inl (.inr (.inr ⟨a,c,rfl⟩)))),fun a c=>⟨by have:=hpl a c;omega,m _ (.inr (.inr ⟨a,c,rfl⟩))⟩⟩;refine⟨_,by rw[f];exact zc (za (zb b ac)) (i:=0) rfl,_,by rw[f];exact zc (za (zb b w)) (i:=0) rfl,?_⟩;rw[f];have y:JG W.heap.size (fun _=>False) (fun g F Z=>J g F Z/\W.heap.size<=Z.heap.size):=⟨fun s F A B ⟨h,z⟩ hs=>⟨r.step _ _ _ _ h hs,UC z hs.size⟩,fun s F A k ⟨h,_⟩ hk=>r.lt _ _ _ _ h hk⟩;refine cmo (znH (xs:=jT l dom) (Jx:=Jx) y (fun _ _ _ h=>h.2) (fun g x vs F W1 ⟨t,z⟩ u j=>YieldR.mono (hy g x vs F W1 t u j) fun v W2 h=>?_) h12 hx hd l.length zmo W.heap.size [] F0 X (UN _) (UN _) (UP _) fX (UN _) hF ⟨ad,b.size⟩ ab aa (List.prefix_refl _)) ?_
 ·rcases h with⟨rfl,F',h1,o⟩ | h
  ·exact .inl ⟨rfl,F',⟨h1,UC z o.size⟩,o⟩
  ·exact .inr h
 ·rintro e Y (⟨rfl,F',⟨t,_⟩,_⟩ | ⟨rfl,n,F',h1,o⟩)
  ·exact⟨⟨_,rfl⟩,.inl ⟨F',t⟩⟩
  ·exact⟨⟨_,rfl⟩,.inr ⟨n,F',h1,o⟩⟩
theorem zii{w:Wd}:Calls PG 124 #[.slice q l.length cap,.slice p dom.length cd] w fun e w'=>e = .returned (.func (.func 192) #[] #[AtR w.heap.size,AtR (w.heap.size+1)])/\w'.heap[w.heap.size]?=some (.cells #[.slice q l.length cap] 64 (0,0))/\w'.heap[w.heap.size+1]?=some (.cells #[.slice p dom.length cd] 23 (0,0))/\w'.heap.size=w.heap.size+2/\Bw w w':=by
 refine zC 6 [.slice q l.length cap,.slice p dom.length cd] Tryz.func124 ?_;have a:=wz w (.cells #[.slice q l.length cap] 64);have b:=zw (w.alloc (.cells #[.slice q l.length cap] 64)) (.cells #[.slice p dom.length cd] 23);have c:=wz (w.alloc (.cells #[.slice q l.length cap] 64)) (.cells #[.slice p dom.length cd] 23);rw[a] at b c;refine⟨?_,z6 _ (zw w _),b,c,((zba w _)).alloc (by simp) _⟩;rw[<- a];rfl
end
theorem zsd{P:Program}{t e:TypeId}(hu:P.underlying t=some (.slice e))(d:Nat)(a:OA)(n c:Nat)(w:Wd):(Op.equalIn (d+1) t (.slice a n c) (.slice none 0 0)).run P w = .ok a.isNone w:=by
 cases a <;> simp[Op.equalIn,Ui hu]
theorem zon{n m:Nat}(h:n<256)(hm:Nat.ble 256 m=true):n<m:=nL h (JN hm)
theorem zrG{s:ByteArray}{n:Nat}{K:UInt8->Prop}(h:n<s.size)(k:∀u,K u):∃u,s.data.toList[n]?=some u/\K u:=by
 have h:n<s.data.toList.length:=by simpa using h
 exact⟨_,gE h,k _⟩
theorem zse{P:Program}{t e:TypeId}(hu:P.underlying t=some (.slice e))(x y:Operand)(a:OA)(n c:Nat)(w:Wd):(do eqGuard .eql t x y (.slice a n c) (.slice none 0 0);binOp .eql t (.slice a n c) (.slice none 0 0):Sem Value).run P w = .ok (.bool a.isNone) w:=by
 have h:(Op.equal t (.slice a n c) (.slice none 0 0)).run P w = .ok a.isNone w:=by
  exact zsd hu 9999 a n c w
 have d:(eqGuard .eql t x y (.slice a n c) (.slice none 0 0)).run P w = .ok () w:=by
  simp only[eqGuard,Ul,Kn,UZ,UK]
 rw[UJ,d];simp only[KT,binOp,UJ,h,UK]
theorem zfY{α:Type}{E:Enc α}{T:TypeId}{w:Wd}:OwnS E T w.heap.size (w.alloc (.cells #[] T)) (some ⟨w.heap.size,0,none⟩) 0 []:=by
 unfold OwnS World.ownsRow;exact⟨by simp,.inr ⟨w.heap.size,0,#[],rfl,UN _,zw w _,UN _,UP _,by simp,by simp⟩⟩
theorem zj1{p:OA}{cap:Nat}{l:List UInt8}{w:Wd}(hl:SlR zN w p l)(hn:l.length<=1000000)(hc:p=none->cap=0) :
  Calls PG 62 #[.slice p l.length cap] w fun e w'=>(∃q c,e = .returned (.slice q l.length c)/\OwnS zN 5 w.heap.size w' q c l)/\Bw w w':=by
 refine zC 8 [.slice p l.length cap] Tryz.func62 ?_;refine⟨_,fun w=>zse Tryz.underlying23 _ _ p l.length cap w,?_⟩
 cases p with
 | none =>
  refine brT ?_;have e:=hl.none;subst e;exact⟨⟨none,0,rfl,OwnS.nil⟩,UR _ _⟩
 | some a =>
  refine brF ⟨⟨by decide,by decide,rfl⟩,[],rfl,?_⟩;have d:Bw w (w.alloc (.cells #[] 5)):=zba w _;refine zej (E:=zN) (T:=5) (B:=w.heap.size) (l:=[]) (news:=l) (cap:=0) Tryz.underlying23 k5 rfl rfl rfl zfY rfl (hl.below d) (fun h=>by cases h) d.size (by simp;omega) (by simp;omega) ?_;intro j f w' i k g;exact⟨⟨j,f,rfl,i⟩,d.trans g⟩
theorem zrU{x:UInt8}{w:Wd}:Calls PG 297 #[u8 x] w fun e w'=>e = .returned (.bool false)/\w=w':=by
 refine zC 6 [u8 x] Tryz.func297 ?_;refine⟨rb ?_,rfl⟩;rw[Uh rfl];rfl
theorem zqe{x y:UInt8}{w:Wd}:Calls PG 264 #[u8 x,u8 y] w fun e w'=>e = .returned (.bool (decide ((x.toNat:Int)<(y.toNat:Int))))/\w=w':=by
 refine zC 17 [u8 x,u8 y] Tryz.func264 ?_;refine cmo zrU ?_;rintro e _ ⟨rfl,rfl⟩;exact brF (brF ⟨rfl,rfl⟩)
def zdj:List UInt8->Bool
 | []=>true
 | [_]=>true
 | x::y::r=>decide (x.toNat<=y.toNat)&&zdj (y::r)
theorem zlh:∀(l:List UInt8),zdj l=true->∀(k:Nat) (h:k+1<l.length),(l[k]).toNat<=(l[k+1]).toNat
 | [],_,k,h=>by simp at h
 | [x],_,k,h=>by simp at h
 | x::y::r,hs,k,h=>by
  unfold zdj at hs;rw[bAT,dE] at hs
  cases k with
  | zero=>exact hs.1
  | succ k=>exact zlh (y::r) hs.2 k (by simpa using h)
section
variable{b o cap:Nat}{l:List UInt8}{w:Wd}
theorem zkH(hl:SlR zN w (some ⟨b,o,none⟩) l)(h12:l.length<=12)(hs:zdj l=true) :
  CB 258 #[.slice (some ⟨b,o,none⟩) l.length cap,i64 0,i64 l.length] w (.tuple #[]):=by
 refine zC 49 [.slice (some ⟨b,o,none⟩) l.length cap,i64 0,i64 l.length] Tryz.func258 ?_;refine⟨1,by decide,?_⟩;refine⟨Nat,fun k=>⟨[(0,.slice (some ⟨b,o,none⟩) l.length cap),(1,i64 0),(2,i64 l.length),(6,i64 (k+1:Nat))],[]⟩,fun k X=>Bw w X,fun k=>l.length-k,0,
  (cvE rfl rfl),UR _ _,?_⟩
 rintro k X j;refine biE (fun f=>?_) fun f=>?_
 ·have f:((k+1:Nat):Int)<(l.length:Int):=dT f;have d:k+1<l.length:=by omega
  refine⟨Unit,fun _=>⟨[(0,.slice (some ⟨b,o,none⟩) l.length cap),(1,i64 0),(2,i64 l.length),(6,i64 (k+1:Nat)),(7,i64 (k+1:Nat))],[]⟩,fun _ Y=>Bw w Y,fun _=>0,(),(cvE rfl rfl),j,?_⟩;rintro _ Y g;have a:Bw w Y.drew:=g.drew;refine DrawE.ord [] [0,1,2,3,4,5,6,7,8,9,10,11,12,13,14] (by kernel_rfl) (brE (Uh (by omega)) ?_);obtain⟨q,p,m,h,c⟩:=(hl.below a).at d;simp only[KS,Uj,UX] at m;obtain⟨rfl,rfl⟩:=m;refine⟨k+1,rfl,d,u8 l[k+1],by have:=zc (c (k+1) d) (i:=0) (v:=u8 l[k+1]) rfl;exact this,(k:Nat),(zg (by omega)).trans (by omega),k,rfl,by omega,?_⟩;refine⟨u8 l[k],by have:=zc (c k (by omega)) (i:=0) (v:=u8 l[k]) rfl;exact this,cmo zqe ?_⟩;rintro e _ ⟨rfl,rfl⟩;refine⟨UR _ _,?_⟩;have n:=zlh l hs k d;exact brN (QX (by omega)) ⟨((k+1+1:Nat):Int),(zg (by omega)).trans (by omega),k+1,(cvE rfl rfl),a,zdc (by omega)⟩
 ·exact⟨rfl,j⟩
theorem zrP{m:Int}(hl:SlR zN w (some ⟨b,o,none⟩) l)(h12:l.length<=12)(hs:zdj l=true) :
  CB 191 #[.slice (some ⟨b,o,none⟩) l.length cap,i64 0,i64 l.length,i64 m] w (.tuple #[]):=by
 refine zC 134 [.slice (some ⟨b,o,none⟩) l.length cap,i64 0,i64 l.length,i64 m] Tryz.func191 ?_;refine⟨Unit,fun _=>⟨[(0,.slice (some ⟨b,o,none⟩) l.length cap),(1,i64 0),(2,i64 l.length),(3,i64 m)],[]⟩,fun _ X=>w=X,fun _=>0,(),(cvE rfl rfl),rfl,?_⟩;rintro _ _ rfl;refine⟨(l.length:Nat),(zg (by omega)).trans (by omega),brE (Uh (by omega)) (cmo (zkH hl h12 hs) ?_)⟩;rintro e X ⟨rfl,a⟩;exact⟨rfl,a⟩
theorem zrd{n:Nat}(h:n<256):Calls PG 227 #[.int .u64 (n:Nat)] w fun e w'=>(∃m:Int,e = .returned (i64 m))/\w=w':=by
 refine zC 25 [.int .u64 (n:Nat)] Tryz.func227 ?_;exact brN (QX (by omega)) (brN (QX (by omega)) (brN (QX (by omega)) ⟨(n:Nat),zcQ (by omega),n,rfl,zon h (by kernel_rfl),zrG (zon h (by kernel_rfl)) fun u=>⟨_,rfl,_,rfl,⟨_,rfl⟩,rfl⟩⟩))
theorem znc{n:Nat}(h:n<256):Calls PG 168 #[.int .u64 (n:Nat)] w fun e w'=>(∃m:Int,e = .returned (i64 m))/\w=w':=by
 refine zC 8 [.int .u64 (n:Nat)] Tryz.func168 ?_;refine brF (cmo (zrd h) ?_);rintro e _ ⟨⟨m,rfl⟩,rfl⟩;exact⟨⟨m,rfl⟩,rfl⟩
theorem zra(hl:SlR zN w (some ⟨b,o,none⟩) l)(h12:l.length<=12)(hs:zdj l=true) :
  CB 122 #[.slice (some ⟨b,o,none⟩) l.length cap] w (.tuple #[]):=by
 refine zC 11 [.slice (some ⟨b,o,none⟩) l.length cap] Tryz.func122 ?_;refine⟨(l.length:Nat),zcn (by omega),cmo (znc (by omega)) ?_⟩;rintro e _ ⟨⟨m,rfl⟩,rfl⟩;refine cmo (zrP hl h12 hs) ?_;rintro e X ⟨rfl,a⟩;exact⟨rfl,a⟩
end
def zdE:UInt8->List UInt8->List UInt8
 | _,[]=>[]
 | p,y::r=>if y=p then zdE p r else y::zdE y r
def ded:List UInt8->List UInt8
 | []=>[]
 | x::r=>x::zdE x r
theorem zeO:∀(A:List UInt8) (p x:UInt8),zdE p (A++[x])=if x=(p::A).getLast (by simp) then zdE p A else zdE p A++[x]
 | [],p,x=>by
  show(if x=p then[] else[x])=_;rfl
 | y::A,p,x=>by
  show(if y=p then zdE p (A++[x]) else y::zdE y (A++[x]))=_;have a:(p::y::A).getLast (by simp)=(y::A).getLast (by simp):=List.getLast_cons (by simp);rw[a];show _=if x=(y::A).getLast _ then(if y=p then zdE p A else y::zdE y A) else(if y=p then zdE p A else y::zdE y A)++[x]
  by_cases h:y=p
  ·subst h;rw[Gd rfl,Gd rfl,zeO A y x]
  ·rw[Gc h,Gc h,zeO A y x]
   split <;> rfl
theorem zoX{A:List UInt8}(h:A≠[])(x:UInt8):ded (A++[x])=if x=A.getLast h then ded A else ded A++[x]:=by
 cases A with
 | nil=>exact Ge rfl h
 | cons y A =>
  show y::zdE y (A++[x])=_;rw[zeO];show _=if x=(y::A).getLast h then y::zdE y A else y::zdE y A++[x]
  split <;> rfl
theorem zjB{l:List UInt8}{i:Nat}(h0:0<i)(hi:i<l.length):ded (l.take (i+1))=if l[i]=l[i-1] then ded (l.take i) else ded (l.take i)++[l[i]]:=by
 rw[tsg hi];have b:l.take i≠[]:=by
  intro e;have:=UY List.length e;rw[Ql,QE] at this;omega
 rw[zoX b];have:(l.take i).getLast b=l[i-1]:=by
  have a:(l.take i).length-1=i-1:=by rw[Ql];omega
  simp only[List.getLast_eq_getElem,List.getElem_take,a]
 rw[this]
section
variable{B g cap:Nat}{l:List UInt8}{w:Wd}
theorem zeh{X:Wd}{sp:List Value}{M:List UInt8}(h:RowS zN 5 X g sp M){i:Nat}(hi:i<M.length):X.cell? ⟨g,0+i*1,none⟩=some (u8 M[i]):=by
 have:=zc (h.at hi) (i:=0) (v:=u8 M[i]) rfl;exact this
theorem zjN{M:List UInt8}{i:Nat}{x:UInt8}(h:M[i]?=some x):∃hi:i<M.length,M[i]=x:=by
 obtain⟨hi,e⟩:=Jo.1 h;exact⟨hi,e⟩
theorem zlb(ho:OwnS zN 5 B w (some ⟨g,0,none⟩) cap l)(hn:l.length<=1000000) :
  Calls PG 123 #[.slice (some ⟨g,0,none⟩) l.length cap] w fun e w'=>e = .returned (.slice (some ⟨g,0,none⟩) (ded l).length cap)/\OwnS zN 5 B w' (some ⟨g,0,none⟩) cap (ded l)/\w.grownBy w' (some g):=by
 refine zC 61 [.slice (some ⟨g,0,none⟩) l.length cap] Tryz.func123 ?_;rcases ho.inv with⟨h,_⟩ | ⟨g',u,hg,hB,ah,ax,aj,ac,ab⟩
 ·cases h
 simp only[KS,Uj,UX] at hg;subst hg;have ac:u.size=cap:=by rw[ac];exact UO _
 obtain⟨c,af⟩:=nm (u.toList.drop l.length);have ab:u.toList.take l.length=l.flatMap zN.enc:=by rw[<- ab];congr 1;exact(UO _).symm
 have hR:RowS zN 5 w g c l:=by
  unfold RowS;rw[ah,<- ab,af,JL]
 have av:l.length+c.length=cap:=by
  have h1:u.toList.length=cap:=by rw[Array.length_toList];exact ac
  rw[af,Qk,h1];omega
 refine biE (fun h=>?_) fun h=>?_
 ·have h:(l.length:Int)<2:=dT h;have e:ded l=l:=by
   match l,h with
   | [],_=>rfl
   | [x],_=>rfl
   | x::y::r,h=>simp at h;omega
  rw[e];exact⟨rfl,ho,qP w _⟩
 have h:¬(l.length:Int)<2:=dF h;have ay:2<=l.length:=by omega
 refine⟨Nat,fun k=>⟨[(0,.slice (some ⟨g,0,none⟩) l.length cap),(3,i64 (k:Nat))],[]⟩,fun k X=>1<=k/\k<=l.length/\ded (l.take k)=l.take k/\RowS zN 5 X g c l/\w.grownBy X (some g),fun k=>l.length-k,1,
  (cvE rfl rfl),⟨UN _,by omega,by
   cases l with
   | nil=>rfl
   | cons x r=>rfl,hR,qP w _⟩,?_⟩
 rintro k X ⟨an,aw,o,ak,gX⟩;refine biE (fun f=>?_) fun f=>?_
 ·have f:(k:Int)<(l.length:Int):=dT f;have hk:k<l.length:=by omega
  refine DrawE.ord [] [0,1,2,3,4,5,6,7,8,9] (by kernel_rfl) ?_;have t:RowS zN 5 X.drew g c l:=ak;have gd:w.grownBy X.drew (some g):=zf gX ⟨rfl,rfl,rfl,UN _,fun _ _ _=>rfl⟩;refine⟨k,rfl,hk,_,zeh t hk,((k-1:Nat):Int),(zg (by omega)).trans (by omega),k-1,rfl,by omega,?_⟩;refine⟨_,zeh t (by omega),?_⟩;have d:=zjB (l:=l) an hk;refine biE (fun he=>?_) fun he=>?_
  ·have he:l[k]=l[k-1]:=qm.1 (dT he);rw[Gd he] at d;refine⟨k,rfl,by show k<=l.length;omega,?_⟩;have al:z7 (some ⟨g,0,none⟩) cap k 1=some ⟨g,k,none⟩:=by
    unfold z7;rw[Gc (by omega)];show some ((⟨g,0,none⟩:Addr).add (k*1))=_;rw[j5,UO,UH]
   refine⟨Nat×Nat×List UInt8,fun s=>⟨[(0,.slice (some ⟨g,0,none⟩) l.length cap),(3,i64 (s.2.1:Nat)),(4,.slice (some ⟨g,k,none⟩) (l.length-k) (cap-k)),(5,i64 (s.1:Nat))],[]⟩,
    fun s Y=>(1<=s.1/\k+s.1<=l.length)/\(s.2.1=(ded (l.take (k+s.1))).length/\s.2.1+1<=k+s.1)/\(s.2.2.length=l.length/\s.2.2.take s.2.1=ded (l.take (k+s.1))/\∀j,s.2.1<=j->s.2.2[j]?=l[j]?)/\RowS zN 5 Y g c s.2.2/\w.grownBy Y (some g),fun s=>l.length-s.1,(1,k,l),
    ⟨.cons rfl (.cons rfl (.cons (by rw[<- al];rfl) (.cons rfl .nil))),rfl⟩,⟨⟨UN _,by show k+1<=_;omega⟩,⟨by show k=_;rw[d,o,Ql];omega,UN _⟩,⟨rfl,by show l.take k=_;rw[d,o],fun j _=>rfl⟩,t,gd⟩,?_⟩
   rintro⟨m,q,M⟩ Y ⟨⟨ad,ar⟩,⟨hq,ao⟩,⟨hM,p,n⟩,z,gY⟩;dsimp only at ad ar hq ao hM p n z ⊢;refine biE (fun f=>?_) fun f=>?_
   ·have f:(m:Int)<((l.length-k:Nat):Int):=dT f;have hi:k+m<l.length:=(by omega);have g1:M[k+m]?=some l[k+m]:=(by rw[n _ (by omega),gE hi]);have g0:M[k+m-1]?=some l[k+m-1]:=(by rw[n _ (by omega),gE (by omega)]);obtain⟨i1,e1⟩:=zjN g1;obtain⟨i0,e0⟩:=zjN g0;have nx:=zjB (l:=l) (i:=k+m) (by omega) hi;refine DrawE.ord [] [0,1,2,3,4,5,6,7,8,9] (by kernel_rfl) ?_;have b:RowS zN 5 Y.drew g c M:=z;have ag:w.grownBy Y.drew (some g):=zf gY ⟨rfl,rfl,rfl,UN _,fun _ _ _=>rfl⟩;have a1:Y.drew.cell? ⟨g,k+m*1,none⟩=some (u8 l[k+m]):=by
     have:=zeh b i1;rw[e1,UO,UH] at this;rw[UO];exact this
    have a0:Y.drew.cell? ⟨g,k+(m-1)*1,none⟩=some (u8 l[k+m-1]):=by
     have:=zeh b i0;rw[e0,UO,UH] at this;rw[UO,<- Nat.add_sub_assoc ad];exact this
    refine⟨m,rfl,by omega,?_⟩;refine⟨_,a1,((m-1:Nat):Int),(zg (by omega)).trans (by omega),m-1,rfl,by omega,?_⟩;refine⟨_,a0,biE (fun a=>?_) fun a=>?_⟩
    ·have a:¬l[k+m]=l[k+m-1]:=fun e=>by
      have a:(!decide (((l[k+m]).toNat:Int)=((l[k+m-1]).toNat:Int)))=true:=a;rw[e,Uh rfl] at a;cases a
     rw[Gc a] at nx;refine⟨m,rfl,by omega,?_⟩;refine⟨_,a1,q,rfl,by omega,?_⟩;refine zg3 k5 rfl b (i:=q) (by omega) l[k+m] fun Z am gZ sZ=>nxI (by omega) (nxI (by omega) ⟨(m+1,q+1,M.set q l[k+m]),(cvE rfl rfl),⟨⟨by omega,by show k+(m+1)<=_;omega⟩,⟨?_,by show q+1+1<=k+(m+1);omega⟩,⟨by rw[QF];exact hM,?_,fun j hj=>?_⟩,am,zf ag gZ⟩,zdc (by omega)⟩)
     ·show q+1=(ded (l.take (k+(m+1)))).length;rw[<- Us,nx,lap,<- hq];rfl
     ·show(M.set q l[k+m]).take (q+1)=ded (l.take (k+(m+1)));rw[<- Us,nx,<- p];rw[tsg (by rw[QF];omega),List.take_set_of_le (UN _),List.getElem_set_self]
     ·show(M.set q l[k+m])[j]?=l[j]?;have hj:q+1<=j:=hj;rw[JQ (by omega)];exact n j (by omega)
    ·have aq:l[k+m]=l[k+m-1]:=by
      have a:(!decide (((l[k+m]).toNat:Int)=((l[k+m-1]).toNat:Int)))=false:=a;have h2:decide (((l[k+m]).toNat:Int)=((l[k+m-1]).toNat:Int))=true:=(by simpa using a);exact qm.1 (dT h2)
     rw[Gd aq] at nx;exact nxI (by omega) ⟨(m+1,q,M),(cvE rfl rfl),⟨⟨by omega,by show k+(m+1)<=_;omega⟩,⟨by show q=(ded (l.take (k+(m+1)))).length;rw[<- Us,nx];exact hq,by show q+1<=k+(m+1);omega⟩,⟨hM,by show M.take q=ded (l.take (k+(m+1)));rw[<- Us,nx];exact p,n⟩,b,ag⟩,zdc (by omega)⟩
   ·have f:¬(m:Int)<((l.length-k:Nat):Int):=dF f;have au:k+m=l.length:=(by omega);rw[au,Qn] at hq p;refine⟨q,rfl,by show q<=l.length;omega,?_⟩;have ae:z7 (some ⟨g,0,none⟩) cap q 1=some ⟨g,q,none⟩:=by
     unfold z7;rw[Gc (by omega)];show some ((⟨g,0,none⟩:Addr).add (q*1))=_;rw[j5,UO,UH]
    have aa:(M.flatMap zN.enc++c).length=cap:=by
     rw[lap,zU,hM];show l.length*1+_=_;omega
    have ap:SatR ((Builtin.clear_ #[23] 0 #[.slice (some ⟨g,q,none⟩) (l.length-q) (cap-q)]).run PG Y) fun _ Z=>Z.heap[g]?=some (.cells ((M.flatMap zN.enc++c).take q++List.replicate (l.length-q) (u8 0)++(M.flatMap zN.enc++c).drop (q+(l.length-q))).toArray 5 (0,0))/\Y.grownBy Z (some g) :=
     zm5 Tryz.underlying23 k5 rfl rfl (by omega) z (by show q+(l.length-q)<=(M.flatMap zN.enc++c).length;rw[aa];omega) fun Z fZ gZ sZ=>⟨fZ,gZ⟩
    obtain⟨v,Z,ai,fZ,gZ⟩:=ap;refine⟨v,Z,by rw[ae];exact ai,?_⟩;refine⟨q,rfl,by show q<=cap;omega,?_⟩;rw[<- hq];refine⟨by show Ending.returned (Value.slice (z7 (some ⟨g,0,none⟩) cap 0 1) (q-0) (cap-0))=_;rw[js];rfl,?_,zf gY gZ⟩;unfold OwnS World.ownsRow;refine⟨by rw[zU],.inr ⟨g,cap,_,rfl,hB,fZ,by omega,aj,?_,?_⟩⟩
    ·show(List.length _)=cap*1;rw[lap,lap,Ql,JI,Qk,aa];omega
    ·rw[<- hq];show((M.flatMap zN.enc++c).take q++List.replicate (l.length-q) (u8 0)++(M.flatMap zN.enc++c).drop (q+(l.length-q))).take (q*1)=_;rw[UO,KH,Je (by rw[Ql,aa];omega),List.take_take,Nat.min_self,Je (by rw[zU,hM];show q<=l.length*1;omega),<- p];have:=JL q M;have e2:M.flatMap zN.enc=(M.take q).flatMap zN.enc++(M.drop q).flatMap zN.enc:=(by rw[<- Kb,JL]);rw[e2,QM (by rw[zU,Ql];show min q M.length*1=q;omega)]
  ·have he:¬l[k]=l[k-1]:=fun e=>(dF he) (by rw[e]);rw[Gc he,o] at d;exact nxI (by omega) ⟨k+1,(cvE rfl rfl),⟨by omega,hk,by rw[d,tsg hk],t,gd⟩,zdc (by omega)⟩
 ·have f:¬(k:Int)<(l.length:Int):=dF f;obtain rfl:k=l.length:=by omega
  rw[Qn] at o;rw[o];refine⟨rfl,?_,gX⟩;unfold OwnS World.ownsRow;refine⟨by rw[zU],.inr ⟨g,cap,_,rfl,hB,ak,by omega,aj,?_,?_⟩⟩
  ·show(l.flatMap zN.enc++c).length=cap*1;rw[lap,zU];show l.length*1+_=_;omega
  ·exact QM (zU l)
end
end Go.Proofs.YtakcdebpklffiaaGreatDoor
