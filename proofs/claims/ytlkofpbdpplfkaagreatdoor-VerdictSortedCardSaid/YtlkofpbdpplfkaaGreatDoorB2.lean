/- Contracts of functions, and plain facts, for the law that the last text of this claim proves. -/
import Derived.Test.YtlkofpbdpplfkaaGreatDoorB1
import Derived.Laws.BytesArg
import Derived.Laws.Strings
import Derived.Laws.StructEq
import Derived.ChangeKeysEq
import Derived.LaidEql
import Derived.Laws.Rows
import Derived.RangeFuncIn
import Derived.RangeFuncNested
import Derived.Laws.MakeOwn
set_option linter.unusedSimpArgs false
set_option linter.unusedVariables false
namespace Go.Sei
def zhW (c:UInt8):Bool:=(decide ((97:Int)<=c.toNat)&&decide ((c.toNat:Int)<=122))||(decide ((65:Int)<=c.toNat)&&decide ((c.toNat:Int)<=90))
def ziP (c:UInt8):Bool:=decide ((48:Int)<=c.toNat)&&decide ((c.toNat:Int)<=57)
def eqB (c:UInt8) (k:Int):Bool:=decide ((c.toNat:Int)=k)
def znK (c:UInt8):Bool:=eqB c 61||(eqB c 43||(eqB c 45||(eqB c 94||(eqB c 38||(eqB c 124||(eqB c 33||(eqB c 40||(eqB c 41||(eqB c 58||eqB c 60)))))))))
def clsL (c:UInt8):Nat :=
 bif zhW c then 3 else bif ziP c then 4 else bif eqB c 32||eqB c 9 then 1 else bif eqB c 10 then 2 else bif eqB c 95 then 5 else bif eqB c 35 then 7 else bif znK c then 6 else 0
def zaT (c:UInt8):Bool:=decide (clsL c=3)||(decide (clsL c=4)||decide (clsL c=5))
def zb4 (p:UInt8->Bool):List UInt8->Nat
 | []=>0
 | c::r=>if p c then zb4 p r+1 else 0
theorem zjn (p:UInt8->Bool):∀ l,zb4 p l<=l.length
 | []=>Nat.le_refl _
 | c::r=>by
  unfold zb4
  split
  ·exact Nat.succ_le_succ (zjn p r)
  ·exact Nat.zero_le _
def zj1 (c:UInt8):Bool:=decide (clsL c=1)
def zga (c:UInt8):Bool := !decide (clsL c=2)
def digB (c:UInt8):Bool:=decide (clsL c=4)
def zdj (s:List UInt8) (a:Nat):Nat:=a+zb4 zj1 (s.drop a)
def zaA (s:List UInt8) (a:Nat):Nat :=
 match s[zdj s a]? with
 | some c=>if clsL c=7 then zdj s a+zb4 zga (s.drop (zdj s a)) else zdj s a
 | none=>zdj s a
structure Tok where
 kind:UInt8
 text:List UInt8
 pos:Nat
 deriving DecidableEq
def endL (s:List UInt8) (a:Nat) (c:UInt8):Nat :=
 if clsL c=3 then a+1+zb4 zaT (s.drop (a+1)) else if clsL c=4 then a+1+zb4 digB (s.drop (a+1)) else
  if (eqB c 61||eqB c 33)&&decide (s[a+1]?=some 61) then a+2 else a+1
def zhU (c:UInt8):UInt8:=if clsL c=3 then 1 else if clsL c=4 then 2 else 3
def tokL (s:List UInt8) (a:Nat) (c:UInt8):Tok:=⟨zhU c,(s.drop a).take (endL s a c-a),a⟩
def zbN (s:List UInt8) (a:Nat):Bool:=match s[a]? with
 | some c=>decide (clsL c=2)
 | none=>true
def zcs (s:List UInt8):Nat->Nat->Bool->Option (Tok×Nat×Bool)
 | 0,_,_=>none
 | f+1,a,op=>match s[zaA s a]? with
  | some c=>if clsL c=2 then (if op then some (⟨4,[],zaA s a⟩,min (zaA s a+1) s.length,false) else zcs s f (min (zaA s a+1) s.length) false)
   else some (tokL s (zaA s a) c,endL s (zaA s a) c,true)
  | none=>if op then some (⟨4,[],zaA s a⟩,min (zaA s a+1) s.length,false) else none
def zen (s:List UInt8):Nat->Nat->Bool->List Tok
 | 0,_,_=>[]
 | f+1,a,op=>match zcs s (s.length+2) a op with
  | some (t,a',op')=>t::zen s f a' op'
  | none=>[]
def numL (s:List UInt8):Bool:=decide (1<=s.length)&&(decide (s.length<=3)&&(!(decide (s.head?=some 48)&&decide (1<s.length))&&(s.all digB&&decide (s.foldl (fun v c=>10*v+(c.toNat-48)) 0<=255))))
def zbs (t:Tok):Int :=
 if t.kind=1 then (if 16<t.text.length then 42 else 0) else if t.kind=2 then (if numL t.text then 0 else 41) else
 if t.kind=3 then (match t.text with | c::_=>if clsL c=6 then 0 else 40 | []=>0) else 0
def zbg (s:List UInt8):List Tok:=zen s (2*s.length+3) 0 false
def twoB (l:List Tok) (s:List UInt8):Bool:=match l with
 | [t,_]=>decide (t.kind=1)&&decide (t.text=s)
 | _=>false
def zeB (s:List UInt8):Bool:=decide (s.length<=16384)&&((zbg s).all (fun t=>decide (zbs t=0))&&twoB (zbg s) s)
structure InsD where
 op:UInt8
 dst:UInt8
 loc:UInt8
 ar:Bool
 an:UInt8
 br:Bool
 bn:UInt8
 fn:UInt8
 mode:UInt8
 skip:UInt8
 deriving DecidableEq
inductive Cnd where
 | mk (kind thread n val:UInt8) (kids:List Cnd)
def Cnd.kind:Cnd->UInt8 | .mk k _ _ _ _=>k
def Cnd.thread:Cnd->UInt8 | .mk _ t _ _ _=>t
def Cnd.n:Cnd->UInt8 | .mk _ _ n _ _=>n
def Cnd.val:Cnd->UInt8 | .mk _ _ _ v _=>v
def Cnd.kids:Cnd->List Cnd | .mk _ _ _ _ l=>l
structure Prg where
 name:List UInt8
 locs:List (List UInt8)
 init:List UInt8
 threads:List (List InsD)
 ask:UInt8
 cond:Cnd
def zq2:List (List UInt8):=[[116,101,115,116],[105,110,105,116],[116,104,114,101,97,100],[115,111,109,101],[110,111,110,101],[97,108,108],[97,99,113],[114,101,108],[115,119,97,112],[102,101,116,99,104],[99,97,115],
 [102,101,110,99,101],[108,111,97,100,115],[115,116,111,114,101,115],[115,107,105,112],[105,102],[116,114,117,101]]
def ziO (s:List UInt8):Bool:=zq2.any fun k=>decide (s=k)
def za9 (s:List UInt8):Nat:=(s.filter digB).length
def zfD (s:List UInt8):Bool:=match s with
 | []=>false
 | c::r=>decide (r.length+1<=16)&&(decide (clsL c=3)&&(!ziO (c::r)&&(r.all zaT&&(!decide (c=114)||(decide (za9 r=0)||decide (za9 r<r.length))))))
def zd9:List (List UInt8)->List (List UInt8)->Bool
 | _,[]=>true
 | pre,s::r=>zfD s&&(!(pre.any fun q=>decide (q=s))&&zd9 (pre++[s]) r)
def zgb (p:Prg):Bool:=decide (1<=p.locs.length)&&(decide (p.locs.length<=6)&&(decide (p.init.length=p.locs.length)&&zd9 [] p.locs))
def zgY:List UInt8:=[0,35,38,29,7,7,15,32,92]
def hasL (op bit:UInt8):Bool := !decide (zgY.getD op.toNat 0&&&bit=0)
def zgX (x:InsD):InsD where
 op:=x.op
 dst:=if hasL x.op 1 then x.dst else 0
 loc:=if hasL x.op 2 then x.loc else 0
 ar:=hasL x.op 4&&x.ar
 an:=if hasL x.op 4 then x.an else 0
 br:=hasL x.op 8&&x.br
 bn:=if hasL x.op 8 then x.bn else 0
 fn:=if hasL x.op 16 then x.fn else 0
 mode:=if hasL x.op 32 then x.mode else 0
 skip:=if hasL x.op 64 then x.skip else 0
def zgZ (x:InsD):Bool:=if x.op=1 then decide (x.mode=0)||decide (x.mode=1) else if x.op=2 then decide (x.mode=0)||decide (x.mode=2) else
 if x.op=7 then decide (x.mode=3)||(decide (x.mode=4)||decide (x.mode=5)) else true
def fnL (x:InsD):Bool:=if x.op=3 then decide (x.fn=1)||(decide (x.fn=2)||decide (x.fn=3)) else if x.op=8 then decide (x.fn=4)||(decide (x.fn=5)||decide (x.fn=6)) else true
def argL (r:Bool) (n:UInt8):Bool := !r||decide (n.toNat<8)
def insC (x:InsD) (locs after:Nat):List Bool:=[
 decide (1<=x.op.toNat)&&decide (x.op.toNat<=8),
 decide (x=zgX x),
 decide (x.dst.toNat<8),
 !hasL x.op 2||decide (x.loc.toNat<locs),
 argL x.ar x.an&&argL x.br x.bn,
 zgZ x,
 fnL x,
 !hasL x.op 64||(decide (1<=x.skip.toNat)&&decide (x.skip.toNat<=after))]
def insB (x:InsD) (locs after:Nat):Bool:=(insC x locs after).all id
def zbk (l:List InsD) (locs:Nat):Bool:=decide (l.length<=12)&&(List.range l.length).all fun i=>match l[i]? with
 | some x=>insB x locs (l.length-1-i)
 | none=>true
def zcv (threads locs:Nat):Nat->Cnd->Bool
 | 0,_=>false
 | d+1,.mk k t n v kids =>
  let bare:=decide (t=0)&&(decide (n=0)&&decide (v=0))
  if k=0 then bare&&decide (kids.length=0) else
  if k=1 then decide (t.toNat<threads)&&(decide (n.toNat<8)&&decide (kids.length=0)) else
  if k=2 then decide (n.toNat<locs)&&(decide (t=0)&&decide (kids.length=0)) else
  if k=3\/k=4 then bare&&(decide (2<=kids.length)&&kids.all (zcv threads locs d)) else
  if k=5 then bare&&(decide (kids.length=1)&&kids.all (zcv threads locs d)) else false
def zf9 (p:Prg):Bool:=zeB p.name&&(zgb p&&((decide (1<=p.threads.length)&&(decide (p.threads.length<=4)&&p.threads.all fun l=>decide (l.length<=12))) &&
 (p.threads.all (fun l=>zbk l p.locs.length)&&((decide (p.ask=1)||(decide (p.ask=2)||decide (p.ask=3)))&&zcv p.threads.length p.locs.length 20 p.cond))))
end Go.Sei
namespace Go.Proofs.YtlkofpbdpplfkaaGreatDoor
open Go.Vc Go.RowKit Go.Sei
def bs (l:List UInt8):ByteArray:=⟨l.toArray⟩
def strV (l:List UInt8):Value := .string (bs l)
theorem zqj (l:List UInt8):(bs l).data.toList=l:=rfl
theorem za8 (x y:Operand) (a b:List UInt8) (w:World):(do eqGuard .eql 9 x y (strV a) (strV b);binOp .eql 9 (strV a) (strV b)).run Tryz.prog w = .ok (.bool (decide (a=b))) w:=by
 have h1:(eqGuard .eql 9 x y (strV a) (strV b)).run Tryz.prog w = .ok () w:=rfl;rw [Sem.run_bind,h1,Result.andThen_ok];show (Op.stringOp .eql (bs a) (bs b)).run Tryz.prog w=_;simp only [Op.stringOp,Sem.run_pure,ByteArray.toList_eq,zqj];have hd:(a == b)=decide (a=b):=by by_cases h:a=b <;> simp [h]
 rw [hd]
end Go.Proofs.YtlkofpbdpplfkaaGreatDoor
namespace Go.Vc
open Go.RowKit
theorem brT {P Q:Prop} (h:P):(true=true->P)/\(true=false->Q):=⟨fun _=>h,fun h=>nomatch h⟩
theorem brF {P Q:Prop} (h:Q):(false=true->P)/\(false=false->Q):=⟨fun h=>(nomatch h),fun _=>h⟩
theorem brE {b:Bool} {P Q:Prop} (e:b=true) (h:P):(b=true->P)/\(b=false->Q):=⟨fun _=>h,fun h=>nomatch e.symm.trans h⟩
theorem brN {b:Bool} {P Q:Prop} (e:b=false) (h:Q):(b=true->P)/\(b=false->Q):=⟨fun h=>(nomatch e.symm.trans h),fun _=>h⟩
theorem zaY {w w2:World} {b o:Nat} {vs:List Value} (hs:w2.heap[b]?=w.heap[b]?) (h:zax w ⟨b,o,none⟩ vs):zax w2 ⟨b,o,none⟩ vs:=by
 refine zbH fun i v hv=>?_;have:=zac h hv;rw [<- this];unfold World.cell?;simp only [hs]
theorem zbc {B:Nat} {w w2:World} {b o:Nat} {vs:List Value} (hb:Below B w w2) (hlt:b<B) (h:zax w ⟨b,o,none⟩ vs):zax w2 ⟨b,o,none⟩ vs :=
 zaY (hb.block b hlt) h
def RowB {α:Type} (E:Enc α) (B:Nat) (w:World) (p:Option Addr) (l:List α):Prop :=
 l=[]\/∃ b o,p=some ⟨b,o,none⟩/\b<B/\zax w ⟨b,o,none⟩ (l.flatMap E.enc)
section
variable {α:Type} {E:Enc α} {B:Nat} {w w2:World} {p:Option Addr} {l:List α}
theorem RowB.below (h:RowB E B w p l) (hb:Below B w w2):RowB E B w2 p l:=by
 rcases h with h | ⟨b,o,hp,hlt,hc⟩
 ·exact .inl h
 ·exact .inr ⟨b,o,hp,hlt,zbc hb hlt hc⟩
theorem RowB.mono {B':Nat} (h:RowB E B w p l) (hB:B<=B'):RowB E B' w p l:=by
 rcases h with h | ⟨b,o,hp,hlt,hc⟩
 ·exact .inl h
 ·exact .inr ⟨b,o,hp,by omega,hc⟩
theorem RowB.slr (h:RowB E B w p l) (hB:B<=w.heap.size):SlR E w p l:=by
 rcases h with rfl | ⟨b,o,rfl,hlt,hc⟩
 ·exact .nil
 ·exact SlR.of_cells (by omega) hc
theorem RowB.get (h:RowB E B w p l):∃ b o,(l.length=0\/p=some ⟨b,o,none⟩)/\∀ i (hi:i<l.length),b<B/\zax w ⟨b,o+i*E.sz,none⟩ (E.enc l[i]):=by
 rcases h with rfl | ⟨b,o,rfl,hlt,hc⟩
 ·exact⟨0,0,.inl rfl,fun i hi=>by simp at hi⟩
 ·exact⟨b,o,.inr rfl,fun i hi=>⟨hlt,by rw [<- zef l i hi];exact zaw hc⟩⟩
end
end Go.Vc
namespace Go.Proofs.YtlkofpbdpplfkaaGreatDoor
open Go.Vc Go.RowKit Go.Sei
def namE:Enc (List UInt8):=⟨fun l=>[strV l],1,fun _=>rfl,by decide,fun a u hu=>by
 simp only [List.mem_cons,List.not_mem_nil,or_false] at hu;subst hu;rfl⟩
def insE:Enc InsD:=⟨fun x=>[u8 x.op,u8 x.dst,u8 x.loc,.bool x.ar,u8 x.an,.bool x.br,u8 x.bn,u8 x.fn,u8 x.mode,u8 x.skip],10,fun _=>rfl,by decide,fun a u hu=>by
 simp only [List.mem_cons,List.not_mem_nil,or_false] at hu;rcases hu with rfl | rfl | rfl | rfl | rfl | rfl | rfl | rfl | rfl | rfl <;> rfl⟩
abbrev ThrR:=List InsD×Option Addr×Nat
def thrV (x:ThrR):Value := .slice x.2.1 x.1.length x.2.2
def thrE:Enc ThrR:=⟨fun x=>[thrV x],1,fun _=>rfl,by decide,fun a u hu=>by
 simp only [List.mem_cons,List.not_mem_nil,or_false] at hu;subst hu;rfl⟩
def zar (c:Cnd) (p:Option Addr) (cap:Nat):List Value:=[u8 c.kind,u8 c.thread,u8 c.n,u8 c.val,.slice p c.kids.length cap]
inductive KidsV (B:Nat) (w:World):Option Addr->List Cnd->Prop
 | mk (p:Option Addr) (kids:List Cnd) (hn:kids.length*32<=140737488351232) (b o:Nat) (hp:kids.length=0\/p=some ⟨b,o,none⟩) (q:Nat->Option Addr) (c:Nat->Nat)
   (hk:∀ i (h:i<kids.length),b<B/\zax w ⟨b,o+i*5,none⟩ (zar kids[i] (q i) (c i)))
   (ht:∀ i (h:i<kids.length),KidsV B w (q i) kids[i].kids):KidsV B w p kids
theorem KidsV.inv {B:Nat} {w:World} {p:Option Addr} {kids:List Cnd} (h:KidsV B w p kids):kids.length*32<=140737488351232/\∃ b o,(kids.length=0\/p=some ⟨b,o,none⟩) /\
  ∀ i (h:i<kids.length),∃ q c,b<B/\zax w ⟨b,o+i*5,none⟩ (zar kids[i] q c)/\KidsV B w q kids[i].kids:=by
 cases h with
 | mk _ _ hn b o hp q c hk ht=>exact⟨hn,b,o,hp,fun i hi=>⟨q i,c i,(hk i hi).1,(hk i hi).2,ht i hi⟩⟩
theorem KidsV.kept {B:Nat} {w w2:World} {p:Option Addr} {kids:List Cnd} (h:KidsV B w p kids) (hb:Below B w w2):KidsV B w2 p kids:=by
 induction h with
 | mk p kids hn b o hp q c hk ht ih=>exact .mk p kids hn b o hp q c (fun i hi=>⟨(hk i hi).1,zbc hb (hk i hi).1 (hk i hi).2⟩) ih
theorem KidsV.wider {B B':Nat} {w:World} {p:Option Addr} {kids:List Cnd} (h:KidsV B w p kids) (hb:B<=B'):KidsV B' w p kids:=by
 induction h with
 | mk p kids hn b o hp q c hk ht ih=>exact .mk p kids hn b o hp q c (fun i hi=>⟨nL (hk i hi).1 hb,(hk i hi).2⟩) ih
def ThrsV (B:Nat) (w:World) (p:Option Addr) (l:List (List InsD)):Prop:=∃ xs:List ThrR,xs.map (·.1)=l/\RowB thrE B w p xs/\∀ x∈xs,RowB insE B w x.2.1 x.1
theorem ThrsV.below {B:Nat} {w w2:World} {p:Option Addr} {l:List (List InsD)} (h:ThrsV B w p l) (hb:Below B w w2):ThrsV B w2 p l:=by
 obtain⟨xs,h1,h2,h3⟩:=h;exact⟨xs,h1,h2.below hb,fun x hx=>(h3 x hx).below hb⟩
theorem ThrsV.mono {B B':Nat} {w:World} {p:Option Addr} {l:List (List InsD)} (h:ThrsV B w p l) (hb:B<=B'):ThrsV B' w p l:=by
 obtain⟨xs,h1,h2,h3⟩:=h;exact⟨xs,h1,h2.mono hb,fun x hx=>(h3 x hx).mono hb⟩
def zbZ (p:Prg) (p1:Option Addr) (c1:Nat) (p2:Option Addr) (c2:Nat) (p3:Option Addr) (c3:Nat) (p4:Option Addr) (c4:Nat):List Value :=
 [strV p.name,.slice p1 p.locs.length c1,.slice p2 p.init.length c2,.slice p3 p.threads.length c3,u8 p.ask,u8 p.cond.kind,u8 p.cond.thread,u8 p.cond.n,u8 p.cond.val,.slice p4 p.cond.kids.length c4]
structure PrgLen (p:Prg):Prop where
 name:p.name.length<=140737488351232
 locs:p.locs.length<=140737488351232
 loc:∀ s∈p.locs,s.length<=140737488351232
 init:p.init.length<=140737488351232
 threads:p.threads.length<=140737488351232
 thread:∀ l∈p.threads,l.length<=140737488351232
structure PrgV (B:Nat) (w:World) (vs:List Value) (p:Prg):Prop where
 len:PrgLen p
 h:∃ p1 c1 p2 c2 p3 c3 p4 c4,vs=zbZ p p1 c1 p2 c2 p3 c3 p4 c4/\RowB namE B w p1 p.locs/\RowB zaH B w p2 p.init/\ThrsV B w p3 p.threads/\KidsV B w p4 p.cond.kids/\p.locs.length<=c1
theorem PrgV.below {B:Nat} {w w2:World} {vs:List Value} {p:Prg} (h:PrgV B w vs p) (hb:Below B w w2):PrgV B w2 vs p:=by
 obtain⟨p1,c1,p2,c2,p3,c3,p4,c4,h0,h1,h2,h3,h4,h5⟩:=h.h;exact⟨h.len,p1,c1,p2,c2,p3,c3,p4,c4,h0,h1.below hb,h2.below hb,h3.below hb,h4.kept hb,h5⟩
theorem PrgV.mono {B B':Nat} {w:World} {vs:List Value} {p:Prg} (h:PrgV B w vs p) (hb:B<=B'):PrgV B' w vs p:=by
 obtain⟨p1,c1,p2,c2,p3,c3,p4,c4,h0,h1,h2,h3,h4,h5⟩:=h.h;exact⟨h.len,p1,c1,p2,c2,p3,c3,p4,c4,h0,h1.mono hb,h2.mono hb,h3.mono hb,h4.wider hb,h5⟩
theorem PrgV.size {B:Nat} {w:World} {vs:List Value} {p:Prg} (h:PrgV B w vs p):vs.length=10:=by
 obtain⟨p1,c1,p2,c2,p3,c3,p4,c4,rfl,_⟩:=h.h;rfl
def i64 (n:Int):Value := .int .i64 n
theorem zdq {off sz:Nat} {cs:List Value} {v:Value} {K:Value->Prop} (h:cs[off]?=some v) (k:K v):zgR off sz false cs K:=by
 unfold zgR;rw [h];exact k
def za3 (f:FinV):Nat->Cnd->Bool
 | 0,_=>false
 | r+1,c =>
  if c.kind=0 then true
  else if c.kind=1 then decide (c.thread.toNat<4)&&(decide (c.n.toNat<8)&&decide (f.reg c.thread.toNat c.n.toNat=c.val))
  else if c.kind=2 then decide (c.n.toNat<6)&&decide (f.mem c.n.toNat=c.val)
  else if c.kind=3 then c.kids.all (za3 f r)
  else if c.kind=4 then c.kids.any (za3 f r)
  else if c.kind=5 then !c.kids.all (za3 f r)
  else false
inductive KidsG (B:Nat) (w:World):Option Addr->List Cnd->Prop
 | mk (p:Option Addr) (kids:List Cnd) (hn:kids.length<=140737488351232) (g o:Nat)
   (hp:kids.length=0\/(p=some ⟨g,o,none⟩/\g<B/\∃ (cs:Array Value) (t:TypeId),w.heap[g]?=some (.cells cs t (0,0)))) (q:Nat->Option Addr) (c:Nat->Nat)
   (hk:∀ i (h:i<kids.length),zax w ⟨g,o+i*5,none⟩ (zar kids[i] (q i) (c i)))
   (ht:∀ i (h:i<kids.length),KidsG B w (q i) kids[i].kids):KidsG B w p kids
section
variable {B:Nat} {w w2:World} {p:Option Addr} {kids:List Cnd}
theorem KidsG.inv (h:KidsG B w p kids):kids.length<=140737488351232/\∃ g o,(kids.length=0\/(p=some ⟨g,o,none⟩/\g<B/\∃ (cs:Array Value) (t:TypeId),w.heap[g]?=some (.cells cs t (0,0)))) /\
  ∀ i (h:i<kids.length),∃ q c,zax w ⟨g,o+i*5,none⟩ (zar kids[i] q c)/\KidsG B w q kids[i].kids:=by
 cases h with
 | mk _ _ hn g o hp q c hk ht=>exact⟨hn,g,o,hp,fun i hi=>⟨q i,c i,hk i hi,ht i hi⟩⟩
theorem KidsG.by (hs:∀ (g:Nat) (cs:Array Value) (t:TypeId),g<B->w.heap[g]?=some (.cells cs t (0,0))->w2.heap[g]?=w.heap[g]?) (h:KidsG B w p kids):KidsG B w2 p kids:=by
 induction h with
 | mk p kids hn g o hp q c hk ht ih =>
  have same:kids.length≠0->w2.heap[g]?=w.heap[g]?:=fun h0=>by
   rcases hp with hp | ⟨_,hB,cs,t,hc⟩
   ·exact absurd hp h0
   ·exact hs g cs t hB hc
  refine .mk p kids hn g o ?_ q c (fun i hi=>zaY (same (by omega)) (hk i hi)) ih;rcases hp with hp | ⟨hp,hB,cs,t,hc⟩
  ·exact .inl hp
  ·by_cases h0:kids.length=0
   ·exact .inl h0
   ·exact .inr ⟨hp,hB,cs,t,(same h0).trans hc⟩
theorem KidsG.kept (h:KidsG B w p kids) (hb:Below B w w2):KidsG B w2 p kids:=h.by fun g cs t hB _=>hb.block g hB
theorem KidsG.wider {B':Nat} (h:KidsG B w p kids) (hb:B<=B'):KidsG B' w p kids:=by
 induction h with
 | mk p kids hn g o hp q c hk ht ih=>exact .mk p kids hn g o (hp.imp id fun h=>⟨h.1,nL h.2.1 hb,h.2.2⟩) q c hk ih
end
theorem zji {a b:UInt8} (h:u8 a=u8 b):a=b:=by
 unfold u8 at h;injection h with _ h;exact UInt8.toNat_inj.1 (by omega)
theorem Cnd.ext {a b:Cnd} (h1:a.kind=b.kind) (h2:a.thread=b.thread) (h3:a.n=b.n) (h4:a.val=b.val) (h5:a.kids=b.kids):a=b:=by
 cases a;cases b
 simp only [Cnd.kind,Cnd.thread,Cnd.n,Cnd.val,Cnd.kids] at h1 h2 h3 h4 h5;rw [h1,h2,h3,h4,h5]
theorem KidsG.det {B:Nat} {w:World} {p:Option Addr} {a:List Cnd} (h:KidsG B w p a):∀ {b:List Cnd},KidsG B w p b->a.length=b.length->a=b:=by
 induction h with
 | mk p kids hn g o hp q c hk ht ih =>
  intro b hb hl;obtain⟨_,g2,o2,hp2,hb2⟩:=hb.inv;apply List.ext_getElem hl;intro i h1 h2;obtain⟨q2,c2,hc2,ht2⟩:=hb2 i h2;have e:g=g2/\o=o2:=by
   rcases hp with hp | ⟨hp,_,_⟩
   ·omega
   ·rcases hp2 with hp2 | ⟨hp2,_,_⟩
    ·omega
    ·rw [hp] at hp2;injection hp2 with hp2;injection hp2 with e1 e2;exact⟨e1,e2⟩
  obtain⟨rfl,rfl⟩:=e;have hc:=hk i h1;have at_:∀ j v v2,(zar kids[i] (q i) (c i))[j]?=some v->(zar b[i] q2 c2)[j]?=some v2->v=v2:=fun j v v2 e1 e2=>Option.some.inj ((zac hc e1).symm.trans (zac hc2 e2));have e4:=at_ 4 _ _ rfl rfl;injection e4 with eq1 eq2 eq3;subst eq1;exact Cnd.ext (zji (at_ 0 _ _ rfl rfl)) (zji (at_ 1 _ _ rfl rfl)) (zji (at_ 2 _ _ rfl rfl)) (zji (at_ 3 _ _ rfl rfl)) (ih i h1 ht2 eq2)
abbrev PlK:=Nat×Nat×Nat×Nat
def plV (k:PlK):Value := .agg #[.pointer (some ⟨k.1,k.2.1,none⟩),i64 (k.2.2.1:Nat),i64 (k.2.2.2:Nat)]
def ansV (f:FinV) (d:Nat) (l:List Cnd):Value := .agg #[.bool (l.any (za3 f (21-d))),.bool (l.all (za3 f (21-d)))]
def PlainAt (w:World) (k:PlK):Prop:=∃ (cs:Array Value) (t:TypeId),w.heap[k.1]?=some (.cells cs t (0,0))
theorem KidsG.plain {B:Nat} {w:World} {p:Option Addr} {l:List Cnd} (h:KidsG B w p l) (h0:l.length≠0):∃ b o,p=some ⟨b,o,none⟩/\b<B/\(∃ (cs:Array Value) (t:TypeId),w.heap[b]?=some (.cells cs t (0,0)))/\∀ i (h:i<l.length),∃ q c,zax w ⟨b,o+i*5,none⟩ (zar l[i] q c)/\KidsG B w q l[i].kids:=by
 obtain⟨_,g,o,hp,h2⟩:=h.inv;rcases hp with hp | ⟨hp,hB,hc⟩
 ·exact absurd hp h0
 ·exact⟨g,o,hp,hB,hc,h2⟩
def KnowOk (B:Nat) (f:FinV) (w:World) (g:PlK->Option Value):Prop:=∀ k v,g k=some v->∃ l,KidsG B w (some ⟨k.1,k.2.1,none⟩) l/\l.length=k.2.2.1/\l.length≠0/\v=ansV f k.2.2.2 l
section
variable {B:Nat} {f:FinV} {w w2:World} {g:PlK->Option Value}
theorem KnowOk.nil:KnowOk B f w fun _=>none:=fun k v h=>by cases h
theorem KnowOk.at (h:KnowOk B f w g) {k:PlK} {v:Value} (e:g k=some v):PlainAt w k:=by
 obtain⟨l,h1,_,h3,_⟩:=h k v e;obtain⟨b,o,hp,_,hc,_⟩:=h1.plain h3
 cases hp
 exact hc
theorem KnowOk.use (h:KnowOk B f w g) {b o d:Nat} {l:List Cnd} {v:Value} (hk:KidsG B w (some ⟨b,o,none⟩) l) (e:g (b,o,l.length,d)=some v):v=ansV f d l:=by
 obtain⟨l2,h1,h2,_,h4⟩:=h _ v e;rw [h4,KidsG.det hk h1 h2.symm]
theorem KnowOk.add (h:KnowOk B f w g) {b o d:Nat} {l:List Cnd} (hk:KidsG B w (some ⟨b,o,none⟩) l) (h0:l.length≠0):KnowOk B f w fun k=>if k=(b,o,l.length,d) then some (ansV f d l) else g k:=fun k v e=>by
 dsimp only at e
 split at e
 ·rename_i hkk;subst hkk;exact⟨l,hk,rfl,h0,(Option.some.inj e).symm⟩
 ·exact h k v e
theorem KnowOk.by (hs:∀ (g:Nat) (cs:Array Value) (t:TypeId),g<B->w.heap[g]?=some (.cells cs t (0,0))->w2.heap[g]?=w.heap[g]?) (h:KnowOk B f w g):KnowOk B f w2 g:=fun k v e=>by
 obtain⟨l,h1,h2⟩:=h k v e;exact⟨l,h1.by hs,h2⟩
end
end Go.Proofs.YtlkofpbdpplfkaaGreatDoor
namespace Go.Vc
open Go.RowKit
def zaR (cs:List Value) (o n:Nat):List Value:=(cs.drop o).take n
theorem zfZ (cs:List Value) (o n m:Nat):zaR cs o (n+m)=zaR cs o n++zaR cs (o+n) m:=by
 unfold zaR;rw [List.take_add,List.drop_drop]
theorem zei {cs:List Value} {o n:Nat} (h:o+n<=cs.length):(zaR cs o n).length=n:=by
 unfold zaR;rw [List.length_take,List.length_drop];omega
def vOf (g:Bool) (a:List Value):Value:=match g with | true => .agg a.toArray | false=>a.headD undef
structure TyEq (P:Program) (T:TypeId) (g:Bool) (n k:Nat) (G:List Value->Prop):Prop where
 ag:∀ w,(isAgg T).run P w = .ok g w
 info:∃ i,P.info? T=some i
 cl:P.cellsOf T=n
 one:g=false->n=1
 eq:∀ d w a b,a.length=n->b.length=n->G a->G b->∃ r:Bool,(Op.equalIn (d+k) T (vOf g a) (vOf g b)).run P w = .ok r w/\(r=true↔a=b)
section
variable {P:Program}
theorem TyEq.up {T:TypeId} {g:Bool} {n k:Nat} {G:List Value->Prop} (h:TyEq P T g n k G) (m:Nat):TyEq P T g n (m+k) G :=
 ⟨h.ag,h.info,h.cl,h.one,fun d w a b h1 h2 h3 h4=>by have:=h.eq (d+m) w a b h1 h2 h3 h4;rwa [Nat.add_assoc] at this⟩
theorem TyEq.part {T:TypeId} {g:Bool} {n k:Nat} {G:List Value->Prop} (h:TyEq P T g n k G) (xs:Array Value) (o:Nat) (hs:o+n<=xs.size) (w:World):(Go.part T xs o).run P w = .ok (vOf g (zaR xs.toList o n)) w:=by
 obtain⟨i,hi⟩:=h.info;have hsz:=run_sizeOf w hi;rw [h.cl] at hsz;simp only [Go.part,Sem.run_bind,h.ag,Result.andThen_ok]
 cases g with
 | true =>
  simp only [if_true,Sem.run_bind,hsz,Result.andThen_ok,Sem.run_pure,vOf];congr 2;apply Array.toList_inj.1;simp [zaR,Array.toList_extract,List.extract_eq_take_drop]
 | false =>
  have h1:=h.one rfl;subst h1;have ho:o<xs.size:=by omega
  simp only [Bool.false_eq_true,if_false,Array.getElem?_eq_getElem ho,Sem.run_pure,vOf];congr 1;unfold zaR;rw [List.drop_eq_getElem_cons (by simpa using ho)];simp
inductive Tile (P:Program) (k:Nat):List Field->Nat->Nat->(List Value->Prop)->Prop
 | nil {s:Nat}:Tile P k [] s s (fun _=>True)
 | cons {f : Field} {fs : List Field} {s e n : Nat} {g : Bool} {G G' : List Value → Prop} (hn : f.name ≠ "_") (ho : f.offset = s) (ht : TyEq P f.type g n k G) (hr : Tile P k fs (s + n) e G') : Tile P k (f :: fs) s e (fun cs => G (cs.take n) ∧ G' (cs.drop n))
theorem Tile.le {k:Nat} {fs:List Field} {s e:Nat} {G:List Value->Prop} (h:Tile P k fs s e G):s<=e:=by
 induction h with
 | nil=>exact Nat.le_refl _
 | cons _ _ _ _ ih=>omega
theorem Tile.eq {k:Nat} {fs:List Field} {s e:Nat} {G:List Value->Prop} (h:Tile P k fs s e G):∀ (d:Nat) (xs ys:Array Value) (w:World),e<=xs.size->e<=ys.size->G (zaR xs.toList s (e-s))->G (zaR ys.toList s (e-s)) ->
  ∃ r:Bool,(Op.eqFields (d+k) xs ys fs).run P w = .ok r w/\(r=true↔zaR xs.toList s (e-s)=zaR ys.toList s (e-s)):=by
 induction h with
 | nil=>intro d xs ys w _ _ _ _;exact⟨true,rfl,by simp [zaR]⟩
 | @cons f fs s e n g G G' hn ho ht hr ih =>
  intro d xs ys w hx hy hgx hgy;have hle:=hr.le;have e1:e-s=n+(e-(s+n)):=by omega
  rw [e1,zfZ] at hgx hgy;rw [e1,zfZ,zfZ];have lx:(zaR xs.toList s n).length=n:=zei (by simp;omega);have ly:(zaR ys.toList s n).length=n:=zei (by simp;omega);obtain⟨gx1,gx2⟩:=hgx;obtain⟨gy1,gy2⟩:=hgy;rw [List.take_append_of_le_length (by omega),List.take_of_length_le (by omega)] at gx1 gy1;rw [List.drop_append_of_le_length (by omega),List.drop_of_length_le (by omega),List.nil_append] at gx2 gy2;obtain⟨r1,h1,h2⟩:=ht.eq d w _ _ lx ly gx1 gy1;obtain⟨r2,h3,h4⟩:=ih d xs ys w hx hy gx2 gy2;simp only [Op.eqFields,hn,ne_eq,not_false_eq_true,if_true,Sem.run_bind,ho,ht.part xs s (by omega) w,ht.part ys s (by omega) w,Result.andThen_ok,h1];have hap:(zaR xs.toList s n++zaR xs.toList (s+n) (e-(s+n))=zaR ys.toList s n++zaR ys.toList (s+n) (e-(s+n)))↔(zaR xs.toList s n=zaR ys.toList s n/\zaR xs.toList (s+n) (e-(s+n))=zaR ys.toList (s+n) (e-(s+n))) :=
   ⟨fun h=>List.append_inj h (by rw [lx,ly]),fun h=>by rw [h.1,h.2]⟩
  rw [hap,<- h2,<- h4]
  cases r1 with
  | true=>exact⟨r2,by simpa using h3,by simp⟩
  | false=>exact⟨false,by simp,by simp⟩
theorem TyEq.struct {T:TypeId} {k n:Nat} {G:List Value->Prop} (hu:P.underlying T=some (.struct (P.fieldsOf T))) (hp:P.stoodInHeld T=false) (hag:∀ w,(isAgg T).run P w = .ok true w) (hi:∃ i,P.info? T=some i) (hc:P.cellsOf T=n)
  (ht:Tile P k (P.fieldsOf T).toList 0 n G):TyEq P T true n (k+1) G :=
 ⟨hag,hi,hc,fun h=>(by cases h),fun d w a b ha hb ga gb=>by
  have e:∀ l:List Value,l.length=n->zaR l.toArray.toList 0 (n-0)=l:=fun l hl=>by
   unfold zaR;rw [List.drop_zero,Nat.sub_zero];exact List.take_of_length_le (by show l.length<=n;omega)
  obtain⟨r,h1,h2⟩:=ht.eq d a.toArray b.toArray w (by simp;omega) (by simp;omega) (by rw [e a ha];exact ga) (by rw [e b hb];exact gb);rw [e a ha,e b hb] at h2;refine⟨r,?_,h2⟩;have:=run_equalIn_struct (P:=P) w (d+k) T a.toArray b.toArray hu hp;rw [<- Nat.add_assoc];exact this.trans h1⟩
theorem zmG {n m:Nat} (hn:0<n) {a b:List Value} (ha:a.length=m*n) (hb:b.length=m*n) (h:∀ i,i<m->zaR a (i*n) n=zaR b (i*n) n):a=b:=by
 apply List.ext_getElem?;intro j;by_cases hj:j<m*n
 ·have hd:j/n<m:=Nat.div_lt_of_lt_mul (by rw [Nat.mul_comm];exact hj);have h1:=congrArg (fun l=>l[j%n]?) (h _ hd);simp only [zaR,List.getElem?_take,if_pos (Nat.mod_lt j hn),List.getElem?_drop] at h1;rw [Nat.mul_comm,Nat.div_add_mod] at h1;exact h1
 ·rw [List.getElem?_eq_none (by omega),List.getElem?_eq_none (by omega)]
theorem TyEq.array {T e:TypeId} {g:Bool} {n k m:Nat} {G:List Value->Prop} (hn:0<n) (hu:P.underlying T=some (.array m e)) (hag:∀ w,(isAgg T).run P w = .ok true w) (hi:∃ i,P.info? T=some i) (hc:P.cellsOf T=m*n) (ht:TyEq P e g n k G) :
  TyEq P T true (m*n) (k+1) (fun cs=>∀ i,i<m->G (zaR cs (i*n) n)) :=
 ⟨hag,hi,hc,fun h=>(by cases h),fun d w a b ha hb ga gb=>by
  obtain⟨ie,hie⟩:=ht.info;have key:∀ is:List Nat,(∀ i∈is,i<m)->∃ r:Bool,(Op.eqItems (d+k) e n a.toArray b.toArray is).run P w = .ok r w/\(r=true↔∀ i∈is,zaR a (i*n) n=zaR b (i*n) n):=by
   intro is
   induction is with
   | nil=>intro _;exact⟨true,rfl,by simp⟩
   | cons i is ih =>
    intro him;have hi:=him i List.mem_cons_self;have hle:i*n+n<=m*n:=(by rw [<- Nat.succ_mul];exact Nat.mul_le_mul_right _ hi);obtain⟨r2,h3,h4⟩:=ih fun j hj=>him j (List.mem_cons_of_mem _ hj);obtain⟨r1,h1,h2⟩:=ht.eq d w (zaR a (i*n) n) (zaR b (i*n) n) (zei (by omega)) (zei (by omega)) (ga i hi) (gb i hi);have p1:=ht.part a.toArray (i*n) (by simp;omega) w;have p2:=ht.part b.toArray (i*n) (by simp;omega) w;have ea:a.toArray.toList=a:=rfl;have eb:b.toArray.toList=b:=rfl;rw [ea] at p1;rw [eb] at p2;simp only [Op.eqItems,Sem.run_bind,p1,p2,Result.andThen_ok,h1]
    cases r1 with
    | true =>
     refine⟨r2,by simpa using h3,?_⟩;rw [h4];have:=h2.1 rfl;simp [this]
    | false =>
     refine⟨false,by simp,?_⟩;simp only [Bool.false_eq_true,false_iff];intro h;have:=h2.2 (h i List.mem_cons_self)
     cases this
  obtain⟨r,h1,h2⟩:=key (List.range m) fun i hi=>List.mem_range.1 hi;refine⟨r,?_,?_⟩
  ·have:=run_equalIn_array (P:=P) w (d+k) a.toArray b.toArray hu hie;rw [ht.cl] at this;rw [<- Nat.add_assoc];exact this.trans h1
  ·rw [h2];exact⟨fun h=>zmG hn ha hb fun i hi=>h i (List.mem_range.2 hi),fun h i _=>by rw [h]⟩⟩
theorem TyEq.int {T:TypeId} {q:IntKind} (hu:P.underlying T=some (.int q)) (hag:∀ w,(isAgg T).run P w = .ok false w) (hi:∃ i,P.info? T=some i) (hc:P.cellsOf T=1):TyEq P T false 1 1 (fun cs=>∃ x,cs=[.int q x]) :=
 ⟨hag,hi,hc,fun _=>rfl,fun d w a b _ _ ⟨x,hx⟩ ⟨y,hy⟩=>by
  subst hx hy;refine⟨decide (x=y),?_,by simp⟩;simp only [vOf,List.headD_cons,Op.equalIn,Sem.run_bind,run_underlying hu,Result.andThen_ok,if_true,Sem.run_pure];congr 1⟩
theorem TyEq.bool {T:TypeId} (hu:P.underlying T=some .bool) (hag:∀ w,(isAgg T).run P w = .ok false w) (hi:∃ i,P.info? T=some i) (hc:P.cellsOf T=1):TyEq P T false 1 1 (fun cs=>∃ x,cs=[.bool x]) :=
 ⟨hag,hi,hc,fun _=>rfl,fun d w a b _ _ ⟨x,hx⟩ ⟨y,hy⟩=>by
  subst hx hy;refine⟨x == y,?_,by simp⟩;simp only [vOf,List.headD_cons,Op.equalIn,Sem.run_bind,run_underlying hu,Result.andThen_ok,Sem.run_pure]⟩
end
end Go.Vc
namespace Go.Proofs.YtlkofpbdpplfkaaGreatDoor
open Go.Vc Go.RowKit Go.Sei
def GInt (q:IntKind) (cs:List Value):Prop:=∃ x,cs=[.int q x]
def zsf (cs:List Value):Prop:=∃ x,cs=[.bool x]
theorem tU8:TyEq Tryz.prog 5 false 1 1 (GInt .u8) := .int Tryz.underlying5 (fun w=>Tryz.isAgg5 w) (zaU (by kernel_rfl) (by kernel_rfl)).1 (by kernel_rfl)
theorem zrU:TyEq Tryz.prog 4 false 1 1 zsf := .bool Tryz.underlying4 (fun w=>Tryz.isAgg4 w) (zaU (by kernel_rfl) (by kernel_rfl)).1 (by kernel_rfl)
theorem uf {T:TypeId} {F:Array Field} (h:Tryz.prog.underlying T=some (.struct F)):Tryz.prog.underlying T=some (.struct (Tryz.prog.fieldsOf T))/\Tryz.prog.fieldsOf T=F:=by
 have:Tryz.prog.fieldsOf T=F:=by unfold Program.fieldsOf;rw [h]
 exact⟨by rw [this];exact h,this⟩
open Classical in
noncomputable def cdec (p:Prop):Bool:=decide p
theorem zqe {p:Prop} [h:Decidable p]:cdec p=decide p:=by unfold cdec;congr
theorem zdt {p q:Prop} [Decidable q] (h:p↔q):cdec p=decide q:=by
 have:p=q:=propext h;subst this;exact zqe
section
variable {T:TypeId} {n k:Nat} {G:List Value->Prop} (h:TyEq Tryz.prog T true n k G) (d:Nat) (hd:d+k=10000) (hg:Tryz.prog.eqGuardType Tryz.prog.depth T=false) {a b:List Value} (ha:a.length=n) (hb:b.length=n) (ga:G a) (gb:G b)
include h hd hg ha hb ga gb
omit hg in
theorem equal_ty (w:World):(Op.equal T (.agg a.toArray) (.agg b.toArray)).run Tryz.prog w = .ok (cdec (a=b)) w:=by
 obtain⟨r,h1,h2⟩:=h.eq d w a b ha hb ga gb;have e:r=cdec (a=b):=by
  unfold cdec
  cases r with
  | true=>simp [h2.1 rfl]
  | false =>
   have:¬ a=b:=fun e=>by have:=h2.2 e;cases this
   simp [this]
 rw [hd] at h1;rw [<- e];exact h1
theorem zoA (x y:Operand) (w:World):(do eqGuard .neq T x y (.agg a.toArray) (.agg b.toArray);binOp .neq T (.agg a.toArray) (.agg b.toArray)).run Tryz.prog w = .ok (.bool (!cdec (a=b))) w:=by
 have he:=equal_ty h d hd ha hb ga gb w;have h1:(eqGuard .neq T x y (.agg a.toArray) (.agg b.toArray)).run Tryz.prog w = .ok () w:=by
  simp only [eqGuard,Bool.not_true,Bool.false_eq_true,if_false,Sem.run_bind,run_program,Result.andThen_ok,hg,Bool.not_false,if_true,Sem.run_pure]
 rw [Sem.run_bind,h1];simp only [Result.andThen_ok,binOp,Sem.run_bind,he,Sem.run_pure]
theorem zjO (x y:Operand) (w:World):(do eqGuard .eql T x y (.agg a.toArray) (.agg b.toArray);binOp .eql T (.agg a.toArray) (.agg b.toArray)).run Tryz.prog w = .ok (.bool (cdec (a=b))) w:=by
 have he:=equal_ty h d hd ha hb ga gb w;have h1:(eqGuard .eql T x y (.agg a.toArray) (.agg b.toArray)).run Tryz.prog w = .ok () w:=by
  simp only [eqGuard,Bool.not_true,Bool.false_eq_true,if_false,Sem.run_bind,run_program,Result.andThen_ok,hg,Bool.not_false,if_true,Sem.run_pure]
 rw [Sem.run_bind,h1];simp only [Result.andThen_ok,binOp,Sem.run_bind,he,Sem.run_pure]
end
theorem zr4 (e:Bool) (n:Nat) (x:UInt8) (w:World):(Instr.checkKey e (n+1) 5 (u8 x)).run Tryz.prog w = .ok () w:=by
 simp only [Instr.checkKey,Sem.run_bind,run_underlying Tryz.underlying5,Result.andThen_ok,u8,Sem.run_pure]
theorem eqUJ (d:Nat) (x y:UInt8) (w:World):(Op.equalIn (d+1) 5 (u8 x) (u8 y)).run Tryz.prog w = .ok (decide (x=y)) w:=by
 simp only [Op.equalIn,Sem.run_bind,run_underlying Tryz.underlying5,Result.andThen_ok,u8,if_true,Sem.run_pure];have:decide ((x.toNat:Int)=(y.toNat:Int))=decide (x=y):=by
  rw [decide_eq_decide];constructor
  ·intro h;exact UInt8.toNat_inj.1 (by omega)
  ·rintro rfl;rfl
 rw [<- this];rfl
theorem zij:MapK Tryz.prog 5 u8 where
 check:=fun q e w=>zr4 e 9999 q w
 eq:=fun q q' w=>eqUJ 9999 q q' w
 same:=fun q=>by simp [Instr.sameBits,u8]
 desc:=⟨_,Tryz.underlying5,fun q q'=>by
  right;simp only [Instr.sameNow,u8];have e:decide ((q.toNat:Int)=(q'.toNat:Int))=decide (q=q'):=by
   rw [decide_eq_decide];constructor
   ·intro h;exact UInt8.toNat_inj.1 (by omega)
   ·rintro rfl;rfl
  rw [<- e,if_pos trivial];rfl⟩
theorem znB {T:TypeId} (hag:∀ w,(isAgg T).run Tryz.prog w = .ok false w) (xs:Array Value) (o:Nat) (v:Value) (h:xs[o]?=some v) (w:World):(part T xs o).run Tryz.prog w = .ok v w:=by
 simp only [part,Sem.run_bind,hag,Result.andThen_ok,Bool.false_eq_true,if_false,h,Sem.run_pure]
theorem eqIJ (d:Nat) (x y:Int) (w:World):(Op.equalIn (d+1) 3 (.int .i64 x) (.int .i64 y)).run Tryz.prog w = .ok (decide (x=y)) w:=by
 simp only [Op.equalIn,Sem.run_bind,run_underlying Tryz.underlying3,Result.andThen_ok,if_true,Sem.run_pure];rfl
theorem eqPJ (d:Nat) {a b:Addr} {ca cb:Array Value} {ta tb:TypeId} {w:World} (ha:w.heap[a.block]?=some (.cells ca ta (0,0))) (hb:w.heap[b.block]?=some (.cells cb tb (0,0))) :
  (Op.equalIn (d+1) 163 (.pointer (some a)) (.pointer (some b))).run Tryz.prog w = .ok (decide (a=b)) w:=by
 have hs:∀ w,(sizeOf 29).run Tryz.prog w = .ok 5 w:=zbY (zaU (by kernel_rfl) (by kernel_rfl)) (by kernel_rfl);simp only [Op.equalIn,Sem.run_bind,run_underlying Tryz.underlying163,Result.andThen_ok,hs];rw [if_pos (by decide:(5:Nat)≠0)];by_cases h:a=b
 ·subst h;rw [run_sameAddr_same];simp
 ·rw [run_sameAddr_other w h ha hb];simp [h]
theorem zny {w:World} {q q':PlK} (hq:PlainAt w q) (hq':PlainAt w q'):(Op.equal 165 (plV q) (plV q')).run Tryz.prog w = .ok (decide (q=q')) w:=by
 obtain⟨a,o,n,d⟩:=q;obtain⟨a',o',n',d'⟩:=q';obtain⟨ca,ta,ha⟩:=hq;obtain⟨cb,tb,hb⟩:=hq';have h1:=eqPJ 9998 (a:=⟨a,o,none⟩) (b:=⟨a',o',none⟩) ha hb;have h2:(Op.equalIn 9999 3 (i64 (n:Nat)) (i64 (n':Nat))).run Tryz.prog w = .ok (decide ((n:Int)=(n':Int))) w:=eqIJ 9998 (n:Int) (n':Int) w;have h3:(Op.equalIn 9999 3 (i64 (d:Nat)) (i64 (d':Nat))).run Tryz.prog w = .ok (decide ((d:Int)=(d':Int))) w:=eqIJ 9998 (d:Int) (d':Int) w;have pp:=fun (xs:Array Value) (o:Nat) (v:Value) (h:xs[o]?=some v)=>znB (fun w=>Tryz.isAgg163 w) xs o v h w;have pn:=fun (xs:Array Value) (o:Nat) (v:Value) (h:xs[o]?=some v)=>znB (fun w=>Tryz.isAgg3 w) xs o v h w;show (Op.equalIn (9998+1+1) _ _ _).run _ _=_;unfold plV;rw [run_equalIn_struct w 9999 _ _ _ (uf Tryz.underlying165).1 (by kernel_rfl),(uf Tryz.underlying165).2];obtain⟨X,hX⟩:∃ X:Array Value,X = #[.pointer (some ⟨a,o,none⟩),i64 (n:Nat),i64 (d:Nat)]:=⟨_,rfl⟩;obtain⟨Y,hY⟩:∃ Y:Array Value,Y = #[.pointer (some ⟨a',o',none⟩),i64 (n':Nat),i64 (d':Nat)]:=⟨_,rfl⟩;rw [<- hX,<- hY];simp only [Op.eqFields,ne_eq,String.reduceEq,not_false_eq_true,if_true,Sem.run_bind,Sem.run_ite,pp X 0 (.pointer (some ⟨a,o,none⟩)) (by rw [hX];rfl),pp Y 0 (.pointer (some ⟨a',o',none⟩)) (by rw [hY];rfl),pn X 1 (i64 (n:Nat)) (by rw [hX];rfl),pn Y 1 (i64 (n':Nat)) (by rw [hY];rfl),pn X 2 (i64 (d:Nat)) (by rw [hX];rfl),pn Y 2 (i64 (d':Nat)) (by rw [hY];rfl),Result.andThen_ok,h1,h2,h3];clear h1 h2 h3 pp pn hX hY;by_cases e1:(⟨a,o,none⟩:Addr)=⟨a',o',none⟩
 ·have e2:a=a':=congrArg Addr.block e1;have e3:o=o':=congrArg Addr.off e1;subst e2 e3;by_cases e4:n=n'
  ·subst e4;by_cases e5:d=d'
   ·subst e5;simp
   ·have:¬ (d:Int)=(d':Int):=(by omega);simp [e5,this]
  ·have:¬ (n:Int)=(n':Int):=by omega
   simp [e4,this]
 ·have:¬ ((a,o,n,d):PlK)=(a',o',n',d'):=fun e=>e1 (by cases e;rfl);simp [e1,this]
theorem zr5 (e:Bool) (n:Nat) (v:Value) (w:World):(Instr.checkKey e (n+1) 163 v).run Tryz.prog w = .ok () w:=by
 simp only [Instr.checkKey,Sem.run_bind,run_underlying Tryz.underlying163,Result.andThen_ok,Sem.run_pure]
theorem zr6 (e:Bool) (n:Nat) (v:Value) (w:World):(Instr.checkKey e (n+1) 3 v).run Tryz.prog w = .ok () w:=by
 simp only [Instr.checkKey,Sem.run_bind,run_underlying Tryz.underlying3,Result.andThen_ok,Sem.run_pure]
theorem pkey (w:World):MapKw Tryz.prog 165 plV w (PlainAt w) where
 check:=fun q e=>by
  obtain⟨a,o,n,d⟩:=q;have c1:=fun v=>zr5 e 9998 v w;have c2:=fun v=>zr6 e 9998 v w;have pp:=fun (xs:Array Value) (o:Nat) (v:Value) (h:xs[o]?=some v)=>znB (fun w=>Tryz.isAgg163 w) xs o v h w;have pn:=fun (xs:Array Value) (o:Nat) (v:Value) (h:xs[o]?=some v)=>znB (fun w=>Tryz.isAgg3 w) xs o v h w;obtain⟨m,hm⟩:=nm (9998+1);rw [<- hm] at c1 c2;show (Instr.checkKey e (9998+1+1) _ _).run _ _=_;rw [<- hm];unfold plV;obtain⟨X,hX⟩:∃ X:Array Value,X = #[.pointer (some ⟨a,o,none⟩),i64 (n:Nat),i64 (d:Nat)]:=⟨_,rfl⟩;rw [<- hX];simp only [Instr.checkKey,Sem.run_bind,run_underlying Tryz.underlying165,Result.andThen_ok,<- Array.forIn_toList,List.forIn_cons,List.forIn_nil,ne_eq,String.reduceEq,not_false_eq_true,if_true,pp X 0 (.pointer (some ⟨a,o,none⟩)) (by rw [hX];rfl),pn X 1 (i64 (n:Nat)) (by rw [hX];rfl),pn X 2 (i64 (d:Nat)) (by rw [hX];rfl),c1,c2,Sem.run_pure]
 eq:=fun q q' h h'=>zny h h'
 same:=fun q=>by simp [Instr.sameBits,plV,i64]
 desc:=⟨_,Tryz.underlying165,fun _ _=>rfl⟩
end Go.Proofs.YtlkofpbdpplfkaaGreatDoor
namespace Go.Sei
def els (s:Nat):List Nat:=(List.range 64).filter fun i=>s.testBit i
def ctz (s:Nat):Nat:=(els s).headD 64
def rest (s:Nat):Nat:=s&&&(s-1)
theorem zhu {s:Nat} (h:s≠0):∃ k m,s=2^k*(2*m+1):=by
 induction s using Nat.strongRecOn with
 | _ s ih =>
  by_cases hp:s%2=1
  ·exact⟨0,s/2,by rw [Nat.pow_zero,Nat.one_mul];omega⟩
  ·obtain⟨k,m,e⟩:=ih (s/2) (by omega) (by omega);refine⟨k+1,m,?_⟩;rw [Nat.pow_succ,Nat.mul_comm (2^k) 2,Nat.mul_assoc,<- e];omega
theorem zeS (k a j:Nat):(2^k*a).testBit j=(decide (k<=j)&&a.testBit (j-k)):=by
 rw [Nat.testBit_two_pow_mul]
theorem zf0 (m j:Nat):(2*m+1).testBit j=match j with | 0=>true | j+1=>m.testBit j:=by
 cases j with
 | zero=>rw [Nat.testBit_zero];simp
 | succ j=>rw [Nat.testBit_succ];congr 1;omega
theorem zj2 (m j:Nat):(2*m).testBit j=match j with | 0=>false | j+1=>m.testBit j:=by
 cases j with
 | zero=>rw [Nat.testBit_zero];simp
 | succ j=>rw [Nat.testBit_succ];congr 1;omega
theorem zku (k m:Nat):rest (2^k*(2*m+1))=2^k*(2*m):=by
 unfold rest;apply Nat.eq_of_testBit_eq;intro j;have h1:=Nat.two_pow_pos k;have e:2^k*(2*m+1)-1=2^k*(2*m)+(2^k-1):=by rw [Nat.mul_add,Nat.mul_one];omega
 rw [Nat.testBit_and,e,Nat.testBit_two_pow_mul_add _ (by omega),zeS,zeS];by_cases hj:j<k
 ·rw [if_pos hj];have:¬ k<=j:=by omega
  simp [this]
 ·rw [if_neg hj,zf0,zj2];have:k<=j:=by omega
  cases h:j-k with
  | zero=>simp
  | succ i=>simp [this]
theorem zgq {n k m:Nat} (hn:0<n) (h:2^k*(2*m+1)<2^n):(2^k*(2*m+1))&&&(2^n-2^k*(2*m+1))=2^k:=by
 have hk:k<n:=by
  apply Nat.lt_of_not_le;intro hk;have h1:2^n<=2^k:=Nat.pow_le_pow_right (by decide) hk;have h2:2^k*1<=2^k*(2*m+1):=Nat.mul_le_mul_left _ (by omega);omega
 have h1:=Nat.two_pow_pos k;have e64:2^n=2^k*2^(n-k):=by rw [<- Nat.pow_add];congr 1;omega
 have e63:2^(n-k)=2*2^(n-1-k):=by rw [<- Nat.pow_succ'];congr 1;omega
 have hm:2*m+1<2^(n-k):=by
  rw [e64] at h;exact Nat.lt_of_mul_lt_mul_left h
 have hm2:m<2^(n-1-k):=by omega
 have e:2^n-2^k*(2*m+1)=2^k*(2*(2^(n-1-k)-(m+1))+1):=by
  rw [e64,<- Nat.mul_sub];congr 1;omega
 rw [e];apply Nat.eq_of_testBit_eq;intro j;rw [Nat.testBit_and,zeS,zeS,zf0,zf0,Nat.testBit_two_pow];by_cases hj:k<=j
 ·cases h:j-k with
  | zero =>
   have:k=j:=by omega
   simp [this]
  | succ i =>
   have:k≠j:=by omega
   show ((decide (k<=j)&&m.testBit i)&&(decide (k<=j)&&(2^(n-1-k)-(m+1)).testBit i))=decide (k=j);rw [Nat.testBit_two_pow_sub_succ hm2]
   cases m.testBit i <;> simp [this]
 ·have:k≠j:=by omega
  simp [hj,this]
theorem zhO {k m:Nat} (h:2^k*(2*m+1)<2^64):(2^k*(2*m+1))&&&(2^64-2^k*(2*m+1))=2^k:=zgq (by decide) h
theorem ziT {p:Nat->Bool} {n k:Nat} (hk:k<n) (h1:∀ i,i<k->p i=false) (h2:p k=true) :
  (List.range n).filter p=k::(List.range n).filter (fun i=>p i&&decide (i≠k)):=by
 have e:List.range n=List.range k++k::(List.range (n-k-1)).map (fun i=>k+1+i):=by
  apply List.ext_getElem
  ·simp;omega
  ·intro i h1 h2;rw [List.getElem_range];by_cases hi:i<k
   ·rw [List.getElem_append_left (by simpa using hi)];simp
   ·obtain⟨j,rfl⟩:∃ j,i=k+j:=⟨i-k,by omega⟩;rw [List.getElem_append_right (by simp)];simp only [List.length_range,Nat.add_sub_cancel_left]
    cases j with
    | zero=>simp
    | succ j=>simp;omega
 rw [e,List.filter_append,List.filter_append,List.filter_cons,List.filter_cons];have f1:(List.range k).filter p=[]:=by
  rw [List.filter_eq_nil_iff];intro i hi;rw [h1 i (List.mem_range.1 hi)];decide
 have f2:(List.range k).filter (fun i=>p i&&decide (i≠k))=[]:=by
  rw [List.filter_eq_nil_iff];intro i hi;rw [h1 i (List.mem_range.1 hi)];simp
 rw [f1,f2,h2];simp only [List.nil_append,if_true,ne_eq,not_true_eq_false,decide_false,Bool.and_false,Bool.false_eq_true,if_false];congr 1;apply List.filter_congr;intro x hx;obtain⟨i,_,rfl⟩:=List.mem_map.1 hx;have:k+1+i≠k:=by omega
 simp [this]
theorem zbq {s:Nat} (h0:s≠0) (h:s<2^64):els s=ctz s::els (rest s)/\rest s<s/\s&&&(2^64-s)=2^ctz s/\ctz s<64:=by
 obtain⟨k,m,e⟩:=zhu h0;subst e;have h1:=Nat.two_pow_pos k;have hk:k<64:=by
  apply Nat.lt_of_not_le;intro hk;have h2:2^64<=2^k:=Nat.pow_le_pow_right (by decide) hk;have h3:2^k*1<=2^k*(2*m+1):=Nat.mul_le_mul_left _ (by omega);omega
 have hh:els (2^k*(2*m+1))=k::els (2^k*(2*m)):=by
  unfold els;rw [ziT hk]
  ·congr 1;apply List.filter_congr;intro i _;rw [zeS,zeS,zf0,zj2]
   cases hi:i-k with
   | zero =>
    by_cases hik:k<=i
    ·have:i=k:=(by omega);simp [this]
    ·simp [hik]
   | succ j =>
    have:i≠k:=(by omega);simp [this]
  ·intro i hi;rw [zeS];have:¬ k<=i:=by omega
   simp [this]
  ·rw [zeS,zf0];simp
 have hc:ctz (2^k*(2*m+1))=k:=by unfold ctz;rw [hh];rfl
 rw [hc,zku];refine⟨hh,?_,zhO h,hk⟩;rw [Nat.mul_add,Nat.mul_one];omega
theorem zgC {s:Nat} (h0:s≠0) (h:s<2^32):s&&&(2^32-s)=2^ctz s/\ctz s<32:=by
 obtain⟨h1,_,h2,h3⟩:=zbq h0 (nL h (by decide));have hc:ctz s<32:=by
  have hm:ctz s∈els s:=by rw [h1];exact List.mem_cons_self
  unfold els at hm;have hb:=(List.mem_filter.1 hm).2;apply Nat.lt_of_not_le;intro hc;have:=Nat.testBit_lt_two_pow (nL h (Nat.pow_le_pow_right (by decide) hc));rw [this] at hb;cases hb
 refine⟨?_,hc⟩;obtain⟨k,m,e⟩:=zhu h0;have h4:s&&&(2^64-s)=2^k:=by rw [e] at h ⊢;exact zhO (nL h (by decide))
 have h5:s&&&(2^32-s)=2^k:=by rw [e] at h ⊢;exact zgq (by decide) h
 rw [h5,<- h4,h2]
theorem zcY:els 0=[]:=by
 unfold els;rw [List.filter_eq_nil_iff];intro i _;simp
theorem zrh {s i:Nat} (h:i∈els s):i<64:=by
 unfold els at h;exact List.mem_range.1 (List.mem_filter.1 h).1
theorem ziH {s i:Nat}:i∈els s↔i<64/\s.testBit i=true:=by
 unfold els;rw [List.mem_filter,List.mem_range]
structure Ev where
 th:Int
 k:UInt8
 l:UInt8
 v:UInt8
 m:UInt8
 i:UInt8
 p:UInt8
 deriving DecidableEq
def upd {α:Type} (f:Nat->α) (i:Nat) (v:α):Nat->α:=fun j=>if j=i then v else f j
theorem zbd {α:Type} (f:Nat->α) (i:Nat) (v:α):upd f i v i=v:=by unfold upd;rw [if_pos rfl]
theorem zcx {α:Type} (f:Nat->α) {i j:Nat} (v:α) (h:j≠i):upd f i v j=f j:=by unfold upd;rw [if_neg h]
structure RunD where
 pc:Nat
 regs:Nat->UInt8
 deps:Nat->Nat
 ctl:Nat
 many:Nat
 ev:Nat->Ev
 data:Nat->Nat
 ctrl:Nat->Nat
 att:Nat->Nat
def ev0:Ev:=⟨0,0,0,0,0,0,0⟩
def run0:RunD:=⟨0,fun _=>0,fun _=>0,0,0,fun _=>ev0,fun _=>0,fun _=>0,fun _=>0⟩
def valR (r:Bool) (n:UInt8) (R:RunD):UInt8×Nat:=if r then (R.regs n.toNat,R.deps n.toNat) else (n,0)
def setR (R:RunD) (d v:UInt8) (s:Nat):RunD:={ R with regs:=upd R.regs d.toNat v,deps:=upd R.deps d.toNat s }
def zeh (R:RunD) (k l v m:UInt8) (d:Nat):RunD :=
 { R with ev:=upd R.ev R.many ⟨0,k,l,v,m,UInt8.ofNat R.pc,UInt8.ofNat R.many⟩,data:=upd R.data R.many d,ctrl:=upd R.ctrl R.many R.ctl,many:=R.many+1 }
def zqX (R:RunD) (x:InsD) (v:UInt8):RunD:=setR (zeh R 1 x.loc v x.mode 0) x.dst v (2^R.many)
def zov (R:RunD) (x:InsD):RunD:=zeh R 2 x.loc (valR x.ar x.an R).1 x.mode (valR x.ar x.an R).2
def zr7 (fn a b:UInt8):UInt8:=if fn=1 then a+b else if fn=2 then a-b else a ^^^ b
def zr1 (R:RunD) (x:InsD):RunD:=setR R x.dst (zr7 x.fn (valR x.ar x.an R).1 (valR x.br x.bn R).1) ((valR x.ar x.an R).2|||(valR x.br x.bn R).2)
def zpO (R:RunD) (x:InsD) (old v:UInt8) (d:Nat):RunD :=
 let S:=zeh (zeh R 1 x.loc old 3 0) 2 x.loc v 3 d
 setR { S with att:=upd S.att (R.many+1) (2^R.many) } x.dst old (2^R.many)
def zrV (R:RunD) (x:InsD) (v:UInt8):RunD:=zpO R x v (valR x.ar x.an R).1 (valR x.ar x.an R).2
def zq5 (R:RunD) (x:InsD) (v:UInt8):RunD :=
 let S:=zpO R x v (v+(valR x.ar x.an R).1) (valR x.ar x.an R).2
 { S with data:=upd S.data (R.many+1) (S.data (R.many+1)|||S.att (R.many+1)) }
def casR (R:RunD) (x:InsD) (v:UInt8):RunD :=
 if v=(valR x.ar x.an R).1 then
  let S:=zpO R x v (valR x.br x.bn R).1 (valR x.br x.bn R).2
  { S with ctrl:=upd S.ctrl (R.many+1) (S.ctrl (R.many+1)|||(S.att (R.many+1)|||(valR x.ar x.an R).2)) }
 else setR (zeh R 1 x.loc v 3 0) x.dst v (2^R.many)
def zoG (R:RunD) (x:InsD):RunD:=zeh R 3 0 0 x.mode 0
def zrQ (fn a b:UInt8):Bool:=if fn=4 then decide (a=b) else if fn=5 then !decide (a=b) else decide (a.toNat<b.toNat)
def zrW (R:RunD) (x:InsD):RunD :=
 let S:={ R with ctl:=R.ctl|||((valR x.ar x.an R).2|||(valR x.br x.bn R).2) }
 if zrQ x.fn (valR x.ar x.an R).1 (valR x.br x.bn R).1 then { S with pc:=R.pc+x.skip.toNat } else S
def effR (R:RunD) (x:InsD) (v:UInt8):RunD :=
 if x.op=1 then zqX R x v else if x.op=2 then zov R x else if x.op=3 then zr1 R x else if x.op=4 then zrV R x v else
 if x.op=5 then zq5 R x v else if x.op=6 then casR R x v else if x.op=7 then zoG R x else zrW R x
def zbb (R:RunD) (x:InsD) (v:UInt8):RunD:=let S:=effR R x v;{ S with pc:=S.pc+1 }
def zfr (x:InsD):Bool:=decide (x.op=1)||(decide (x.op=4)||(decide (x.op=5)||decide (x.op=6)))
def goR (l:List InsD):Nat->RunD->RunD
 | 0,R=>R
 | n+1,R=>match l[R.pc]? with
  | none=>R
  | some x=>if zfr x then R else goR l n (zbb R x 0)
def zaK (l:List InsD) (dom:List UInt8):Nat->RunD->List RunD
 | 0,R=>[goR l l.length R]
 | n+1,R=>match l[(goR l l.length R).pc]? with
  | none=>[goR l l.length R]
  | some x=>dom.flatMap fun v=>zaK l dom n (zbb (goR l l.length R) x v)
def zcu (l:List InsD) (dom:List UInt8):List RunD:=zaK l dom l.length run0
def zhI (f:Nat->Nat) (n:Nat):List (Nat×Nat):=(List.range n).flatMap fun i=>(els (f i)).map fun a=>(a,i)
structure PathD where
 ev:List Ev
 data:List (Nat×Nat)
 ctrl:List (Nat×Nat)
 rmw:List (Nat×Nat)
 regs:Nat->UInt8
def zev (R:RunD):PathD:=⟨(List.range R.many).map R.ev,zhI R.data R.many,zhI R.ctrl R.many,zhI R.att R.many,R.regs⟩
def zaL:List UInt8:=(List.range 256).map UInt8.ofNat
def zbO (rs:List RunD):List UInt8:=zaL.filter fun v=>rs.any fun R=>(List.range R.many).any fun i=>decide ((R.ev i).k=2)&&decide ((R.ev i).v=v)
structure RelD where
 n:Int
 to:Nat->Nat
def zav:RelD:=⟨0,fun _=>0⟩
def allM (n:Int):Nat:=if n<1 then 0 else if 64<=n then 18446744073709551615 else 2^n.toNat-1
def zdA (a b:Nat):Nat:=a&&&(18446744073709551615-b)
def zdO (r:RelD) (a:Nat):Bool:=decide (zdA (r.to a) (allM r.n)=0)&&(decide ((a:Int)<r.n)||decide (r.to a=0))
def okR (r:RelD):Bool:=decide (0<=r.n)&&(decide (r.n<=48)&&(List.range 48).all (zdO r))
def zcb (n:Nat) (f:Nat->Nat):RelD:=⟨n,fun i=>if i<n then f i else 0⟩
def zgw (to:Nat->Nat) (s:Nat):Nat:=(els s).foldl (fun t a=>t|||to a) 0
def zcH (to:Nat->Nat) (n:Nat):Nat->Nat:=(List.range n).foldl (fun f a=>(els (to a)).foldl (fun f b=>upd f b (f b|||2^a)) f) (fun _=>0)
def zbw (r:RelD):RelD:=if okR r then ⟨r.n,zcH r.to r.n.toNat⟩ else zav
def zl9 (r:RelD):Nat:=if okR r then (List.range r.n.toNat).foldl (fun s a=>if r.to a=0 then s else s|||2^a) 0 else 0
def zdJ (r:RelD):Bool:=okR r&&decide (zl9 r=0)
def comb (a b:RelD) (f:Nat->Nat):RelD×Int:=if a.n=b.n&&(okR a&&okR b) then (zcb a.n.toNat f,0) else (zav,2)
def zeP (a b:RelD):RelD×Int:=comb a b fun i=>a.to i|||b.to i
def zdi (a b:RelD):RelD×Int:=comb a b fun i=>a.to i&&&b.to i
def zbJ (a b:RelD):RelD×Int:=comb a b fun i=>zgw b.to (a.to i)
def zge (before:Nat->Nat) (left:Nat):Option Nat:=(els left).find? fun a=>decide (before a&&&left=0)
def topR (before:Nat->Nat):Nat->Nat->List Nat->Option (List Nat)
 | 0,left,l=>if left=0 then some l else none
 | n+1,left,l=>if left=0 then some l else match zge before left with
  | none=>none
  | some a=>topR before n (zdA left (2^a)) (l++[a])
def topF (r:RelD):Option (List Nat):=if okR r then topR (zbw r).to 64 (allM r.n) [] else none
def acyR (r:RelD):Bool:=(topF r).isSome
def zh4 (n:Nat) (a b:Nat):RelD:=zcb n fun x=>if a.testBit x then b&&&allM n else 0
def idR (n:Nat) (s:Nat):RelD:=zcb n fun a=>s&&&2^a
end Go.Sei
namespace Go.Vc
open Go.RowKit
structure Step (n0 : Nat) (Fp : World → Nat → Prop) (A B : World) : Prop where
  os : B.os = A.os
  tape : B.tape = A.tape
  output : B.output = A.output
  size : A.heap.size ≤ B.heap.size
  same : ∀ k, k < A.heap.size → (k < n0 ∨ Fp A k) → B.heap[k]? = A.heap[k]?
structure Keeps (Fp : World → Nat → Prop) (A B : World) : Prop where
  os : B.os = A.os
  tape : B.tape = A.tape
  output : B.output = A.output
  size : A.heap.size ≤ B.heap.size
  same : ∀ k, k < A.heap.size → ¬ Fp A k → B.heap[k]? = A.heap[k]?
  fp : ∀ k, Fp B k → Fp A k ∨ A.heap.size ≤ k
structure IterJ {σ : Type} (n0 : Nat) (Fp : World → Nat → Prop) (J : σ → World → Prop) : Prop where
  step : ∀ s A B, J s A → Step n0 Fp A B → J s B ∧ ∀ k, Fp B k → Fp A k
  lt : ∀ s A k, J s A → Fp A k → k < A.heap.size
theorem Step.mono {n0 n1 : Nat} {Fp : World → Nat → Prop} {A B : World} (h : Step n0 Fp A B) (hn : n1 ≤ n0) : Step n1 Fp A B :=
  ⟨h.os, h.tape, h.output, h.size, fun k hk hf => h.same k hk (hf.imp (fun h => Nat.lt_of_lt_of_le h hn) id)⟩
theorem IterJ.mono {σ : Type} {n0 n1 : Nat} {Fp : World → Nat → Prop} {J : σ → World → Prop} (h : IterJ n0 Fp J) (hn : n0 ≤ n1) : IterJ n1 Fp J :=
  ⟨fun s A B hj hs => h.step s A B hj (hs.mono hn), h.lt⟩
theorem Step.of_below {n0 : Nat} {Fp : World → Nat → Prop} {A B : World} (h : Below A.heap.size A B) : Step n0 Fp A B :=
  ⟨h.os, h.tape, h.output, h.size, fun k hk _ => h.block k hk⟩
theorem Step.alloc {n0 : Nat} {Fp : World → Nat → Prop} (A : World) (o : Obj) : Step n0 Fp A (A.alloc o) := .of_below ((Below.refl _ A).alloc (Nat.le_refl _) o)
theorem Step.drew {n0 : Nat} {Fp : World → Nat → Prop} (A : World) : Step n0 Fp A A.drew := .of_below (Below.refl _ A).drew
theorem Step.put {n0 : Nat} {Fp : World → Nat → Prop} {A : World} {l : Nat} (h : n0 ≤ l) (hf : ¬ Fp A l) (o : Obj) : Step n0 Fp A (A.putObj l o) :=
  ⟨rfl, rfl, rfl, by simp [World.putObj], fun k _ hk => zai (fun e => by subst e; rcases hk with hk | hk; omega; exact hf hk)⟩
theorem Step.row {n0 : Nat} {Fp : World → Nat → Prop} {A : World} {l : Nat} (h : n0 ≤ l) (hf : ¬ Fp A l) (cs : Array Value) : Step n0 Fp A (A.setRow l cs) :=
  ⟨rfl, rfl, rfl, by simp, fun k _ hk => zao (fun e => by subst e; rcases hk with hk | hk; omega; exact hf hk)⟩
theorem YieldR.mono {P : Program} {l : Nat} {args : Array Value} {w : World} {K K' : Value → World → Prop} (h : YieldR P l args w K) (hk : ∀ v w, K v w → K' v w) : YieldR P l args w K' := by
  obtain ⟨fn, tmps, assign, body, hy, hR⟩ := h
  exact ⟨fn, tmps, assign, body, hy, hR.mono fun e w' he => by cases e <;> first | exact hk _ _ he | exact he⟩
def setL : List Nat → List Value → VEnv → VEnv
  | p :: ps, v :: vs, E => setL ps vs ((p, v) :: E)
  | _, _, E => E
theorem zcO {S : Sig} : ∀ (ps : List Nat) (vs : List Value) (a : Act) (E : Env), Agrees S a E → (∀ p ∈ ps, p < S.n) →
    Agrees S { a with tmps := (ps.zip vs).foldl (fun t (p, v) => t.setIfInBounds p v) a.tmps } ⟨setL ps vs E.vs, E.ds⟩
  | [], vs, a, E, h, _ => by simpa [setL] using h
  | p :: ps, [], a, E, h, _ => by simpa [setL] using h
  | p :: ps, v :: vs, a, E, h, hp => by
    have h1 := h.put (dst := some p) (by simpa [znF] using hp p List.mem_cons_self) v
    have h2 := zcO ps vs (a.put (some p) v) (setE (some p) v E) h1 (fun q hq => hp q (List.mem_cons_of_mem _ hq))
    simpa [setL, setE, Act.put] using h2
def sr (S : Sig) (l : Nat) : Sig := { S with r := some l }
theorem zki {S : Sig} (h : SigOk S) (l : Nat) : SigOk (sr S l) := ⟨h.ty, h.call, h.mixed⟩
def zr9 {α : Type} (Fp : World → Nat → Prop) (J : List α → World → Prop) (Jx : Exit → List α → World → Prop) (xs : List α) (A : World) : Exit → Env → World → Prop
  | .normal, _, B => J xs B ∧ Keeps Fp A B
  | .ret, _, B => Jx .ret xs B ∧ Keeps Fp A B
  | .exit id, _, B => Jx (.exit id) xs B ∧ Keeps Fp A B
  | _, _, _ => False
theorem Keeps.trans {Fp : World → Nat → Prop} {A B C : World} (h : Keeps Fp A B) (k : Keeps Fp B C) : Keeps Fp A C :=
  ⟨k.os.trans h.os, k.tape.trans h.tape, k.output.trans h.output, Nat.le_trans h.size k.size,
   fun i hi hf => (k.same i (Nat.lt_of_lt_of_le hi h.size) (fun hb => by rcases h.fp i hb with h1 | h1; exact hf h1; omega)).trans (h.same i hi hf),
   fun i hi => by
     rcases k.fp i hi with h1 | h1
     · exact h.fp i h1
     · exact .inr (Nat.le_trans h.size h1)⟩
theorem Keeps.refl (Fp : World → Nat → Prop) (A : World) : Keeps Fp A A := ⟨rfl, rfl, rfl, Nat.le_refl _, fun _ _ _ => rfl, fun _ h => .inl h⟩
theorem Keeps.of_below {Fp : World → Nat → Prop} {A B : World} (h : Below A.heap.size A B) (hf : ∀ k, Fp B k → Fp A k ∨ A.heap.size ≤ k) : Keeps Fp A B :=
  ⟨h.os, h.tape, h.output, h.size, fun k hk _ => h.block k hk, hf⟩
theorem zap {P : Program} {X : World} {T : TypeId} {iT : TI} (hT : TIok P T iT) {cs : Array Value} {t : TypeId} {v : Value} (hv : v.cells.size = iT.size) (hc : cs.size = iT.size)
    (h0 : v.cells.toList.all Value.oneCell' = true) {K : World → Prop}
    (k : ∀ Y, Below X.heap.size X Y → Y.heap[X.heap.size]? = some (.cells v.cells t (0, 0)) → Y.heap.size = X.heap.size + 1 → K Y) :
    SatR ((storeVar T ⟨X.heap.size, 0, none⟩ v).run P (X.alloc (.cells cs t))) fun _ w' => K w' :=
  zam hT (hnew X _) hv hc h0 (k _ (zag ((Below.refl _ X).alloc (Nat.le_refl _) _) (Nat.le_refl _) _) (zaj (hnew X _)) (by simp))
structure StepO (n0 : Nat) (Ow : Nat → Prop) (Fp : World → Nat → Prop) (A B : World) : Prop where
  os : B.os = A.os
  tape : B.tape = A.tape
  output : B.output = A.output
  size : A.heap.size ≤ B.heap.size
  same : ∀ k, k < A.heap.size → ((k < n0 ∧ ¬ Ow k) ∨ Fp A k) → B.heap[k]? = A.heap[k]?
theorem Step.o {n0 : Nat} {Ow : Nat → Prop} {Fp : World → Nat → Prop} {A B : World} (h : Step n0 Fp A B) : StepO n0 Ow Fp A B :=
  ⟨h.os, h.tape, h.output, h.size, fun k hk hf => h.same k hk (hf.imp (fun h => h.1) id)⟩
theorem StepO.mono {n0 n1 : Nat} {Ow : Nat → Prop} {Fp : World → Nat → Prop} {A B : World} (h : StepO n0 Ow Fp A B) (hn : n1 ≤ n0) : StepO n1 Ow Fp A B :=
  ⟨h.os, h.tape, h.output, h.size, fun k hk hf => h.same k hk (hf.imp (fun h => ⟨Nat.lt_of_lt_of_le h.1 hn, h.2⟩) id)⟩
structure IterJO {σ : Type} (n0 : Nat) (Ow : Nat → Prop) (Fp : World → Nat → Prop) (J : σ → World → Prop) : Prop where
  step : ∀ s A B, J s A → StepO n0 Ow Fp A B → J s B ∧ ∀ k, Fp B k → Fp A k
  lt : ∀ s A k, J s A → Fp A k → k < A.heap.size ∧ ¬ Ow k
theorem IterJO.mono {σ : Type} {n0 n1 : Nat} {Ow : Nat → Prop} {Fp : World → Nat → Prop} {J : σ → World → Prop} (h : IterJO n0 Ow Fp J) (hn : n0 ≤ n1) : IterJO n1 Ow Fp J :=
  ⟨fun s A B hj hs => h.step s A B hj (hs.mono hn), h.lt⟩
def zrI {α : Type} (P : Program) (g : Nat) (lb : List Value) (xs : List α) (W0 : World) (Rd Ow : Nat → Prop) (St : List α → List Value → World → Prop) : Prop :=
  ∀ (l : Nat) (Fp : World → Nat → Prop) (J Jx : List α → World → Prop) (W : World), W0.heap.size ≤ W.heap.size → (∀ k, Rd k ∨ Ow k → W.heap[k]? = W0.heap[k]?) → (∀ k, Rd k → ¬ Fp W k) →
    IterJO W.heap.size Ow Fp J → IterJO W.heap.size Ow Fp Jx →
    (∀ pre x vs W1, J pre W1 → St (pre ++ [x]) vs W1 → (pre ++ [x]) <+: xs → YieldR P l vs.toArray W1 fun v W2 =>
      (v = .bool true ∧ J (pre ++ [x]) W2 ∧ Keeps Fp W1 W2) ∨ (v = .bool false ∧ Jx (pre ++ [x]) W2)) →
    J [] W →
    Calls P g (.func (.yield l) #[] #[] :: lb).toArray W fun e W' => (∃ v, e = .returned v) ∧ (J xs W' ∨ ∃ pre, pre <+: xs ∧ Jx pre W')
theorem zqM {α : Type} {S : Sig} (hS : SigOk S) (hr : S.r = none) {f : Operand} {ps : Array Tmp} {assign body : Code} {E : Env} {w : World} {Q : Exit → Env → World → Prop}
    {gf : Nat} {lb : Array Value} (hg : opd E f = some (.func (.func gf) #[] lb)) (hok : zbr S gf = true)
    {xs : List α} {W0 : World} {Rd Ow : Nat → Prop} {St : List α → List Value → World → Prop} (hI : zrI S.P gf lb.toList xs W0 Rd Ow St) (hW0 : W0.heap.size ≤ w.heap.size) (hRd : ∀ k, Rd k ∨ Ow k → k < W0.heap.size ∧ w.heap[k]? = W0.heap[k]?)
    (hps : ∀ pre vs W, St pre vs W → vs.length = ps.size) (hpn : ∀ p ∈ ps.toList, p < S.n)
    (Fp : World → Nat → Prop) (J : List α → World → Prop) (Jx : Exit → List α → World → Prop) (hRF : ∀ k, Rd k → ¬ Fp w k)
    (hJ : IterJO w.heap.size Ow Fp J) (hJx : ∀ ex, IterJO w.heap.size Ow Fp (Jx ex)) (h0 : J [] w)
    (hround : ∀ (l : Nat) (pre : List α) (x : α) (vs : List Value) (W : World), w.heap.size ≤ l → (pre ++ [x]) <+: xs → J pre W → St (pre ++ [x]) vs W → ¬ Fp W l → l < W.heap.size →
      wpE (sr S l) assign ⟨setL ps.toList vs E.vs, []⟩ W fun ex E1 W1 => ex = .normal ∧ Keeps Fp W W1 ∧ J pre W1 ∧
        ∀ o W2, W2 = W1.putObj l o → J pre W2 → (∀ k, Fp W2 k → Fp W1 k) → wpE (sr S l) body E1 W2 (zr9 Fp J Jx (pre ++ [x]) W2))
    (hdone : ∀ D W, w.heap.size ≤ D → ¬ Fp W D → J xs W → W.heap[D]? = some (.deferred (some [])) → Q .normal ⟨E.vs, { target := .collected D, args := #[] } :: E.ds⟩ W)
    (hstop : ∀ D ex pre W, w.heap.size ≤ D → ¬ Fp W D → pre <+: xs → Jx ex pre W → W.heap[D]? = some (.deferred (some [])) → Q ex ⟨E.vs, { target := .collected D, args := #[] } :: E.ds⟩ W) :
    zkb S f ps assign body E w Q := by
  intro a ha
  have hcall : ∀ args w, (callFunc gf args).run S.P w = .ok (.enter gf args) w := by
    simp only [zbr, Bool.and_eq_true, Nat.ble_eq, Nat.blt_eq] at hok
    exact fun args w => hS.call gf hok.1.1 hok.1.2 hok.2 args w
  refine wpIn_rangeFunc ?_
  intro fn hfn
  have hro : (FR S.r).round = none := hr
  rw [hro]
  obtain ⟨rec, hrec⟩ : ∃ rec : LoopState → Option Code → Loop, rec = fun st pe => { state := st, pending := pe, fn, tmps := a.tmps, params := ps, assign, body, defers := w.heap.size } := ⟨_, rfl⟩
  obtain ⟨W1, hW1⟩ : ∃ W1, (w.alloc (.deferred (some []))).alloc (.loop (rec .ready none)) = W1 := ⟨_, rfl⟩
  have hK0 := hnew w (.deferred (some []))
  have hK1 : W1.heap[w.heap.size]? = some (.deferred (some [])) := by rw [← hW1]; exact hold _ hK0
  have hL1 : W1.heap[w.heap.size + 1]? = some (.loop (rec .ready none)) := by
    rw [← hW1]; have := hnew (w.alloc (.deferred (some []))) (.loop (rec .ready none)); rwa [World.size_alloc] at this
  have hs1 : W1.heap.size = w.heap.size + 2 := by rw [← hW1]; simp
  have hst1 : Step w.heap.size Fp w W1 := by
    rw [← hW1]; exact .of_below (((Below.refl _ w).alloc (Nat.le_refl _) _).alloc (by simp) _)
  obtain ⟨hJ1, hF1⟩ := hJ.step _ _ _ h0 hst1.o
  have hOl : ∀ k, w.heap.size ≤ k → ¬ Ow k := fun k hk ho => by have := (hRd k (.inr ho)).1; omega
  have hFl : ∀ k, Fp W1 k → k < w.heap.size := fun k hk => (hJ.lt _ _ k h0 (hF1 k hk)).1
  refine ⟨w.heap.size + 1, [{ target := .collected w.heap.size, args := #[] }], W1, { target := .fn (.func gf) lb, args := #[.func (.yield (w.heap.size + 1)) #[] #[]] }, W1, gf,
    #[.func (.yield (w.heap.size + 1)) #[] #[]] ++ lb, W1, ?_, ?_, fun _ _ => trivial, ?_, fun h => by simp [FR] at h, ?_⟩
  · rw [← hW1, hrec]; exact run_enterLoop_outer _ _ _ _ _
  · have hg' := ha.eval hg
    simp only [resolve, hg']
    simp [go_sem]
  · simp [invoke, go_sem, hcall]
  · have hargs : #[Value.func (.yield (w.heap.size + 1)) #[] #[]] ++ lb = (Value.func (.yield (w.heap.size + 1)) #[] #[] :: lb.toList).toArray := by rw [← Array.toList_inj]; simp
    rw [hargs]
    have book : ∀ {σ : Type} {K : σ → World → Prop} (lo : Loop), IterJO w.heap.size Ow Fp K → IterJO W1.heap.size Ow Fp (fun s W => K s W ∧ W.heap[w.heap.size + 1]? = some (.loop lo) ∧ W.heap[w.heap.size]? = some (.deferred (some [])) ∧ ¬ Fp W (w.heap.size + 1) ∧ ¬ Fp W w.heap.size) := by
      intro σ K lo hK
      refine ⟨fun s A B ⟨hk, hl, hd, hf1, hf2⟩ hs => ?_, fun s A k ⟨hk, _⟩ hf => hK.lt s A k hk hf⟩
      obtain ⟨h1, h2⟩ := hK.step s A B hk (hs.mono (by omega))
      exact ⟨⟨h1, (hs.same _ (hlt hl) (.inl ⟨by omega, hOl _ (by omega)⟩)).trans hl, (hs.same _ (hlt hd) (.inl ⟨by omega, hOl _ (by omega)⟩)).trans hd, fun h => hf1 (h2 _ h), fun h => hf2 (h2 _ h)⟩, h2⟩
    have hcalls := hI (w.heap.size + 1) Fp (fun pre W => J pre W ∧ W.heap[w.heap.size + 1]? = some (.loop (rec .ready none)) ∧ W.heap[w.heap.size]? = some (.deferred (some [])) ∧ ¬ Fp W (w.heap.size + 1) ∧ ¬ Fp W w.heap.size)
      (fun pre W => ∃ ex c, ((ex = .ret ∧ c = .ret) ∨ ∃ id, ex = .exit id ∧ c = .exit id) ∧ Jx ex pre W ∧ W.heap[w.heap.size + 1]? = some (.loop (rec .done (some c))) ∧ W.heap[w.heap.size]? = some (.deferred (some [])) ∧ ¬ Fp W (w.heap.size + 1) ∧ ¬ Fp W w.heap.size)
      W1 (by omega) (fun k hk => by
        obtain ⟨h1, h2⟩ := hRd k hk
        rw [← h2]
        exact hst1.same k (by omega) (.inl (by omega))) (fun k hk hf => hRF k hk (hF1 k hf)) (book _ hJ)
      ⟨fun s A B ⟨ex, c, hc, hrest⟩ hs => by
        have := (book (rec .done (some c)) (hJx ex)).step s A B hrest hs
        exact ⟨⟨ex, c, hc, this.1⟩, this.2⟩,
       fun s A k ⟨ex, c, hc, hrest⟩ hf => (hJx ex).lt s A k hrest.1 hf⟩ ?_ ⟨hJ1, hL1, hK1, fun h => by have := hFl _ h; omega, fun h => by have := hFl _ h; omega⟩
    · refine zdu (hcalls.mono ?_)
      rintro e W2 ⟨⟨v, rfl⟩, (⟨hj, hl, hk, hf1, hf2⟩ | ⟨pre, hpre, ex, c, hc, hj, hl, hk, hf1, hf2⟩)⟩
      · have hst : Step w.heap.size Fp W2 (W2.putObj (w.heap.size + 1) (.loop (rec .exhausted none))) := .put (by omega) hf1 _
        obtain ⟨hj2, hfp2⟩ := hJ.step _ _ _ hj hst.o
        refine ⟨none, _, by have := run_endLoop (P := S.P) hl (by rw [hrec]; simp); rw [hrec] at this; exact this, ?_⟩
        rw [hrec] at hj2 hfp2
        exact ⟨⟨E.vs, { target := .collected w.heap.size, args := #[] } :: E.ds⟩, ⟨ha.size, by simp [ha.defers], ha.val⟩, hdone w.heap.size _ (Nat.le_refl _) (fun h => hf2 (hfp2 _ h)) hj2 ((zai (by omega)).trans hk)⟩
      · have hst : Step w.heap.size Fp W2 (W2.putObj (w.heap.size + 1) (.loop (rec .exhausted (some c)))) := .put (by omega) hf1 _
        obtain ⟨hj2, hfp2⟩ := (hJx ex).step _ _ _ hj hst.o
        refine ⟨some c, _, by have := run_endLoop (P := S.P) hl (by rw [hrec]; simp); rw [hrec] at this; exact this, ?_⟩
        rw [hrec] at hj2 hfp2
        have hq := hstop w.heap.size ex pre _ (Nat.le_refl _) (fun h => hf2 (hfp2 _ h)) hpre hj2 ((zai (by omega)).trans hk)
        rcases hc with ⟨rfl, rfl⟩ | ⟨id, rfl, rfl⟩
        · exact wpIn_ret ⟨⟨E.vs, { target := .collected w.heap.size, args := #[] } :: E.ds⟩, ⟨ha.size, by simp [ha.defers], ha.val⟩, hq⟩
        · exact wpIn_exit ⟨⟨E.vs, { target := .collected w.heap.size, args := #[] } :: E.ds⟩, ⟨ha.size, by simp [ha.defers], ha.val⟩, hq⟩
    ·
      rintro pre x vs W ⟨hj, hl, hk, hf1, hf2⟩ hst0 hpre
      have hy := run_yield (P := S.P) (args := vs.toArray) hl (by rw [hrec]; simpa using hps _ _ _ hst0)
      rw [hrec] at hy
      refine ⟨fn, _, assign, body, hy, zcT (r := none) (n := NN) (roundIn_of_wpIn (F := FR none) trivial ?_)⟩
      have hag : Agrees (sr S (w.heap.size + 1)) { tmps := (ps.zip vs.toArray).foldl (fun t (p, v) => t.setIfInBounds p v) a.tmps, defers := [] } ⟨setL ps.toList vs E.vs, []⟩ := by
        have h1 : Agrees (sr S (w.heap.size + 1)) { a with defers := [] } ⟨E.vs, []⟩ := ⟨ha.size, rfl, ha.val⟩
        have h2 := zcO ps.toList vs _ _ h1 hpn
        have e : (ps.zip vs.toArray).foldl (fun t (p, v) => t.setIfInBounds p v) a.tmps = (ps.toList.zip vs).foldl (fun t (p, v) => t.setIfInBounds p v) a.tmps := by
          rw [← Array.foldl_toList]; simp
        rw [e]; exact h2
      have hw := za0 (zki hS _) assign _ _ W _ hag (hround (w.heap.size + 1) pre x vs W (by omega) hpre hj hst0 hf1 (hlt hl))
      refine wpIn_mono hw ?_
      rintro ex a1 Wa ⟨E1, hag1, rfl, hk1, hj1, hbody⟩
      have hla := (hk1.same _ (hlt hl) hf1).trans hl
      have hka := (hk1.same _ (hlt hk) hf2).trans hk
      have hfa1 : ¬ Fp Wa (w.heap.size + 1) := fun h => by rcases hk1.fp _ h with h | h; exact hf1 h; have := hlt hl; omega
      have hfa2 : ¬ Fp Wa w.heap.size := fun h => by rcases hk1.fp _ h with h | h; exact hf2 h; have := hlt hk; omega
      refine ⟨_, run_beginRound hla (by rw [hrec]), ?_⟩
      have hst : Step w.heap.size Fp Wa (Wa.putObj (w.heap.size + 1) (.loop { rec .ready none with state := .busy })) := .put (by omega) hfa1 _
      obtain ⟨hj2, hfp2⟩ := hJ.step _ _ _ hj1 hst.o
      have hw2 := za0 (zki hS _) body _ _ _ _ hag1 (hbody _ _ rfl hj2 hfp2)
      refine wpIn_mono hw2 ?_
      have hl2 : (Wa.putObj (w.heap.size + 1) (.loop { rec .ready none with state := .busy })).heap[w.heap.size + 1]? = some (.loop { rec .ready none with state := .busy }) := zb0 hla
      have hk2 : (Wa.putObj (w.heap.size + 1) (.loop { rec .ready none with state := .busy })).heap[w.heap.size]? = some (.deferred (some [])) := (zai (by omega)).trans hka
      have hfb1 : ¬ Fp (Wa.putObj (w.heap.size + 1) (.loop { rec .ready none with state := .busy })) (w.heap.size + 1) := fun h => hfa1 (hfp2 _ h)
      have hfb2 : ¬ Fp (Wa.putObj (w.heap.size + 1) (.loop { rec .ready none with state := .busy })) w.heap.size := fun h => hfa2 (hfp2 _ h)
      have fin : ∀ (jump : Option Code) (W3 : World), Keeps Fp (Wa.putObj (w.heap.size + 1) (.loop { rec .ready none with state := .busy })) W3 →
          (Instr.endRound (w.heap.size + 1) jump).run S.P W3 = .ok (.bool jump.isNone) (W3.putObj (w.heap.size + 1) (.loop (rec (if jump.isNone then .ready else .done) jump))) ∧
          (W3.putObj (w.heap.size + 1) (.loop (rec (if jump.isNone then .ready else .done) jump))).heap[w.heap.size + 1]? = some (.loop (rec (if jump.isNone then .ready else .done) jump)) ∧
          (W3.putObj (w.heap.size + 1) (.loop (rec (if jump.isNone then .ready else .done) jump))).heap[w.heap.size]? = some (.deferred (some [])) ∧
          Step w.heap.size Fp W3 (W3.putObj (w.heap.size + 1) (.loop (rec (if jump.isNone then .ready else .done) jump))) ∧ ¬ Fp W3 (w.heap.size + 1) ∧ ¬ Fp W3 w.heap.size := fun jump W3 hk3 => by
        have hl3 := (hk3.same _ (hlt hl2) hfb1).trans hl2
        have hd3 := (hk3.same _ (hlt hk2) hfb2).trans hk2
        have hf31 : ¬ Fp W3 (w.heap.size + 1) := fun h => by rcases hk3.fp _ h with h | h; exact hfb1 h; have := hlt hl2; omega
        have hf32 : ¬ Fp W3 w.heap.size := fun h => by rcases hk3.fp _ h with h | h; exact hfb2 h; have := hlt hk2; omega
        have := run_endRound (P := S.P) jump hl3
        rw [hrec] at this ⊢
        exact ⟨this, zb0 hl3, (zai (by omega)).trans hd3, .put (by omega) hf31 _, hf31, hf32⟩
      rintro e a3 W3 ⟨E3, _, hq⟩
      cases e with
      | normal =>
        obtain ⟨hj3, hk3⟩ := hq
        obtain ⟨hr3, hl4, hk4, hs3, hf31, hf32⟩ := fin none W3 hk3
        obtain ⟨hj4, hfp4⟩ := hJ.step _ _ _ hj3 hs3.o
        refine ⟨_, _, hr3, .inl ⟨rfl, ⟨hj4, hl4, hk4, fun h => hf31 (hfp4 _ h), fun h => hf32 (hfp4 _ h)⟩, ?_⟩⟩
        refine ⟨hs3.os.trans (hk3.os.trans hk1.os), hs3.tape.trans (hk3.tape.trans hk1.tape), hs3.output.trans (hk3.output.trans hk1.output), ?_, fun k hk5 hf5 => ?_, fun k hk5 => ?_⟩
        · have h1 := hk1.size; have h2 := hst.size; have h3 := hk3.size; have h4 := hs3.size; omega
        · by_cases hkl : k = w.heap.size + 1
          · subst hkl; rw [hl4, hl]; rfl
          · have h1 : ¬ Fp Wa k := fun h => by rcases hk1.fp _ h with h | h; exact hf5 h; omega
            have h2 := hk1.size; have h3 := hst.size
            rw [zai hkl, hk3.same k (by omega) (fun h => h1 (hfp2 _ h)), zai hkl]
            exact hk1.same k hk5 hf5
        · have h1 := hfp4 _ hk5
          rcases hk3.fp _ h1 with h2 | h2
          · exact hk1.fp _ (hfp2 _ h2)
          · have h3 := hk1.size; have h4 := hst.size; exact .inr (by omega)
      | ret =>
        obtain ⟨hj3, hk3⟩ := hq
        obtain ⟨hr3, hl4, hk4, hs3, hf31, hf32⟩ := fin (some .ret) W3 hk3
        obtain ⟨hj4, hfp4⟩ := (hJx .ret).step _ _ _ hj3 hs3.o
        exact ⟨_, _, hr3, .inr ⟨rfl, .ret, .ret, .inl ⟨rfl, rfl⟩, hj4, hl4, hk4, fun h => hf31 (hfp4 _ h), fun h => hf32 (hfp4 _ h)⟩⟩
      | exit id =>
        obtain ⟨hj3, hk3⟩ := hq
        obtain ⟨hr3, hl4, hk4, hs3, hf31, hf32⟩ := fin (some (.exit id)) W3 hk3
        obtain ⟨hj4, hfp4⟩ := (hJx (.exit id)).step _ _ _ hj3 hs3.o
        exact ⟨_, _, hr3, .inr ⟨rfl, .exit id, .exit id, .inr ⟨id, rfl, rfl⟩, hj4, hl4, hk4, fun h => hf31 (hfp4 _ h), fun h => hf32 (hfp4 _ h)⟩⟩
      | goto t => exact hq.elim
      | panic ch => exact hq.elim
      | outgrown => exact hq.elim
theorem zhD:∀ (A B C:List Value),B.length=C.length->zix (A++B) A.length C=A++C
 | A,B,[],h=>by
  have:B=[]:=List.eq_nil_of_length_eq_zero h;subst this;rfl
 | A,[],c::C,h=>by simp at h
 | A,b::B,c::C,h=>by
  have e:(A++b::B).set A.length c=(A++[c])++B:=by
   rw [List.set_append_right _ _ (Nat.le_refl _),Nat.sub_self];simp
  rw [zix,e];have:=zhD (A++[c]) B C (by simpa using h);rw [lap] at this;exact this.trans (by simp)
theorem zce {n:Nat} {x:Operand} {z cs:List Value} (hc:cs.length=n) (hz:z.length=n):zgf (fun i=>some (i*n,n)) (zrep z 1) (zipN [(0,x)] [.agg cs.toArray])=some cs:=by
 have e1:zrep z 1=z:=by simp [zrep]
 have e2:(Value.agg cs.toArray).cells.size=n:=by show cs.length=n;exact hc
 simp only [zipN,zgf,e1,e2,Nat.zero_mul,Nat.zero_add,hz];simp only [Nat.beq_refl,Nat.ble_self_eq_true,Bool.and_self];have:(Value.agg cs.toArray).cells.toList=cs:=rfl;rw [this];have:=zhD [] z cs (by rw [hz,hc]);simp at this;rw [this]
theorem zaW {α:Type} (E:Enc α) (a:α) {w:World} {t:TypeId}:zax (w.alloc (.cells (E.enc a).toArray t)) ⟨w.heap.size,0,none⟩ ([a].flatMap E.enc):=by
 rw [List.flatMap_singleton];exact zh9
theorem zbo {P:Program} {w:World} {g:Nat} {Te:TypeId} {iT:TI} (hT:TIok P Te iT) {cs:Array Value} {t:TypeId} (hg:w.heap[g]?=some (.cells cs t (0,0))) {o:Nat} {v:Value} (hv:v.cells.size=iT.size) (ho:o+v.cells.size<=cs.size)
  (h1:v.cells.toList.all Value.oneCell'=true) {K:World->Prop}
  (k:∀ w',w'.heap[g]?=some (.cells (cs.toList.take o++v.cells.toList++cs.toList.drop (o+v.cells.size)).toArray t (0,0))->w.grownBy w' (some g)->w'.heap.size=w.heap.size->K w') :
  SatR ((storeVar Te ⟨g,o,none⟩ v).run P w) fun _ w'=>K w':=by
 obtain⟨⟨inf,hinf,hsz,_,_⟩,_⟩:=hT;have hst:=run_storeCells_at P g o t v.cells.toList 0 cs w hg (by simpa using ho) (List.all_eq_true.1 h1);have hrun:(sizeOf Te).run P w = .ok v.cells.size w:=by simp [sizeOf,typeInfo,hinf,hsz,hv]
 refine SatR.mk (v:=()) (w':=w.setRow g (cs.toList.take o++v.cells.toList++cs.toList.drop (o+v.cells.size)).toArray) ?_ (k _ (zaj hg) (zaO w g _) (by simp));simp only [storeVar,Sem.run_bind,hrun,Result.andThen_ok];simpa using hst
def zhc (ind:Nat->Nat->Bool) (ops:Array Oper) (k:Nat) (listed:Array Bool):Bool :=
 (List.range ops.size).all fun i=>Nat.beq i k||listed.getD i false||ind k i||zgL ops ops.size k i
def covF (rec_:Array Bool->OT->Bool) (ind:Nat->Nat->Bool) (ops:Array Oper) (listed:Array Bool) (T:OT):Bool :=
 !(Region.ready .any ops listed).isEmpty&&(Region.ready .any ops listed).all fun i =>
   match OT.first ind i T with
   | some T'=>rec_ (listed.setIfInBounds i true) T'
   | none=>false
def covQ (ind:Nat->Nat->Bool) (ops:Array Oper):Nat->Array Bool->OT->Bool
 | 0,listed,T=>(Region.ready .any ops listed).isEmpty&&(match T with | .nil=>true | _=>false)
 | m+1,listed,.op k T'=>(match (Region.ready .any ops listed).contains k&&zhc ind ops k listed with
  | true=>covQ ind ops m (listed.setIfInBounds k true) T'
  | false=>covF (covQ ind ops m) ind ops listed (.op k T'))
 | m+1,listed,.nil=>covF (covQ ind ops m) ind ops listed .nil
 | m+1,listed,.alt x y=>covF (covQ ind ops m) ind ops listed (.alt x y)
section
variable {ind:Nat->Nat->Bool} {ops:Array Oper}
def zf6 (ops:Array Oper) (L:Array Bool):Prop:=∀ j o,L.getD j false=true->ops[j]?=some o->∀ e∈o.after,Region.binds .any e=true->L.getD e.on false=true
theorem zhb {L:Array Bool} {k j:Nat} {d:Bool} (h:j≠k):(L.setIfInBounds k true).getD j d=L.getD j d:=by
 have:¬ k=j:=fun e=>h e.symm;simp [Array.getD_eq_getD_getElem?,Array.getElem?_setIfInBounds,this]
theorem zee {L:Array Bool} {k j:Nat} (h:L.getD j false=true):(L.setIfInBounds k true).getD j false=true:=by
 by_cases e:j=k
 ·subst e;have hl:j<L.size:=by
   by_cases hl:j<L.size
   ·exact hl
   ·simp [hl] at h
  simp [Array.getD_eq_getD_getElem?,hl]
 ·rw [zhb e];exact h
theorem zcg {L:Array Bool} {k i:Nat} (h:i∈Region.ready .any ops L) (hne:i≠k):i∈Region.ready .any ops (L.setIfInBounds k true):=by
 obtain⟨h1,o,ho,h2⟩:=mem_ready.1 h;exact mem_ready.2 ⟨by rw [zhb hne];exact h1,o,ho,fun e he hb=>zee (h2 e he hb)⟩
theorem zdE {L:Array Bool} {i:Nat} (h:i∈Region.ready .any ops L):L.getD i false=false/\i<L.size:=by
 obtain⟨h1,_⟩:=mem_ready.1 h;by_cases hl:i<L.size
 ·simp [Array.getD_eq_getD_getElem?,hl] at h1 ⊢;exact h1
 ·simp [hl] at h1
theorem zds {L:Array Bool} (hc:zf6 ops L) {k:Nat} (hk:k∈Region.ready .any ops L):zf6 ops (L.setIfInBounds k true):=by
 obtain⟨h1,o,ho,h2⟩:=mem_ready.1 hk;intro j oj hj hoj e he hb;by_cases e1:j=k
 ·subst e1;rw [ho] at hoj;cases hoj;exact zee (h2 e he hb)
 ·rw [zhb e1] at hj;exact zee (hc j oj hj hoj e he hb)
theorem zjm {L:Array Bool} {i k:Nat}:(L.setIfInBounds i true).setIfInBounds k true=(L.setIfInBounds k true).setIfInBounds i true:=by
 apply Array.ext_getElem?;intro j;simp only [Array.getElem?_setIfInBounds,Array.size_setIfInBounds]
 split <;> split <;> simp_all
theorem zgy {k i:Nat} {L:Array Bool} (h:zhc ind ops k L=true):zhc ind ops k (L.setIfInBounds i true)=true:=by
 simp only [zhc,List.all_eq_true,Bool.or_eq_true,List.mem_range] at h ⊢;intro j hj;rcases h j hj with ((h | h) | h) | h
 ·exact .inl (.inl (.inl h))
 ·exact .inl (.inl (.inr (zee h)))
 ·exact .inl (.inr h)
 ·exact .inr h
theorem zjJ {k i:Nat} {L:Array Bool} (hc:zf6 ops L) (hf:zhc ind ops k L=true) (hk:k∈Region.ready .any ops L) (hi:i∈Region.ready .any ops L) (hne:i≠k):ind k i=true:=by
 obtain⟨h1,o,ho,h2⟩:=mem_ready.1 hi;simp only [zhc,List.all_eq_true,Bool.or_eq_true,List.mem_range] at hf;rcases hf i (Array.getElem?_eq_some_iff.1 ho).1 with ((h | h) | h) | h
 ·exact absurd (Nat.eq_of_beq_eq_true h) hne
 ·rw [(zdE hi).1] at h;cases h
 ·exact h
 ·have:=zc6 hc _ k i o ho h2 h;rw [(zdE hk).1] at this;cases this
theorem zcL {rec_:Array Bool->OT->Bool} {L:Array Bool} {T:OT} (h:covF rec_ ind ops L T=true):(Region.ready .any ops L).isEmpty=false/\∀ i∈Region.ready .any ops L,∃ T',OT.first ind i T=some T'/\rec_ (L.setIfInBounds i true) T'=true:=by
 simp only [covF,bAT,Bool.not_eq_true',List.all_eq_true] at h;refine⟨h.1,fun i hi=>?_⟩;have:=h.2 i hi
 split at this
 ·rename_i T' hT;exact⟨T',hT,this⟩
 ·cases this
theorem zmy:∀ (m:Nat) (L:Array Bool) (T:OT),zf6 ops L->covQ ind ops (m+1) L T=true ->
  (Region.ready .any ops L).isEmpty=false/\∀ i∈Region.ready .any ops L,∃ T',OT.first ind i T=some T'/\covQ ind ops m (L.setIfInBounds i true) T'=true:=by
 intro m
 induction m with
 | zero =>
  intro L T hc h
  cases T with
  | nil=>exact zcL h
  | alt x y=>exact zcL h
  | op k T' =>
   simp only [covQ] at h
   split at h
   ·rename_i hf;simp only [bAT,List.contains_eq_mem,dE] at hf;refine⟨List.isEmpty_eq_false_iff.2 (List.ne_nil_of_mem hf.1),fun i hi=>?_⟩;by_cases e:i=k
    ·subst e;exact⟨T',by simp [OT.first],h⟩
    ·have:=zcg hi e;simp only [bAT,List.isEmpty_iff] at h;rw [h.1] at this;cases this
   ·exact zcL h
 | succ m ih =>
  intro L T hc h
  cases T with
  | nil=>exact zcL h
  | alt x y=>exact zcL h
  | op k T' =>
   unfold covQ at h
   split at h
   ·rename_i hf;simp only [bAT,List.contains_eq_mem,dE] at hf;refine⟨List.isEmpty_eq_false_iff.2 (List.ne_nil_of_mem hf.1),fun i hi=>?_⟩;by_cases e:i=k
    ·subst e;exact⟨T',by simp [OT.first],h⟩
    ·obtain⟨T'',h1,h2⟩:=(ih _ T' (zds hc hf.1) h).2 i (zcg hi e);refine⟨.op k T'',?_,?_⟩
     ·have:¬ k=i:=fun e2=>e e2.symm;rw [OT.first,if_neg this,if_pos (zjJ hc hf.2 hf.1 hi e),h1];rfl
     ·have hk2:k∈Region.ready .any ops (L.setIfInBounds i true):=zcg hf.1 (fun e2=>e e2.symm);have hb:((Region.ready .any ops (L.setIfInBounds i true)).contains k&&zhc ind ops k (L.setIfInBounds i true))=true:=by
       simp only [bAT,List.contains_eq_mem,dE];exact⟨hk2,zgy hf.2⟩
      unfold covQ;rw [hb];rw [zjm];exact h2
   ·exact zcL h
theorem zh5:∀ (m:Nat) (L:Array Bool) (T:OT),zf6 ops L->covQ ind ops m L T=true->covT ind ops m L T=true
 | 0,L,T,_,h=>h
 | m+1,L,T,hc,h=>by
  obtain⟨h1,h2⟩:=zmy m L T hc h;simp only [covT,bAT,Bool.not_eq_true',List.all_eq_true];refine⟨h1,fun i hi=>?_⟩;obtain⟨T',h3,h4⟩:=h2 i hi;rw [h3];exact zh5 m _ T' (zds hc hi) h4
theorem DrawE.treeQ {S:Sig} {ops:Array Oper} {E:Env} {w:World} {K:Env->World->Prop} {QP:List PanicEntry->World->Prop} (X:List Nat) (T:OT)
  (h:(covQ (zec S.τ X ops) ops ops.size (Array.replicate ops.size false) T&&ops.all (fun o=>zbS o.op))=true) (k:opsT S ops.toList X QP T E w.drew K):DrawE S ops E w K QP :=
 .inr (.inl ⟨X,T,by
  simp only [bAT] at h ⊢;refine⟨zh5 _ _ _ (fun j o hj=>?_) h.1,h.2⟩;by_cases hl:j<ops.size <;> simp [hl] at hj,k⟩)
end
theorem zhR {z:Value} (h:0<z.cells.size) (n:Nat):(madeCells z.cells (n*z.cells.size)).toList=zrep z.cells.toList n:=by
 have:=zk1 z.cells.toList (by simpa using h) n;unfold madeCells;simpa using congrArg Array.toList this
theorem zhQ {P:Program} {w:World} {t T:TypeId} {iT:TI} {z:List Value} {kl kc:IntKind} (hu:P.underlying t=some (.slice T)) (hT:TIok P T iT) (hz:iT.zero=some z) (hzl:z.length=iT.size) (hp:0<iT.size) (n:Nat) (h1:iT.bytes*n<=281474976710656) (h63:n<=9223372036854775807) {K:Value->World->Prop}
  (k:∀ w',w'.heap[w.heap.size]?=some (.cells (zrep z n).toArray T (0,0))->Bw w w'->w'.heap.size=w.heap.size+1->K (.slice (some ⟨w.heap.size,0,none⟩) n n) w') :
  SatR ((Instr.makeSlice t (.int kl (n:Int)) (.int kc (n:Int))).run P w) K:=by
 obtain⟨⟨inf,hi,hsz,hby,hzz⟩,_⟩:=hT;obtain⟨zv,hzv,hzc⟩:=hzz z hz;have h63':(n:Int)<=9223372036854775807:=by omega
 have hb':(inf.bytes:Int)*(n:Int)<=281474976710656:=by
  have h:((inf.bytes*n:Nat):Int)<=281474976710656:=by rw [hby];omega
  rwa [Int.natCast_mul] at h
 have hr:=run_make (P:=P) w t T inf zv hu hi hzv kl kc n n (by omega) (Int.le_refl _) hb' h63';simp only [Int.toNat_natCast] at hr;have hcs:zv.cells.size=inf.size:=by rw [hsz,<- hzl,<- hzc];simp
 have hm:madeCells zv.cells (n*inf.size)=(zrep z n).toArray:=by
  have:=zhR (z:=zv) (by omega) n;rw [hzc,hcs] at this;rw [<- this]
 rw [hm] at hr;exact SatR.mk hr (k _ (hnew w _) ((zba _ _)) (by simp))
theorem zal {P:Program} {w:World} {g:Nat} {Te:TypeId} {iT:TI} (hT:TIok P Te iT) {cs:List Value} {t:TypeId} (hg:w.heap[g]?=some (.cells cs.toArray t (0,0))) {o:Nat} {v:Value} (hv:v.cells = #[v]) (hi:iT.size=1) (ho:o<cs.length) (h1:v.oneCell'=true) {K:World->Prop}
  (k:∀ w',w'.heap[g]?=some (.cells (cs.set o v).toArray t (0,0))->w.grownBy w' (some g)->w'.heap.size=w.heap.size->K w') :
  SatR ((storeVar Te ⟨g,o,none⟩ v).run P w) fun _ w'=>K w':=by
 refine zbo hT hg (o:=o) (v:=v) (by rw [hv,hi];rfl) (by rw [hv];show o+1<=cs.length;omega) (by rw [hv];simpa using h1) fun w' f gr sz=>k w' ?_ gr sz;rw [f,hv];congr 2;show (cs.take o++[v]++cs.drop (o+1)).toArray=_;rw [List.set_eq_take_append_cons_drop,if_pos ho];simp
theorem zak {n:Nat} {A B:World} {g:Nat} (h:A.grownBy B (some g)) (hn:n<=A.heap.size) (hg:n<=g):Below n A B :=
 ⟨h.os,h.tape,h.output,h.size,fun j hj=>h.block j (nL hj hn) (by simp;omega)⟩
theorem OwnS.lower {α : Type} {E : Enc α} {T B B' cap : Nat} {w : World} {p : Option Addr} {l : List α} (h : OwnS E T B w p cap l) (hB : B' ≤ B) : OwnS E T B' w p cap l := by
  obtain ⟨h1, h2⟩ := h
  refine ⟨h1, ?_⟩
  rcases h2 with h2 | ⟨g, cap', cur, h2, hb, rest⟩
  · exact .inl h2
  · exact .inr ⟨g, cap', cur, h2, Nat.le_trans hB hb, rest⟩
theorem zmF {P : Program} {w : World} {t T ty : TypeId} {iT : TI} {z : Value} (hu : P.underlying t = some (.slice T)) (hT : TIok P T iT) (hz : iT.zero = some [z]) (h1 : z.oneCell' = true) {b o n c : Nat} (hn : 0 < n) {cs : Array Value} {u : TypeId} (hg : w.heap[b]? = some (.cells cs u (0, 0))) (ho : o + n ≤ cs.size) {K : Value → World → Prop}
    (k : ∀ w', w'.heap[b]? = some (.cells (cs.toList.take o ++ List.replicate n z ++ cs.toList.drop (o + n)).toArray u (0, 0)) → w.grownBy w' (some b) → w'.heap.size = w.heap.size → K (.tuple #[]) w') :
    SatR ((Builtin.clear_ #[t] ty #[.slice (some ⟨b, o, none⟩) n c]).run P w) K := by
  obtain ⟨⟨inf, hi, _, _, hzz⟩, _⟩ := hT
  obtain ⟨zv, hzv, hzc⟩ := hzz _ hz
  have hv : ∀ w, (zeroValue T).run P w = .ok zv w := fun w => by simp [zeroValue, typeInfo, hi, hzv]
  have hzc2 : zv.cells = #[z] := by rw [← hzc]
  have hrep : (Builtin.zeroCells zv.cells n).toList = List.replicate n z := by
    rw [hzc2]
    simp [Builtin.zeroCells]
    apply List.ext_getElem
    · simp
    · intro i h1 h2
      simp [Nat.mod_one]
  have hst := run_storeCells_at P b o u (List.replicate n z) 0 cs w hg (by simpa using ho) (fun v hv' => by rw [List.eq_of_mem_replicate hv']; exact h1)
  refine SatR.mk (v := .tuple #[]) (w' := w.setRow b (cs.toList.take o ++ List.replicate n z ++ cs.toList.drop (o + n)).toArray) ?_ (k _ (zaj hg) (zaO w b _) (by simp))
  obtain ⟨m, rfl⟩ : ∃ m, n = m + 1 := ⟨n - 1, by omega⟩
  have hrep' : Builtin.zeroCells zv.cells (m + 1) = (List.replicate (m + 1) z).toArray := by rw [← hrep]
  simp only [Nat.add_zero, List.length_replicate] at hst
  simp [Builtin.clear_, run_underlying hu, hv, hrep', hst]
theorem zea {α : Type} {E : Enc α} {P : Program} {w : World} {t T : TypeId} {iT : TI} {z : List Value} {kl kc : IntKind} (hu : P.underlying t = some (.slice T)) (hT : TIok P T iT) (hz : iT.zero = some z) (hzl : z.length = iT.size) (hs : iT.size = E.sz) (n : Nat) (h1 : iT.bytes * n ≤ 281474976710656) (h63 : n ≤ maxLen) {K : Value → World → Prop}
    (k : ∀ w', OwnS E T w.heap.size w' (some ⟨w.heap.size, 0, none⟩) n [] → Below w.heap.size w w' → w'.heap.size = w.heap.size + 1 → K (.slice (some ⟨w.heap.size, 0, none⟩) 0 n) w') :
    SatR ((Instr.makeSlice t (.int kl 0) (.int kc (n : Int))).run P w) K := by
  obtain ⟨⟨inf, hi, hsz, hby, hzz⟩, _⟩ := hT
  obtain ⟨zv, hzv, hzc⟩ := hzz z hz
  have h63' : (n : Int) ≤ 9223372036854775807 := by unfold maxLen at h63; omega
  have hb' : (inf.bytes : Int) * (n : Int) ≤ 281474976710656 := by
    have h : ((inf.bytes * n : Nat) : Int) ≤ 281474976710656 := by rw [hby]; omega
    rwa [Int.natCast_mul] at h
  have hr := run_make (P := P) w t T inf zv hu hi hzv kl kc 0 n (by omega) (by omega) hb' h63'
  simp only [Int.toNat_natCast, Int.toNat_zero] at hr
  have hcs : zv.cells.size = inf.size := by rw [hsz, ← hzl, ← hzc]; simp
  have hp : 0 < zv.cells.size := by rw [hcs, hsz, hs]; exact E.pos
  have hm : (madeCells zv.cells (n * inf.size)).size = n * E.sz := by
    have := congrArg List.length (zhR (z := zv) hp n)
    rw [zgJ, hcs] at this
    rw [← hs, ← hsz]
    simpa [hcs] using this
  refine SatR.mk hr (k _ ?_ ((Below.refl _ _).alloc (Nat.le_refl _) _) (by simp))
  exact World.ownsRow_made w _ n (Nat.le_refl _) h63 hm
structure StepG (n0 : Nat) (Ow F : Nat → Prop) (A B : World) : Prop where
  os : B.os = A.os
  tape : B.tape = A.tape
  output : B.output = A.output
  size : A.heap.size ≤ B.heap.size
  same : ∀ k, k < A.heap.size → ((k < n0 ∧ ¬ Ow k) ∨ F k) → B.heap[k]? = A.heap[k]?
theorem StepG.mono {n0 n1 : Nat} {Ow F : Nat → Prop} {A B : World} (h : StepG n0 Ow F A B) (hn : n1 ≤ n0) : StepG n1 Ow F A B :=
  ⟨h.os, h.tape, h.output, h.size, fun k hk hf => h.same k hk (hf.imp (fun h => ⟨Nat.lt_of_lt_of_le h.1 hn, h.2⟩) id)⟩
theorem StepG.below {n0 : Nat} {Ow F : Nat → Prop} {A B : World} (h : Below A.heap.size A B) : StepG n0 Ow F A B :=
  ⟨h.os, h.tape, h.output, h.size, fun k hk _ => h.block k hk⟩
theorem StepG.trans {n0 : Nat} {Ow F : Nat → Prop} {A B C : World} (h : StepG n0 Ow F A B) (k : StepG n0 Ow F B C) : StepG n0 Ow F A C :=
  ⟨k.os.trans h.os, k.tape.trans h.tape, k.output.trans h.output, Nat.le_trans h.size k.size, fun i hi hf => (k.same i (Nat.lt_of_lt_of_le hi h.size) hf).trans (h.same i hi hf)⟩
theorem StepG.put {n0 : Nat} {Ow F : Nat → Prop} {A : World} {l : Nat} (h : n0 ≤ l) (hf : ¬ F l) (o : Obj) : StepG n0 Ow F A (A.putObj l o) :=
  ⟨rfl, rfl, rfl, by simp [World.putObj], fun k _ hk => zai (fun e => by subst e; rcases hk with hk | hk; omega; exact hf hk)⟩
theorem StepG.grown {n0 : Nat} {Ow F : Nat → Prop} {A B : World} {l : Nat} (h : A.grownBy B (some l)) (hl : n0 ≤ l ∨ Ow l) (hf : ¬ F l) : StepG n0 Ow F A B :=
  ⟨h.os, h.tape, h.output, h.size, fun k hk hf2 => h.block k hk (fun e => by
    have e : k = l := by simpa using e
    subst e
    rcases hf2 with h2 | h2
    · rcases hl with hl | hl
      · omega
      · exact h2.2 hl
    · exact hf h2)⟩
structure JG {σ : Type} (n0 : Nat) (Ow : Nat → Prop) (J : σ → (Nat → Prop) → World → Prop) : Prop where
  step : ∀ s F A B, J s F A → StepG n0 Ow F A B → J s F B
  lt : ∀ s F A k, J s F A → F k → k < A.heap.size ∧ ¬ Ow k
theorem JG.mono {σ : Type} {n0 n1 : Nat} {Ow : Nat → Prop} {J : σ → (Nat → Prop) → World → Prop} (h : JG n0 Ow J) (hn : n0 ≤ n1) : JG n1 Ow J :=
  ⟨fun s F A B hj hs => h.step s F A B hj (hs.mono hn), h.lt⟩
structure KeepsG (F F' : Nat → Prop) (A B : World) : Prop where
  os : B.os = A.os
  tape : B.tape = A.tape
  output : B.output = A.output
  size : A.heap.size ≤ B.heap.size
  same : ∀ k, k < A.heap.size → ¬ F k → B.heap[k]? = A.heap[k]?
  fp : ∀ k, F' k → F k ∨ A.heap.size ≤ k
theorem KeepsG.refl (F : Nat → Prop) (A : World) : KeepsG F F A A := ⟨rfl, rfl, rfl, Nat.le_refl _, fun _ _ _ => rfl, fun _ h => .inl h⟩
theorem KeepsG.trans {F F' F'' : Nat → Prop} {A B C : World} (h : KeepsG F F' A B) (k : KeepsG F' F'' B C) : KeepsG F F'' A C :=
  ⟨k.os.trans h.os, k.tape.trans h.tape, k.output.trans h.output, Nat.le_trans h.size k.size,
   fun i hi hf => (k.same i (Nat.lt_of_lt_of_le hi h.size) (fun hb => by rcases h.fp i hb with h1 | h1; exact hf h1; omega)).trans (h.same i hi hf),
   fun i hi => by
     rcases k.fp i hi with h1 | h1
     · exact h.fp i h1
     · exact .inr (Nat.le_trans h.size h1)⟩
theorem KeepsG.weak {F F' G : Nat → Prop} {A B : World} (h : KeepsG F F' A B) (hF : ∀ k, F k → G k) : KeepsG G F' A B :=
  ⟨h.os, h.tape, h.output, h.size, fun k hk hg => h.same k hk fun hf => hg (hF k hf), fun k hk => (h.fp k hk).imp (hF k) id⟩
theorem KeepsG.below {F F' : Nat → Prop} {A B : World} (h : Below A.heap.size A B) (hf : ∀ k, F' k → F k ∨ A.heap.size ≤ k) : KeepsG F F' A B :=
  ⟨h.os, h.tape, h.output, h.size, fun k hk _ => h.block k hk, hf⟩
theorem KeepsG.grown {F : Nat → Prop} {A B : World} {g : Nat} (h : A.grownBy B (some g)) (hg : F g) : KeepsG F F A B :=
  ⟨h.os, h.tape, h.output, h.size, fun k hk hf => h.block k hk (fun e => hf (by cases e; exact hg)), fun k h => .inl h⟩
def zkT {α : Type} (P : Program) (g : Nat) (lb : List Value) (xs : List α) (W0 : World) (Rd Ow : Nat → Prop) (St : List α → List Value → World → Prop) : Prop :=
  ∀ (l : Nat) (F0 : Nat → Prop) (J Jx : List α → (Nat → Prop) → World → Prop) (W : World), W0.heap.size ≤ W.heap.size → (∀ k, Rd k ∨ Ow k → W.heap[k]? = W0.heap[k]?) → (∀ k, Rd k → ¬ F0 k) →
    JG W.heap.size Ow J → JG W.heap.size Ow Jx →
    (∀ pre x vs F W1, J pre F W1 → St (pre ++ [x]) vs W1 → (pre ++ [x]) <+: xs → YieldR P l vs.toArray W1 fun v W2 =>
      (v = .bool true ∧ ∃ F', J (pre ++ [x]) F' W2 ∧ KeepsG F F' W1 W2) ∨ (v = .bool false ∧ ∃ F', Jx (pre ++ [x]) F' W2)) →
    J [] F0 W →
    Calls P g (.func (.yield l) #[] #[] :: lb).toArray W fun e W' => (∃ v, e = .returned v) ∧ ((∃ F', J xs F' W') ∨ ∃ pre F', pre <+: xs ∧ Jx pre F' W')
def zrx {α : Type} (F : Nat → Prop) (J : List α → (Nat → Prop) → World → Prop) (Jx : Exit → List α → (Nat → Prop) → World → Prop) (xs : List α) (A : World) : Exit → Env → World → Prop
  | .normal, _, B => ∃ F', J xs F' B ∧ KeepsG F F' A B
  | .ret, _, B => ∃ F', Jx .ret xs F' B ∧ KeepsG F F' A B
  | .exit id, _, B => ∃ F', Jx (.exit id) xs F' B ∧ KeepsG F F' A B
  | _, _, _ => False
theorem zeQ {α : Type} {S : Sig} (hS : SigOk S) (hr : S.r = none) {f : Operand} {ps : Array Tmp} {assign body : Code} {E : Env} {w : World} {Q : Exit → Env → World → Prop}
    {gf : Nat} {lb : Array Value} (hg : opd E f = some (.func (.func gf) #[] lb)) (hok : zbr S gf = true)
    {xs : List α} {W0 : World} {Rd Ow : Nat → Prop} {St : List α → List Value → World → Prop} (hI : zkT S.P gf lb.toList xs W0 Rd Ow St) (hW0 : W0.heap.size ≤ w.heap.size) (hRd : ∀ k, Rd k ∨ Ow k → k < W0.heap.size ∧ w.heap[k]? = W0.heap[k]?)
    (hps : ∀ pre vs W, St pre vs W → vs.length = ps.size) (hpn : ∀ p ∈ ps.toList, p < S.n)
    (F0 : Nat → Prop) (J : List α → (Nat → Prop) → World → Prop) (Jx : Exit → List α → (Nat → Prop) → World → Prop) (hRF : ∀ k, Rd k → ¬ F0 k)
    (hJ : JG w.heap.size Ow J) (hJx : ∀ ex, JG w.heap.size Ow (Jx ex)) (h0 : J [] F0 w)
    (hround : ∀ (l : Nat) (pre : List α) (x : α) (vs : List Value) (F : Nat → Prop) (W : World), w.heap.size ≤ l → (pre ++ [x]) <+: xs → J pre F W → St (pre ++ [x]) vs W → ¬ F l → (∃ lo, W.heap[l]? = some (.loop lo)) →
      wpE (sr S l) assign ⟨setL ps.toList vs E.vs, []⟩ W fun ex E1 W1 => ex = .normal ∧ ∃ F1, KeepsG F F1 W W1 ∧ J pre F1 W1 ∧
        ∀ o W2, W2 = W1.putObj l o → J pre F1 W2 → wpE (sr S l) body E1 W2 (zrx F1 J Jx (pre ++ [x]) W2))
    (hdone : ∀ D F W, w.heap.size ≤ D → ¬ F D → J xs F W → W.heap[D]? = some (.deferred (some [])) → Q .normal ⟨E.vs, { target := .collected D, args := #[] } :: E.ds⟩ W)
    (hstop : ∀ D ex pre F W, w.heap.size ≤ D → ¬ F D → pre <+: xs → Jx ex pre F W → W.heap[D]? = some (.deferred (some [])) → Q ex ⟨E.vs, { target := .collected D, args := #[] } :: E.ds⟩ W) :
    zkb S f ps assign body E w Q := by
  intro a ha
  have hcall : ∀ args w, (callFunc gf args).run S.P w = .ok (.enter gf args) w := by
    simp only [zbr, Bool.and_eq_true, Nat.ble_eq, Nat.blt_eq] at hok
    exact fun args w => hS.call gf hok.1.1 hok.1.2 hok.2 args w
  refine wpIn_rangeFunc ?_
  intro fn hfn
  have hro : (FR S.r).round = none := hr
  rw [hro]
  obtain ⟨rec, hrec⟩ : ∃ rec : LoopState → Option Code → Loop, rec = fun st pe => { state := st, pending := pe, fn, tmps := a.tmps, params := ps, assign, body, defers := w.heap.size } := ⟨_, rfl⟩
  obtain ⟨W1, hW1⟩ : ∃ W1, (w.alloc (.deferred (some []))).alloc (.loop (rec .ready none)) = W1 := ⟨_, rfl⟩
  have hK0 := hnew w (.deferred (some []))
  have hK1 : W1.heap[w.heap.size]? = some (.deferred (some [])) := by rw [← hW1]; exact hold _ hK0
  have hL1 : W1.heap[w.heap.size + 1]? = some (.loop (rec .ready none)) := by
    rw [← hW1]; have := hnew (w.alloc (.deferred (some []))) (.loop (rec .ready none)); rwa [World.size_alloc] at this
  have hs1 : W1.heap.size = w.heap.size + 2 := by rw [← hW1]; simp
  have hst1 : Below w.heap.size w W1 := by
    rw [← hW1]; exact ((Below.refl _ w).alloc (Nat.le_refl _) _).alloc (by simp) _
  have hJ1 := hJ.step _ _ _ _ h0 (.below hst1)
  have hOl : ∀ k, w.heap.size ≤ k → ¬ Ow k := fun k hk ho => by have := (hRd k (.inr ho)).1; omega
  have hFl : ∀ k, F0 k → k < w.heap.size := fun k hk => (hJ.lt _ _ _ k h0 hk).1
  refine ⟨w.heap.size + 1, [{ target := .collected w.heap.size, args := #[] }], W1, { target := .fn (.func gf) lb, args := #[.func (.yield (w.heap.size + 1)) #[] #[]] }, W1, gf,
    #[.func (.yield (w.heap.size + 1)) #[] #[]] ++ lb, W1, ?_, ?_, fun _ _ => trivial, ?_, fun h => by simp [FR] at h, ?_⟩
  · rw [← hW1, hrec]; exact run_enterLoop_outer _ _ _ _ _
  · have hg' := ha.eval hg
    simp only [resolve, hg']
    simp [go_sem]
  · simp [invoke, go_sem, hcall]
  · have hargs : #[Value.func (.yield (w.heap.size + 1)) #[] #[]] ++ lb = (Value.func (.yield (w.heap.size + 1)) #[] #[] :: lb.toList).toArray := by rw [← Array.toList_inj]; simp
    rw [hargs]
    have book : ∀ {σ : Type} {K : σ → (Nat → Prop) → World → Prop} (lo : Loop), JG w.heap.size Ow K → JG W1.heap.size Ow (fun s F W => K s F W ∧ W.heap[w.heap.size + 1]? = some (.loop lo) ∧ W.heap[w.heap.size]? = some (.deferred (some [])) ∧ ¬ F (w.heap.size + 1) ∧ ¬ F w.heap.size) := by
      intro σ K lo hK
      refine ⟨fun s F A B ⟨hk, hl, hd, hf1, hf2⟩ hs => ?_, fun s F A k ⟨hk, _⟩ hf => hK.lt s F A k hk hf⟩
      exact ⟨hK.step s F A B hk (hs.mono (by omega)), (hs.same _ (hlt hl) (.inl ⟨by omega, hOl _ (by omega)⟩)).trans hl, (hs.same _ (hlt hd) (.inl ⟨by omega, hOl _ (by omega)⟩)).trans hd, hf1, hf2⟩
    have hcalls := hI (w.heap.size + 1) F0 (fun pre F W => J pre F W ∧ W.heap[w.heap.size + 1]? = some (.loop (rec .ready none)) ∧ W.heap[w.heap.size]? = some (.deferred (some [])) ∧ ¬ F (w.heap.size + 1) ∧ ¬ F w.heap.size)
      (fun pre F W => ∃ ex c, ((ex = .ret ∧ c = .ret) ∨ ∃ id, ex = .exit id ∧ c = .exit id) ∧ Jx ex pre F W ∧ W.heap[w.heap.size + 1]? = some (.loop (rec .done (some c))) ∧ W.heap[w.heap.size]? = some (.deferred (some [])) ∧ ¬ F (w.heap.size + 1) ∧ ¬ F w.heap.size)
      W1 (by omega) (fun k hk => by
        obtain ⟨h1, h2⟩ := hRd k hk
        rw [← h2]
        exact hst1.block k (by omega)) hRF (book _ hJ)
      ⟨fun s F A B ⟨ex, c, hc, hrest⟩ hs => ⟨ex, c, hc, (book (rec .done (some c)) (hJx ex)).step s F A B hrest hs⟩,
       fun s F A k ⟨ex, c, hc, hrest⟩ hf => (hJx ex).lt s F A k hrest.1 hf⟩ ?_ ⟨hJ1, hL1, hK1, fun h => by have := hFl _ h; omega, fun h => by have := hFl _ h; omega⟩
    · refine zdu (hcalls.mono ?_)
      rintro e W2 ⟨⟨v, rfl⟩, (⟨F, hj, hl, hk, hf1, hf2⟩ | ⟨pre, F, hpre, ex, c, hc, hj, hl, hk, hf1, hf2⟩)⟩
      · have hj2 := hJ.step _ _ _ _ hj (StepG.put (Ow := Ow) (o := .loop (rec .exhausted none)) (n0 := w.heap.size) (l := w.heap.size + 1) (by omega) hf1)
        refine ⟨none, _, by have := run_endLoop (P := S.P) hl (by rw [hrec]; simp); rw [hrec] at this; exact this, ?_⟩
        rw [hrec] at hj2
        exact ⟨⟨E.vs, { target := .collected w.heap.size, args := #[] } :: E.ds⟩, ⟨ha.size, by simp [ha.defers], ha.val⟩, hdone w.heap.size F _ (Nat.le_refl _) hf2 hj2 ((zai (by omega)).trans hk)⟩
      · have hj2 := (hJx ex).step _ _ _ _ hj (StepG.put (Ow := Ow) (o := .loop (rec .exhausted (some c))) (n0 := w.heap.size) (l := w.heap.size + 1) (by omega) hf1)
        refine ⟨some c, _, by have := run_endLoop (P := S.P) hl (by rw [hrec]; simp); rw [hrec] at this; exact this, ?_⟩
        rw [hrec] at hj2
        have hq := hstop w.heap.size ex pre F _ (Nat.le_refl _) hf2 hpre hj2 ((zai (by omega)).trans hk)
        rcases hc with ⟨rfl, rfl⟩ | ⟨id, rfl, rfl⟩
        · exact wpIn_ret ⟨⟨E.vs, { target := .collected w.heap.size, args := #[] } :: E.ds⟩, ⟨ha.size, by simp [ha.defers], ha.val⟩, hq⟩
        · exact wpIn_exit ⟨⟨E.vs, { target := .collected w.heap.size, args := #[] } :: E.ds⟩, ⟨ha.size, by simp [ha.defers], ha.val⟩, hq⟩
    · rintro pre x vs F W ⟨hj, hl, hk, hf1, hf2⟩ hst0 hpre
      have hy := run_yield (P := S.P) (args := vs.toArray) hl (by rw [hrec]; simpa using hps _ _ _ hst0)
      rw [hrec] at hy
      refine ⟨fn, _, assign, body, hy, zcT (r := none) (n := NN) (roundIn_of_wpIn (F := FR none) trivial ?_)⟩
      have hag : Agrees (sr S (w.heap.size + 1)) { tmps := (ps.zip vs.toArray).foldl (fun t (p, v) => t.setIfInBounds p v) a.tmps, defers := [] } ⟨setL ps.toList vs E.vs, []⟩ := by
        have h1 : Agrees (sr S (w.heap.size + 1)) { a with defers := [] } ⟨E.vs, []⟩ := ⟨ha.size, rfl, ha.val⟩
        have h2 := zcO ps.toList vs _ _ h1 hpn
        have e : (ps.zip vs.toArray).foldl (fun t (p, v) => t.setIfInBounds p v) a.tmps = (ps.toList.zip vs).foldl (fun t (p, v) => t.setIfInBounds p v) a.tmps := by
          rw [← Array.foldl_toList]; simp
        rw [e]; exact h2
      have hw := za0 (zki hS _) assign _ _ W _ hag (hround (w.heap.size + 1) pre x vs F W (by omega) hpre hj hst0 hf1 ⟨_, hl⟩)
      refine wpIn_mono hw ?_
      rintro ex a1 Wa ⟨E1, hag1, rfl, F1, hk1, hj1, hbody⟩
      have hla := (hk1.same _ (hlt hl) hf1).trans hl
      have hka := (hk1.same _ (hlt hk) hf2).trans hk
      have hfa1 : ¬ F1 (w.heap.size + 1) := fun h => by rcases hk1.fp _ h with h | h; exact hf1 h; have := hlt hl; omega
      have hfa2 : ¬ F1 w.heap.size := fun h => by rcases hk1.fp _ h with h | h; exact hf2 h; have := hlt hk; omega
      refine ⟨_, run_beginRound hla (by rw [hrec]), ?_⟩
      have hst : StepG w.heap.size Ow F1 Wa (Wa.putObj (w.heap.size + 1) (.loop { rec .ready none with state := .busy })) := .put (by omega) hfa1 _
      have hj2 := hJ.step _ _ _ _ hj1 hst
      have hw2 := za0 (zki hS _) body _ _ _ _ hag1 (hbody _ _ rfl hj2)
      refine wpIn_mono hw2 ?_
      have hl2 : (Wa.putObj (w.heap.size + 1) (.loop { rec .ready none with state := .busy })).heap[w.heap.size + 1]? = some (.loop { rec .ready none with state := .busy }) := zb0 hla
      have hk2 : (Wa.putObj (w.heap.size + 1) (.loop { rec .ready none with state := .busy })).heap[w.heap.size]? = some (.deferred (some [])) := (zai (by omega)).trans hka
      have fin : ∀ (jump : Option Code) (F3 : Nat → Prop) (W3 : World), KeepsG F1 F3 (Wa.putObj (w.heap.size + 1) (.loop { rec .ready none with state := .busy })) W3 →
          (Instr.endRound (w.heap.size + 1) jump).run S.P W3 = .ok (.bool jump.isNone) (W3.putObj (w.heap.size + 1) (.loop (rec (if jump.isNone then .ready else .done) jump))) ∧
          (W3.putObj (w.heap.size + 1) (.loop (rec (if jump.isNone then .ready else .done) jump))).heap[w.heap.size + 1]? = some (.loop (rec (if jump.isNone then .ready else .done) jump)) ∧
          (W3.putObj (w.heap.size + 1) (.loop (rec (if jump.isNone then .ready else .done) jump))).heap[w.heap.size]? = some (.deferred (some [])) ∧
          StepG w.heap.size Ow F3 W3 (W3.putObj (w.heap.size + 1) (.loop (rec (if jump.isNone then .ready else .done) jump))) ∧ ¬ F3 (w.heap.size + 1) ∧ ¬ F3 w.heap.size := fun jump F3 W3 hk3 => by
        have hl3 := (hk3.same _ (hlt hl2) hfa1).trans hl2
        have hd3 := (hk3.same _ (hlt hk2) hfa2).trans hk2
        have hf31 : ¬ F3 (w.heap.size + 1) := fun h => by rcases hk3.fp _ h with h | h; exact hfa1 h; have := hlt hl2; omega
        have hf32 : ¬ F3 w.heap.size := fun h => by rcases hk3.fp _ h with h | h; exact hfa2 h; have := hlt hk2; omega
        have := run_endRound (P := S.P) jump hl3
        rw [hrec] at this ⊢
        exact ⟨this, zb0 hl3, (zai (by omega)).trans hd3, .put (by omega) hf31 _, hf31, hf32⟩
      rintro e a3 W3 ⟨E3, _, hq⟩
      cases e with
      | normal =>
        obtain ⟨F3, hj3, hk3⟩ := hq
        obtain ⟨hr3, hl4, hk4, hs3, hf31, hf32⟩ := fin none F3 W3 hk3
        have hj4 := hJ.step _ _ _ _ hj3 hs3
        refine ⟨_, _, hr3, .inl ⟨rfl, F3, ⟨hj4, hl4, hk4, hf31, hf32⟩, ?_⟩⟩
        refine ⟨hs3.os.trans (hk3.os.trans hk1.os), hs3.tape.trans (hk3.tape.trans hk1.tape), hs3.output.trans (hk3.output.trans hk1.output), ?_, fun k hk5 hf5 => ?_, fun k hk5 => ?_⟩
        · have h1 := hk1.size; have h2 := hst.size; have h3 := hk3.size; have h4 := hs3.size; omega
        · by_cases hkl : k = w.heap.size + 1
          · subst hkl; rw [hl4, hl]; rfl
          · have h1 : ¬ F1 k := fun h => by rcases hk1.fp _ h with h | h; exact hf5 h; omega
            have h2 := hk1.size; have h3 := hst.size
            rw [zai hkl, hk3.same k (by omega) h1, zai hkl]
            exact hk1.same k hk5 hf5
        · rcases hk3.fp _ hk5 with h2 | h2
          · exact hk1.fp _ h2
          · have h3 := hk1.size; have h4 := hst.size; exact .inr (by omega)
      | ret =>
        obtain ⟨F3, hj3, hk3⟩ := hq
        obtain ⟨hr3, hl4, hk4, hs3, hf31, hf32⟩ := fin (some .ret) F3 W3 hk3
        have hj4 := (hJx .ret).step _ _ _ _ hj3 hs3
        exact ⟨_, _, hr3, .inr ⟨rfl, F3, .ret, .ret, .inl ⟨rfl, rfl⟩, hj4, hl4, hk4, hf31, hf32⟩⟩
      | exit id =>
        obtain ⟨F3, hj3, hk3⟩ := hq
        obtain ⟨hr3, hl4, hk4, hs3, hf31, hf32⟩ := fin (some (.exit id)) F3 W3 hk3
        have hj4 := (hJx (.exit id)).step _ _ _ _ hj3 hs3
        exact ⟨_, _, hr3, .inr ⟨rfl, F3, .exit id, .exit id, .inr ⟨id, rfl, rfl⟩, hj4, hl4, hk4, hf31, hf32⟩⟩
      | goto t => exact hq.elim
      | panic ch => exact hq.elim
      | outgrown => exact hq.elim
end Go.Vc
namespace Go.Proofs.YtlkofpbdpplfkaaGreatDoor
open Go.Vc Go.RowKit Go.Sei
def s64 (n:Nat):Value := .int .u64 (n:Nat)
def s32 (n:Nat):Value := .int .u32 (n:Nat)
theorem bvN {a:Nat} (h:a<2^64):(BitVec.ofInt 64 (a:Int)).toNat=a:=by
 rw [BitVec.toNat_ofInt];have:((a:Int)%((2^64:Nat):Int))=(a:Int):=Int.emod_eq_of_lt (by omega) (by omega);rw [this];rfl
theorem w64 {a:Int} (h:0<=a/\a<=18446744073709551615):IntKind.u64.wrap a=a:=ze2 h
theorem zbz {a b:Nat} (ha:a<2^64) (hb:b<2^64):IntKind.u64.wrap ((BitVec.ofInt IntKind.u64.bits (a:Int)&&&BitVec.ofInt IntKind.u64.bits (b:Int)).toNat:Int)=((a&&&b:Nat):Int):=by
 show IntKind.u64.wrap ((BitVec.ofInt 64 (a:Int)&&&BitVec.ofInt 64 (b:Int)).toNat:Int)=_;rw [BitVec.toNat_and,bvN ha,bvN hb];have:a&&&b<=a:=Nat.and_le_left;exact w64 (by omega)
theorem zb2 {a b:Nat} (ha:a<2^64) (hb:b<2^64):IntKind.u64.wrap ((BitVec.ofInt IntKind.u64.bits (a:Int)|||BitVec.ofInt IntKind.u64.bits (b:Int)).toNat:Int)=((a|||b:Nat):Int):=by
 show IntKind.u64.wrap ((BitVec.ofInt 64 (a:Int)|||BitVec.ofInt 64 (b:Int)).toNat:Int)=_;rw [BitVec.toNat_or,bvN ha,bvN hb];have:a|||b<2^64:=Nat.or_lt_two_pow ha hb;exact w64 (by omega)
def zb5 (a b:Nat):Nat:=a&&&(18446744073709551615-b)
theorem zdn {a b:Nat} (ha:a<2^64) (hb:b<2^64):IntKind.u64.wrap ((BitVec.ofInt IntKind.u64.bits (a:Int) &&& ~~~ BitVec.ofInt IntKind.u64.bits (b:Int)).toNat:Int)=((zb5 a b:Nat):Int):=by
 show IntKind.u64.wrap ((BitVec.ofInt 64 (a:Int) &&& ~~~ BitVec.ofInt 64 (b:Int)).toNat:Int)=_;rw [BitVec.toNat_and,BitVec.toNat_not,bvN ha,bvN hb];have e:2^64-1-b=18446744073709551615-b:=by omega
 rw [e];have:a&&&(18446744073709551615-b)<=a:=Nat.and_le_left;unfold zb5;exact w64 (by omega)
theorem zg6 {a b:Nat} (ha:a<2^64):zb5 a b<2^64:=by
 have:zb5 a b<=a:=Nat.and_le_left;omega
theorem zfK {a b i:Nat} (hb:b<2^64) (hi:i<64):(zb5 a b).testBit i=(a.testBit i && !b.testBit i):=by
 unfold zb5;rw [Nat.testBit_and,show 18446744073709551615-b=2^64-(b+1) by omega,Nat.testBit_two_pow_sub_succ hb];simp [hi]
theorem zby {e:Nat} (he:e<64):IntKind.u64.wrap ((1:Int)*2^(min (Int.toNat (e:Int)) IntKind.u64.bits))=((2^e:Nat):Int):=by
 have h64:2^e<2^64:=Nat.pow_lt_pow_right (by decide) he;have e1:min (Int.toNat (e:Int)) IntKind.u64.bits=e:=by
  rw [Int.toNat_natCast];show min e 64=_;omega
 rw [e1,Int.one_mul];have e2:(2:Int)^e=((2^e:Nat):Int):=by simp
 rw [e2];exact w64 ⟨Int.natCast_nonneg _,Int.ofNat_le.2 (show 2^e<=18446744073709551615 by omega)⟩
theorem zgM {a k:Nat} (hk:k<=64):((a:Nat):Int).fdiv (2^(min (Int.toNat (k:Int)) IntKind.u64.bits))=((a/2^k:Nat):Int):=by
 rw [Int.toNat_natCast,show min k IntKind.u64.bits=k from Nat.min_eq_left hk,Int.fdiv_eq_ediv_of_nonneg _ (Int.pow_nonneg (by decide)),Int.natCast_ediv,Int.natCast_pow];rfl
theorem zi4 {a k:Nat}:(a/2^k)&&&1=if a.testBit k then 1 else 0:=by
 rw [Nat.and_one_is_mod,Nat.testBit_eq_decide_div_mod_eq];by_cases h:a/2^k%2=1
 ·rw [h];rfl
 ·rw [if_neg (by simpa using h)];omega
theorem zaF {k:Nat} (h:k<64):2^k<2^64:=Nat.pow_lt_pow_right (by decide) h
theorem w32 {a:Int} (h:0<=a/\a<=4294967295):IntKind.u32.wrap a=a:=by
 unfold IntKind.wrap;simp only [IntKind.bits,IntKind.signed,Bool.false_and,Bool.false_eq_true,if_false];omega
theorem zru {a:Nat} (h:a<2^32):(BitVec.ofInt 32 (a:Int)).toNat=a:=by
 rw [BitVec.toNat_ofInt];have:((a:Int)%((2^32:Nat):Int))=(a:Int):=Int.emod_eq_of_lt (by omega) (by omega);rw [this];rfl
theorem zk8 {a b:Nat} (ha:a<2^32) (hb:b<2^32):IntKind.u32.wrap ((BitVec.ofInt IntKind.u32.bits (a:Int)&&&BitVec.ofInt IntKind.u32.bits (b:Int)).toNat:Int)=((a&&&b:Nat):Int):=by
 show IntKind.u32.wrap ((BitVec.ofInt 32 (a:Int)&&&BitVec.ofInt 32 (b:Int)).toNat:Int)=_;rw [BitVec.toNat_and,zru ha,zru hb];have:a&&&b<=a:=Nat.and_le_left;exact w32 (by omega)
theorem zoU {e:Nat} (he:e<32):IntKind.u32.wrap ((1:Int)*2^(min (Int.toNat (e:Int)) IntKind.u32.bits))=((2^e:Nat):Int):=by
 have h64:2^e<2^32:=Nat.pow_lt_pow_right (by decide) he;have e1:min (Int.toNat (e:Int)) IntKind.u32.bits=e:=by
  rw [Int.toNat_natCast];show min e 32=_;omega
 rw [e1,Int.one_mul];have e2:(2:Int)^e=((2^e:Nat):Int):=by simp
 rw [e2];exact w32 ⟨Int.natCast_nonneg _,Int.ofNat_le.2 (show 2^e<=4294967295 by omega)⟩
def zkf:List UInt8:=[0,1,56,2,57,49,28,3,61,58,42,50,38,29,17,4,62,47,59,36,45,43,51,22,53,39,33,30,24,18,12,5,63,55,48,27,60,41,37,16,46,35,44,21,52,32,23,11,54,26,40,15,34,20,31,10,25,14,19,9,13,8,7,6]
def zkg:List UInt8:=[0,1,28,2,29,14,24,3,30,22,20,15,25,17,4,8,31,27,13,23,21,19,16,7,26,12,18,6,11,5,10,9]
def Tz64M (X:World):Prop:=zax X ⟨8,0,none⟩ (zkf.map u8)
def Tz32M (X:World):Prop:=zax X ⟨7,0,none⟩ (zkg.map u8)
theorem Tz64M.below {w w2:World} (h:Tz64M w) (hb:Bw w w2):Tz64M w2:=zaq hb h
theorem Tz32M.below {w w2:World} (h:Tz32M w) (hb:Bw w w2):Tz32M w2:=zaq hb h
theorem zm9 {k:Nat} (hk:k<64):2^k*285870213051353865%18446744073709551616/2^58<64/\zkf[2^k*285870213051353865%18446744073709551616/2^58]?=some (UInt8.ofNat k):=by
 have h:(List.range 64).all (fun k=>decide (2^k*285870213051353865%18446744073709551616/2^58<64)&&decide (zkf[2^k*285870213051353865%18446744073709551616/2^58]?=some (UInt8.ofNat k)))=true:=by kernel_rfl
 have h1:=List.all_eq_true.1 h k (List.mem_range.2 hk);rw [bAT,dE,dE] at h1;exact h1
theorem zna {k:Nat} (hk:k<32):2^k*125613361%4294967296/2^27<32/\zkg[2^k*125613361%4294967296/2^27]?=some (UInt8.ofNat k):=by
 have h:(List.range 32).all (fun k=>decide (2^k*125613361%4294967296/2^27<32)&&decide (zkg[2^k*125613361%4294967296/2^27]?=some (UInt8.ofNat k)))=true:=by kernel_rfl
 have h1:=List.all_eq_true.1 h k (List.mem_range.2 hk);rw [bAT,dE,dE] at h1;exact h1
theorem zou {s:Nat} {w:World} (hT:Tz64M w) (h0:s≠0) (h:s<2^64):Calls Tryz.prog 270 #[s64 s] w fun e w'=>e = .returned (i64 (ctz s:Nat))/\w=w':=by
 refine cofE 14 [s64 s] Tryz.func270 ?_;obtain⟨_,_,h2,h3⟩:=zbq h0 h;have hp:=zaF h3;obtain⟨t1,t2⟩:=zm9 h3;refine brN (decide_eq_false (fun e=>h0 (by omega))) ?_;refine⟨((2^64-s:Nat):Int),by unfold IntKind.wrap;simp only [IntKind.bits,IntKind.signed,Bool.false_and,Bool.false_eq_true,if_false];omega,?_⟩;refine⟨((2^ctz s:Nat):Int),(zbz (a:=s) (b:=2^64-s) h (by omega)).trans (by rw [h2]),?_⟩;refine⟨((2^ctz s*285870213051353865%18446744073709551616:Nat):Int),by
  have e:(((2^ctz s:Nat):Int)*285870213051353865)=((2^ctz s*285870213051353865:Nat):Int):=by rw [Int.natCast_mul];rfl
  rw [e];generalize 2^ctz s*285870213051353865=n;unfold IntKind.wrap;simp only [IntKind.bits,IntKind.signed,Bool.false_and,Bool.false_eq_true,if_false];omega,?_⟩
 refine⟨by decide,_,zgM (k:=58) (by decide),?_⟩;refine⟨_,rfl,t1,?_⟩;have hv:(zkf.map u8)[2^ctz s*285870213051353865%18446744073709551616/2^58]?=some (u8 (UInt8.ofNat (ctz s))):=by rw [List.getElem?_map,t2];rfl
 refine⟨u8 (UInt8.ofNat (ctz s)),by rw [Nat.mul_one];exact zac hT hv,?_⟩;have e:(UInt8.ofNat (ctz s)).toNat=ctz s:=by rw [UInt8.toNat_ofNat'];omega
 exact⟨(ctz s:Int),by rw [e];exact zaf (by omega),rfl,rfl⟩
theorem zgD {s:Nat} {w:World}:Calls Tryz.prog 251 #[s64 s] w fun e w'=>e = .returned (.func (.func 289) #[] #[.pointer (some ⟨w.heap.size,0,none⟩)])/\w'=w.alloc (.cells #[s64 s] 99):=by
 refine cofE 4 [s64 s] Tryz.func251 ?_;exact⟨rfl,rfl⟩
def StN (pre:List Nat) (vs:List Value) (W:World):Prop:=∃ c,pre.getLast?=some c/\vs=[i64 (c:Nat)]
theorem zbD {X Y:World} (h:Tz64M X) (hs:Y.heap[8]?=X.heap[8]?):Tz64M Y:=zaY hs h
theorem zck {X:World} (h:Tz64M X):8<X.heap.size:=World.block_lt_of_cell? X _ (zbW h)
def RdE (bx:Nat) (k:Nat):Prop:=k=bx\/k=8
theorem ziZ {bx s:Nat} {W0:World} (hbx:W0.heap[bx]?=some (.cells #[s64 s] 99 (0,0))) (hs:s<2^64) (hT:Tz64M W0) :
  zkT Tryz.prog 289 [At0 bx] (els s) W0 (RdE bx) (fun _=>False) StN:=by
 intro yl F0 J Jx W hsz hrd hrf hJ hJx hy h0;have hbW:W.heap[bx]?=some (.cells #[s64 s] 99 (0,0)):=(hrd bx (.inl (.inl rfl))).trans hbx;have hTW:Tz64M W:=zbD hT (hrd _ (.inl (.inr rfl)));have hgf:¬ F0 8:=hrf _ (.inr rfl);refine cofE 16 [.func (.yield yl) #[] #[],At0 bx] Tryz.func289 ?_;refine⟨_,zac (zaa hbW) (i:=0) rfl,?_⟩;refine⟨List Nat×Nat,fun q=>⟨[(0,.func (.yield yl) #[] #[]),(3,s64 q.2)],[]⟩,
  fun q X=>∃ F,J q.1 F X/\els s=q.1++els q.2/\q.2<2^64/\Tz64M X/\¬ F 8,fun q=>q.2,([],s),
  (cvE rfl rfl),⟨F0,h0,rfl,hs,hTW,hgf⟩,?_⟩
 clear hbW hTW hgf h0;rintro⟨pre,r⟩ X ⟨F,hI,hxs,hr,hTX,hgX⟩;dsimp only at hI hxs hr ⊢;refine biE (fun hc=>?_) fun hc=>?_
 ·have hc:(!decide ((r:Int)=0))=true:=hc;have hc:¬ (r:Int)=0:=by simpa using hc
  have hr0:r≠0:=by omega
  obtain⟨e1,e2,_,_⟩:=zbq hr0 hr;refine cmo (zou hTX hr0 hr) ?_;rintro e _ ⟨rfl,rfl⟩;have hpre:(pre++[ctz r]) <+: els s:=⟨els (rest r),by rw [hxs,e1];simp⟩;refine YieldR.mono (hy pre (ctz r) [i64 (ctz r:Nat)] F X hI ⟨ctz r,by simp,rfl⟩ hpre) ?_;rintro v V (⟨rfl,F',hJV,hKV⟩ | ⟨rfl,F',hJV⟩)
  ·refine brF ?_;have hXs:=hKV.size;have hgl:=zck hTX;have hTV:Tz64M V:=zbD hTX (hKV.same _ hgl hgX);have hgV:¬ F' 8:=fun h=>by
    rcases hKV.fp _ h with h3 | h3
    ·exact hgX h3
    ·omega
   refine⟨((r-1:Nat):Int),(ze2 (a:=(r:Int)-1) (by omega)).trans (by omega),?_⟩;refine⟨((rest r:Nat):Int),zbz (a:=r) (b:=r-1) hr (by omega),?_⟩;exact⟨(pre++[ctz r],rest r),(cvE rfl rfl),⟨F',hJV,by rw [hxs,e1];simp,by show rest r<_;omega,hTV,hgV⟩,e2⟩
  ·refine brT ?_;exact⟨⟨_,rfl⟩,.inr ⟨_,F',hpre,hJV⟩⟩
 ·have hc:(!decide ((r:Int)=0))=false:=hc;have hc:(r:Int)=0:=by simpa using hc
  obtain rfl:r=0:=by omega
  refine⟨⟨_,rfl⟩,.inl ?_⟩;rw [hxs,zcY,List.append_nil];exact⟨F,hI⟩
theorem joG {σ:Type} {n0:Nat} {F:Nat->Prop} {J:σ->World->Prop} (hF:∀ k,F k->k<n0) (hn:∀ s A,J s A->n0<=A.heap.size) (hJ:∀ s A B,J s A->Below n0 A B->J s B) :
  JG n0 (fun _=>False) (fun s F' W=>F'=F/\J s W):=by
 refine⟨fun s F' A B ⟨e,h⟩ hs=>⟨e,hJ s A B h ⟨hs.os,hs.tape,hs.output,hs.size,fun k hk=>hs.same k (nL hk (hn s A h)) (.inl ⟨hk,fun h=>h⟩)⟩⟩,fun s F' A k ⟨e,h⟩ hk=>?_⟩;subst e;exact⟨nL (hF k hk) (hn s A h),fun h=>h⟩
theorem zbI {n:Nat} {A B:World} (h:Below n A B) {g:Nat} {o:Obj} (hg:g<n) (f:A.heap[g]?=some o):B.heap[g]?=some o:=(h.block g hg).trans f
theorem zcq {s:Nat} {w:World} (hs:s<2^64) (hT:Tz64M w):Calls Tryz.prog 215 #[s64 s] w fun e w' =>
  e = .returned (.tuple #[i64 ((els s).headD 0:Nat),.bool (!(els s).isEmpty)])/\Bw w w':=by
 refine cofM 9 [s64 s] (.c .p .p) Tryz.func215 ?_;obtain⟨L,hL⟩:=nm (w.heap.size);refine⟨Unit,fun _=>⟨[(0,s64 s),(2,At0 L),(3,At0 (L+1))],[]⟩,fun _ X=>X.heap[L]?=some (.cells #[i64 0] 3 (0,0))/\X.heap[L+1]?=some (.cells #[.bool false] 4 (0,0))/\X.heap.size=L+2/\Bw w X,?_,?_⟩
 ·have sz:=wz w (.cells #[i64 0] 3);refine⟨(),⟨.cons rfl (.cons (by rw [hL];rfl) (.cons (by rw [hL,<- sz];rfl) .nil)),rfl⟩,?_,?_,?_,?_⟩
  ·rw [hL];exact hold _ (hnew w _)
  ·have:=hnew (w.alloc (.cells #[i64 0] 3)) (.cells #[.bool false] 4);rw [sz,<- hL] at this;exact this
  ·have:=wz (w.alloc (.cells #[i64 0] 3)) (.cells #[.bool false] 4);rw [sz,<- hL] at this;exact this
  ·exact ((zba w _)).alloc (by simp) _
 rintro _ X ⟨f1,f2,sX,hbX⟩;refine cmo zgD ?_;rintro e W ⟨rfl,hW⟩;have hbW:Bw X W:=by rw [hW];exact (zba _ _)
 have fb:W.heap[X.heap.size]?=some (.cells #[s64 s] 99 (0,0)):=by rw [hW];exact hnew X _
 have sW:W.heap.size=L+3:=by rw [hW,wz,sX]
 have g1:=zab hbW f1;have g2:=zab hbW f2;have hbw:Bw w W:=zst hbX hbW;have hTW:=hT.below hbw;clear hW;refine zeQ (sgOk _) rfl (lb := #[.pointer (some ⟨X.heap.size,0,none⟩)]) rfl rfl (ziZ fb hs hTW) (Nat.le_refl _) (fun k hk=>⟨by rcases hk with (rfl | rfl) | h;exact hlt fb;exact zck hTW;exact h.elim,rfl⟩) (fun pre vs W ⟨c,_,h⟩=>by rw [h];rfl) (by decide)
  (fun k=>k=L\/k=L+1) (fun pre F Y=>F=(fun k=>k=L\/k=L+1)/\pre=[]/\W.heap.size<=Y.heap.size/\Y.heap[L]?=some (.cells #[i64 0] 3 (0,0))/\Y.heap[L+1]?=some (.cells #[.bool false] 4 (0,0))/\Bw w Y)
  (fun ex pre F Y=>F=(fun k=>k=L\/k=L+1)/\ex = .ret/\W.heap.size<=Y.heap.size/\(∃ c,pre=[c]/\Y.heap[L]?=some (.cells #[i64 (c:Nat)] 3 (0,0)))/\Y.heap[L+1]?=some (.cells #[.bool true] 4 (0,0))/\Bw w Y)
  (fun k hk h=>by have:=zck hT;rcases hk with rfl | rfl <;> omega)
  (joG (F:=fun k=>k=L\/k=L+1) (J:=fun (pre:List Nat) Y=>pre=[]/\W.heap.size<=Y.heap.size/\Y.heap[L]?=some (.cells #[i64 0] 3 (0,0))/\Y.heap[L+1]?=some (.cells #[.bool false] 4 (0,0))/\Bw w Y) (fun k h=>by omega) (fun s A h=>h.2.1) (fun pre A B ⟨h0,h1,h2,h3,h4⟩ hb=>⟨h0,Nat.le_trans h1 hb.size,zbI hb (by omega) h2,zbI hb (by omega) h3,h4.trans (hb.mono (by omega))⟩))
  (fun ex=>joG (F:=fun k=>k=L\/k=L+1) (J:=fun (pre:List Nat) Y=>ex = .ret/\W.heap.size<=Y.heap.size/\(∃ c,pre=[c]/\Y.heap[L]?=some (.cells #[i64 (c:Nat)] 3 (0,0)))/\Y.heap[L+1]?=some (.cells #[.bool true] 4 (0,0))/\Bw w Y) (fun k h=>by omega) (fun s A h=>h.2.1) (fun pre A B ⟨h0,h1,⟨c,hc,h2⟩,h3,h4⟩ hb=>⟨h0,Nat.le_trans h1 hb.size,⟨c,hc,zbI hb (by omega) h2⟩,zbI hb (by omega) h3,h4.trans (hb.mono (by omega))⟩))
  ⟨rfl,rfl,Nat.le_refl _,g1,g2,hbw⟩ ?_ ?_ ?_
 ·rintro yl pre x vs F V hyl hpre hJ ⟨x',hx',rfl⟩ hfy ⟨lo,hlo⟩;have hx':x=x':=by simpa using hx'
  subst hx';refine⟨rfl,F,KeepsG.refl _ _,hJ,?_⟩;rintro o V2 hV2 ⟨rfl,rfl,h1,h2,h3,h4⟩;refine zal k3 h2 (o:=0) (v:=i64 (x:Nat)) rfl rfl (by show 0<1;decide) rfl fun Y fY gY sY=>?_;have h3':=(gY.block (L+1) (hlt h3) (by simp)).trans h3;refine zal k4 h3' (o:=0) (v := .bool true) rfl rfl (by show 0<1;decide) rfl fun Z fZ gZ sZ=>?_;have fY':=(gZ.block L (hlt fY) (by simp)).trans fY;refine⟨_,⟨rfl,rfl,by omega,⟨x,rfl,fY'⟩,fZ,(h4.trans (zak gY (by omega) (by omega))).trans (zak gZ (by omega) (by omega))⟩,(KeepsG.grown (F:=fun k=>k=L\/k=L+1) gY (.inl rfl)).trans (KeepsG.grown gZ (.inr rfl))⟩
 ·rintro D F Y hD hfD ⟨_,h0,h1,h2,h3,h4⟩ hdef;refine zal k3 h2 (o:=0) (v:=i64 0) rfl rfl (by show 0<1;decide) rfl fun Y1 fY gY sY=>?_;have h3':=(gY.block (L+1) (hlt h3) (by simp)).trans h3;refine zal k4 h3' (o:=0) (v := .bool false) rfl rfl (by show 0<1;decide) rfl fun Z fZ gZ sZ=>?_;have fY':=(gZ.block L (hlt fY) (by simp)).trans fY;have hdef':=(gZ.block D (by rw [sY];exact hlt hdef) (by simp;omega)).trans ((gY.block D (hlt hdef) (by simp;omega)).trans hdef);refine⟨_,rfl,hdef',?_⟩;refine⟨i64 0,?_,.bool false,?_,?_,?_⟩
  ·exact zac (zaa ((zai (by omega)).trans fY')) (i:=0) rfl
  ·exact zac (zaa ((zai (by omega)).trans fZ)) (i:=0) rfl
  ·rw [h0];rfl
  ·exact zaP ((h4.trans (zak gY (by omega) (by omega))).trans (zak gZ (by omega) (by omega))) (by omega) _
 ·rintro D ex pre F Y hD hfD ⟨t,ht⟩ ⟨_,rfl,h1,⟨c,rfl,h2⟩,h3,h4⟩ hdef;refine⟨_,rfl,hdef,?_⟩;refine⟨i64 (c:Nat),?_,.bool true,?_,?_,?_⟩
  ·exact zac (zaa ((zai (by omega)).trans h2)) (i:=0) rfl
  ·exact zac (zaa ((zai (by omega)).trans h3)) (i:=0) rfl
  ·rw [<- ht];rfl
  ·exact zaP h4 (by omega) _
def allN (n:Int):Nat:=if n<1 then 0 else if 64<=n then 18446744073709551615 else 2^n.toNat-1
theorem zc1 (n:Int):allN n<2^64:=by
 unfold allN
 split
 ·decide
 split
 ·decide
 ·have:=zaF (k:=n.toNat) (by omega);omega
theorem zkZ {n:Int} {w:World}:Calls Tryz.prog 212 #[i64 n] w fun e w'=>e = .returned (s64 (allN n))/\w=w':=by
 refine cofE 10 [i64 n] Tryz.func212 ?_;refine biE (fun h=>?_) fun h=>?_
 ·have h:n<1:=dT h;exact⟨by unfold allN;rw [if_pos h];rfl,rfl⟩
 ·have h:¬ n<1:=dF h;refine biE (fun h2=>?_) fun h2=>?_
  ·have h2:64<=n:=dT h2;exact⟨by unfold allN;rw [if_neg h,if_pos h2];rfl,rfl⟩
  ·have h2:¬ 64<=n:=dF h2;obtain⟨k,rfl⟩:∃ k:Nat,n=k:=⟨n.toNat,by omega⟩;have hk:k<64:=by omega
   have hp:=zaF hk;have hp0:=Nat.two_pow_pos k;refine⟨by omega,_,zby hk,?_⟩;refine⟨((2^k-1:Nat):Int),?_,?_⟩
   ·generalize 2^k=m at hp hp0 ⊢;exact (w64 (a:=(m:Int)-1) (by omega)).trans (by omega)
   ·exact⟨by unfold allN;rw [if_neg h,if_neg h2];rfl,rfl⟩
def natE:Enc Nat:=⟨fun n=>[i64 (n:Nat)],1,fun _=>rfl,by decide,fun a u hu=>by
 simp only [List.mem_cons,List.not_mem_nil,or_false] at hu;subst hu;rfl⟩
theorem zfT (s:Nat):(els s).length<=64:=by
 have:=List.length_filter_le (fun i=>s.testBit i) (List.range 64);rw [List.length_range] at this;exact this
def zcS (to:Nat->Nat):List Value:=(List.range 48).map fun i=>s64 (to i)
def relC (r:RelD):List Value:=i64 r.n::zcS r.to
def WrdR (to:Nat->Nat):Prop:=∀ i,i<48->to i<2^64
theorem zcz (to:Nat->Nat):(zcS to).length=48:=by unfold zcS;rw [List.length_map,List.length_range]
theorem zdN (to:Nat->Nat) {i:Nat} (h:i<48):(zcS to)[i]?=some (s64 (to i)):=by
 unfold zcS;rw [List.getElem?_map,List.getElem?_range h];rfl
theorem zad (r:RelD):(relC r).length=49:=by unfold relC;rw [List.length_cons,zcz]
theorem zfq (r:RelD) {i:Nat} (h:i<48):(relC r)[1+i]?=some (s64 (r.to i)):=by
 unfold relC;rw [Nat.add_comm,List.getElem?_cons_succ,zdN _ h]
theorem znr (to:Nat->Nat) {i:Nat} (h:i<48) (v:Nat):(zcS to).set i (s64 v)=zcS (upd to i v):=by
 apply List.ext_getElem?;intro j;by_cases hj:j<48
 ·rw [zdN _ hj];by_cases e:i=j
  ·subst e;rw [List.getElem?_set_self (by rw [zcz];exact h),zbd]
  ·rw [List.getElem?_set_ne e,zdN _ hj,zcx _ _ (fun h=>e h.symm)]
 ·rw [List.getElem?_eq_none (by rw [List.length_set,zcz];omega),List.getElem?_eq_none (by rw [zcz];omega)]
theorem ze4 (r:RelD) {i:Nat} (h:i<48) (v:Nat):(relC r).set (1+i) (s64 v)=relC ⟨r.n,upd r.to i v⟩:=by
 unfold relC;rw [Nat.add_comm,List.set_cons_succ,znr _ h]
theorem zau (r:RelD):(relC r).all Value.oneCell'=true:=by
 unfold relC zcS;rw [List.all_cons,List.all_map];rw [bAT,List.all_eq_true];exact⟨rfl,fun x _=>rfl⟩
theorem zhk {S:Sig} {g:Nat} {caps:Array Value} {vs:List Value} {w:World} {K:Value->World->Prop} {KP:List PanicEntry->World->Prop} {R:Ending->World->Prop} (hok:zbr S g=true)
  (h:Calls S.P g (vs++caps.toList).toArray w R) (k:∀ e w',R e w'->∃ v,e = .returned v/\K v w'):zoa S (.func (.func g) #[] caps) vs w K KP:=by
 unfold zoa;dsimp only;rw [hok];exact CallR.mk h k
theorem zf4 (n:Int):allM n=allN n:=rfl
theorem zjF (a b:Nat):zdA a b=zb5 a b:=rfl
section
variable {r:RelD} {w:World}
theorem zbl (hr:WrdR r.to):CB 151 #[.agg (relC r).toArray] w (.bool (okR r)):=by
 refine cofE 38 [.agg (relC r).toArray] Tryz.func151 ?_;have f0:=hnew w (.cells (relC r).toArray 102);have hb:Bw w (w.alloc (.cells (relC r).toArray 102)):=zba w _;obtain⟨X,hX⟩:=nm (w.alloc (.cells (relC r).toArray 102));have hX':w.alloc (.cells (Value.agg (relC r).toArray).cells 102)=X:=hX.symm;rw [<- hX] at f0 hb;have hn:X.cell? ⟨w.heap.size,0+0,none⟩=some (i64 r.n):=zac (zaa f0) (i:=0) rfl;have out:∀ b,okR r=b->(∀ h:Ending.returned (.bool b)=Ending.returned (.bool (okR r)),True):=fun _ _ _=>trivial;refine⟨i64 r.n,by rw [hX'];exact hn,?_⟩;rw [hX'];refine biE (fun h=>?_) fun h=>?_
 ·have h:r.n<0:=dT h;refine brT ?_;exact⟨rb (by unfold okR;rw [decide_eq_false (by omega)];rfl),hb⟩
 have h:¬ r.n<0:=dF h;refine⟨i64 r.n,hn,?_⟩;refine biE (fun h2=>?_) fun h2=>?_
 ·have h2:(48:Int)<r.n:=dT h2;exact⟨rb (by unfold okR;rw [decide_eq_false (show ¬ r.n<=48 by omega),Bool.false_and,Bool.and_false]),hb⟩
 have h2:¬ (48:Int)<r.n:=dF h2;have ok0:okR r=(List.range 48).all (zdO r):=by
  unfold okR;rw [decide_eq_true (by omega),decide_eq_true (by omega)];rfl
 rw [ok0];refine⟨i64 r.n,hn,?_⟩;refine cmo zkZ ?_;rintro e _ ⟨rfl,rfl⟩;refine⟨zcS r.to,zcz _,?_,hlt f0,?_⟩
 ·have:=zaw (n:=1) (m:=48) (zaa f0);have e:((relC r).toArray.toList.drop 1).take 48=zcS r.to:=by
   show (zcS r.to).take 48=_;rw [List.take_of_length_le (by rw [zcz];exact Nat.le_refl _)]
  rw [e] at this;exact this
 refine⟨Nat,fun k=>⟨[(1,.pointer (some ⟨w.heap.size,0,none⟩)),(3,s64 (allN r.n)),(18,.agg (zcS r.to).toArray),(19,i64 (k:Nat))],[]⟩,fun k Y=>X=Y/\k<=48/\∀ i,i<k->zdO r i=true,fun k=>48-k,0,
  (cvE rfl rfl),⟨rfl,Nat.zero_le _,fun i hi=>by omega⟩,?_⟩
 rintro k _ ⟨rfl,hk,hall⟩;refine biE (fun hc=>?_) fun hc=>?_
 ·have hc:(k:Int)<48:=dT hc;have hk':k<48:=by omega
  refine⟨k,rfl,hk',?_⟩;refine zdq (by rw [Nat.mul_one];exact zdN _ hk') ?_;refine⟨_,zdn (hr k hk') (zc1 _),?_⟩;have no:zdO r k=false->(List.range 48).all (zdO r)=false:=fun h=>by
   rw [List.all_eq_false];exact⟨k,List.mem_range.2 hk',by rw [h];exact Bool.false_ne_true⟩
  refine biE (fun h3=>?_) fun h3=>?_
  ·have h3:(!decide (((zb5 (r.to k) (allN r.n):Nat):Int)=0))=true:=h3;have h3:¬ zdA (r.to k) (allM r.n)=0:=fun e=>by
    rw [zjF,zf4] at e;rw [e] at h3;exact absurd h3 (by decide)
   refine brT ?_;exact⟨rb (no (by unfold zdO;rw [decide_eq_false h3];rfl)).symm,hb⟩
  have h3:(!decide (((zb5 (r.to k) (allN r.n):Nat):Int)=0))=false:=h3;have h3:zdA (r.to k) (allM r.n)=0:=by
   have h4:decide (((zb5 (r.to k) (allN r.n):Nat):Int)=0)=true:=by simpa using h3
   exact Int.ofNat.inj (dT h4)
  refine⟨i64 r.n,hn,?_⟩;have next:zdO r k=true->∀ {K:Prop},(∀ k',k'=k+1->(∀ i,i<k'->zdO r i=true)->K)->K:=fun h K hK=>hK _ rfl fun i hi=>by
   by_cases e:i=k
   ·rw [e];exact h
   ·exact hall i (by omega)
  have fin:zdO r k=true->∃ s':Nat,s'=k+1/\(X=X/\s'<=48/\∀ i,i<s'->zdO r i=true):=fun h=>next h fun k' e h=>⟨k',e,rfl,by omega,h⟩
  refine biE (fun h4=>?_) fun h4=>?_
  ·have h4:r.n<=(k:Int):=dT h4;refine biE (fun h5=>?_) fun h5=>?_
   ·have h5:(!decide (((r.to k:Nat):Int)=0))=true:=h5;have h5:¬ r.to k=0:=fun e=>by
     rw [e] at h5;exact absurd h5 (by decide)
    exact⟨rb (no (by unfold zdO;rw [decide_eq_true h3,decide_eq_false (by omega),decide_eq_false h5];rfl)).symm,hb⟩
   ·have h5:(!decide (((r.to k:Nat):Int)=0))=false:=h5;have h5:r.to k=0:=by
     have h6:decide (((r.to k:Nat):Int)=0)=true:=(by simpa using h5);exact Int.ofNat.inj (dT h6)
    obtain⟨s',e,hs⟩:=fin (by unfold zdO;rw [decide_eq_true h3,decide_eq_true h5];simp);refine nxI (by omega) ?_;exact⟨s',⟨.cons rfl (.cons rfl (.cons rfl (.cons (by rw [e];rfl) .nil))),rfl⟩,hs,by show 48-s'<48-k;omega⟩
  ·have h4:¬ r.n<=(k:Int):=dF h4;refine brF ?_;obtain⟨s',e,hs⟩:=fin (by unfold zdO;rw [decide_eq_true h3,decide_eq_true (by omega)];rfl);refine nxI (by omega) ?_;exact⟨s',⟨.cons rfl (.cons rfl (.cons rfl (.cons (by rw [e];rfl) .nil))),rfl⟩,hs,by show 48-s'<48-k;omega⟩
 ·have hc:¬ (k:Int)<48:=dF hc;obtain rfl:k=48:=by omega
  refine⟨rb ?_,hb⟩;symm;rw [List.all_eq_true];exact fun i hi=>hall i (List.mem_range.1 hi)
theorem zi2 {n g:Nat} {caps:Array Value} {row:Nat->Nat} (hn:n<=48) (hok:zbr (sg 0) g=true) (hrow:∀ a X,a<n->Bw w X->Calls Tryz.prog g (i64 (a:Nat)::caps.toList).toArray X fun e Y=>e = .returned (s64 (row a))/\Bw X Y) :
  CB 248 #[i64 n,.func (.func g) #[] caps] w (.agg (relC (zcb n row)).toArray):=by
 refine cofM 21 [i64 n,.func (.func g) #[] caps] (.s .p (.c .p .p)) Tryz.func248 ?_;obtain⟨L,hL⟩:=nm (w.heap.size);refine⟨Unit,fun _=>⟨[(0,i64 n),(1,.func (.func g) #[] caps),(4,At0 L),(5,At0 (L+1))],[]⟩,fun _ X=>X.heap[L]?=some (.cells (relC zav).toArray 102 (0,0))/\X.heap[L+1]?=some (.cells (relC ⟨n,fun _=>0⟩).toArray 102 (0,0))/\X.heap.size=L+2/\Bw w X,?_,?_⟩
 ·have h1:=hnew w (.cells (relC zav).toArray 102);have s1:=wz w (.cells (relC zav).toArray 102);have h2:=hnew (w.alloc (.cells (relC zav).toArray 102)) (.cells (relC zav).toArray 102);have s2:=wz (w.alloc (.cells (relC zav).toArray 102)) (.cells (relC zav).toArray 102);have b2:Bw w ((w.alloc (.cells (relC zav).toArray 102)).alloc (.cells (relC zav).toArray 102)):=((zba w _)).alloc (by simp) _;refine⟨relC ⟨n,fun _=>0⟩,rfl,?_⟩;refine zam (v := .agg (relC ⟨n,fun _=>0⟩).toArray) k102 h2 rfl rfl (zau _) ?_;rw [s1] at h2 s2;refine⟨(),⟨.cons rfl (.cons rfl (.cons (by rw [hL];rfl) (.cons (by rw [hL,<- s1];rfl) .nil))),rfl⟩,?_,?_,?_,?_⟩
  ·rw [hL];exact (zao (by rw [s1];omega)).trans (hold _ h1)
  ·rw [hL,s1];exact zaj h2
  ·rw [hL];simp
  ·exact zag b2 (by omega) _
 rintro _ X ⟨f0,f1,sX,hbX⟩;refine⟨Nat,fun k=>⟨[(1,.func (.func g) #[] caps),(4,At0 L),(5,At0 (L+1)),(9,i64 n),(10,i64 (k:Nat))],[]⟩,fun k Y=>k<=n/\Y.heap[L]?=some (.cells (relC zav).toArray 102 (0,0))/\Y.heap[L+1]?=some (.cells (relC (⟨n,fun i=>if i<k then row i else 0⟩)).toArray 102 (0,0))/\Bw w Y,fun k=>n-k,0,
  (cvE rfl rfl),⟨Nat.zero_le _,f0,f1,hbX⟩,?_⟩
 clear f0 f1 sX hbX X;rintro k X ⟨hk,f0,f1,hbX⟩;refine biE (fun hc=>?_) fun hc=>?_
 ·have hc:(k:Int)<(n:Int):=dT hc;have hkn:k<n:=by omega
  refine zhk (S:=sg 21) hok (hrow k X hkn hbX) ?_;rintro e Y ⟨rfl,hbY⟩;refine⟨_,rfl,?_⟩;refine⟨k,rfl,by omega,?_⟩;have f1Y:=zab hbY f1;refine zal k99 f1Y (o:=0+1+k*1) (v:=s64 (row k)) rfl rfl (by rw [zad];omega) rfl fun Z fZ gZ sZ=>?_;rw [Nat.zero_add,Nat.mul_one,ze4 _ (by omega)] at fZ;refine nxI (by omega) ?_;refine⟨k+1,(cvE rfl rfl),⟨hkn,(gZ.block L (hlt (zab hbY f0)) (by simp)).trans (zab hbY f0),?_,((zst hbX hbY)).trans (zak gZ ((zst hbX hbY)).size (by omega))⟩,zdc (by omega)⟩;have e:upd (fun i=>if i<k then row i else 0) k (row k)=fun i=>if i<k+1 then row i else 0:=by
   funext i;by_cases e:i=k
   ·subst e;rw [zbd,if_pos (by omega)]
   ·rw [zcx _ _ e];by_cases h:i<k
    ·rw [if_pos h,if_pos (by omega)]
    ·rw [if_neg h,if_neg (by omega)]
  rw [<- e];exact fZ
 ·have hc:¬ (k:Int)<(n:Int):=dF hc;obtain rfl:k=n:=by omega
  refine⟨relC (zcb k row),zad _,zaa f1,hlt f1,?_⟩;refine zam (v := .agg (relC (zcb k row)).toArray) k102 f0 rfl rfl (zau _) ?_;exact⟨relC (zcb k row),zad _,zaa (zaj f0),rfl,zag hbX (by omega) _⟩
end
def evE:Enc Ev:=⟨fun e=>[i64 e.th,u8 e.k,u8 e.l,u8 e.v,u8 e.m,u8 e.i,u8 e.p],7,fun _=>rfl,by decide,fun a u hu=>by
 simp only [List.mem_cons,List.not_mem_nil,or_false] at hu;rcases hu with rfl | rfl | rfl | rfl | rfl | rfl | rfl <;> rfl⟩
def seg (n:Nat) (f:Nat->Value):List Value:=(List.range n).map f
def evsC (f:Nat->Ev):List Value:=((List.range 24).map f).flatMap evE.enc
def runC (R:RunD):List Value:=i64 R.pc::(seg 8 (fun i=>u8 (R.regs i))++(seg 8 (fun i=>s32 (R.deps i))++([s32 R.ctl,i64 R.many]++(evsC R.ev ++
 (seg 24 (fun i=>s32 (R.data i))++(seg 24 (fun i=>s32 (R.ctrl i))++seg 24 (fun i=>s32 (R.att i))))))))
theorem zat (n:Nat) (f:Nat->Value):(seg n f).length=n:=by unfold seg;rw [List.length_map,List.length_range]
theorem zdU (f:Nat->Ev):(evsC f).length=168:=by
 unfold evsC;rw [zaG,List.length_map,List.length_range];rfl
theorem zdC {n:Nat} (f:Nat->Value) {i:Nat} (h:i<n):(seg n f)[i]?=some (f i):=by
 unfold seg;rw [List.getElem?_map,List.getElem?_range h];rfl
theorem zio {n:Nat} (f g:Nat->Value) {i:Nat} (h:i<n) (hg:g i=g i) (hs:∀ j,j≠i->g j=f j):(seg n f).set i (g i)=seg n g:=by
 apply List.ext_getElem?;intro j;by_cases hj:j<n
 ·rw [zdC g hj];by_cases e:i=j
  ·subst e;rw [List.getElem?_set_self (by rw [zat];exact h)]
  ·rw [List.getElem?_set_ne e,zdC f hj,hs j (fun h=>e h.symm)]
 ·rw [List.getElem?_eq_none (by rw [List.length_set,zat];omega),List.getElem?_eq_none (by rw [zat];omega)]
theorem zbf {A B:List Value} {n i:Nat} (h:A.length=n):(A++B)[n+i]?=B[i]?:=by
 rw [List.getElem?_append_right (by omega),h,Nat.add_sub_cancel_left]
theorem zha {B:List Value} {n i:Nat} {f:Nat->Value} (h:i<n):(seg n f++B)[i]?=some (f i):=by
 rw [List.getElem?_append_left (by rw [zat];exact h),zdC f h]
theorem zbA {A B:List Value} {n i:Nat} (h:A.length=n) {v:Value}:(A++B).set (n+i) v=A++B.set i v:=by
 rw [List.set_append_right _ _ (by omega),h,Nat.add_sub_cancel_left]
theorem zfm {B:List Value} {n i:Nat} {f:Nat->Value} (g:Nat->Value) (h:i<n) (hs:∀ j,j≠i->g j=f j):(seg n f++B).set i (g i)=seg n g++B:=by
 rw [List.set_append_left _ _ (by rw [zat];exact h),zio f g h rfl hs]
theorem zcd (R:RunD):(runC R).length=259:=by
 unfold runC;simp only [List.length_cons,lap,zat,zdU,List.length_nil]
section
variable (R:RunD)
theorem zo6 {i:Nat} (h:i<8):(runC R)[1+i]?=some (u8 (R.regs i)):=by
 unfold runC;rw [Nat.add_comm,List.getElem?_cons_succ,zha h]
theorem zo7 {i:Nat} (h:i<8):(runC R)[9+i]?=some (s32 (R.deps i)):=by
 unfold runC;rw [show 9+i=(8+i)+1 by omega,List.getElem?_cons_succ,zbf (zat _ _),zha h]
theorem zhx:∃ A,A.length=16/\runC R=i64 R.pc::(A++([s32 R.ctl,i64 R.many]++(evsC R.ev++(seg 24 (fun i=>s32 (R.data i))++(seg 24 (fun i=>s32 (R.ctrl i))++seg 24 (fun i=>s32 (R.att i))))))) :=
 ⟨seg 8 (fun i=>u8 (R.regs i))++seg 8 (fun i=>s32 (R.deps i)),by rw [lap,zat,zat],by unfold runC;rw [List.append_assoc]⟩
theorem zo8:(runC R)[17]?=some (s32 R.ctl):=by
 obtain⟨A,hA,e⟩:=zhx R;rw [e];exact (zbf (i:=0) hA).trans rfl
theorem zcR:(runC R)[18]?=some (i64 R.many):=by
 obtain⟨A,hA,e⟩:=zhx R;rw [e];exact (zbf (i:=1) hA).trans rfl
theorem zno {i:Nat} (h:i<24):(runC R)[187+i]?=some (s32 (R.data i)):=by
 obtain⟨A,hA,e⟩:=zhx R;rw [e,show 187+i=(16+(2+(168+i)))+1 by omega,List.getElem?_cons_succ,zbf hA,zbf (A:=[s32 R.ctl,i64 R.many]) (n:=2) rfl,zbf (zdU _),zha h]
theorem znp {i:Nat} (h:i<24):(runC R)[211+i]?=some (s32 (R.ctrl i)):=by
 obtain⟨A,hA,e⟩:=zhx R;rw [e,show 211+i=(16+(2+(168+(24+i))))+1 by omega,List.getElem?_cons_succ,zbf hA,zbf (A:=[s32 R.ctl,i64 R.many]) (n:=2) rfl,zbf (zdU _),zbf (zat _ _),zha h]
theorem zo9 {i:Nat} (h:i<24):(runC R)[235+i]?=some (s32 (R.att i)):=by
 obtain⟨A,hA,e⟩:=zhx R;rw [e,show 235+i=(16+(2+(168+(24+(24+i)))))+1 by omega,List.getElem?_cons_succ,zbf hA,zbf (A:=[s32 R.ctl,i64 R.many]) (n:=2) rfl,zbf (zdU _),zbf (zat _ _),zbf (zat _ _),zdC _ h]
theorem zkm (n:Nat):(runC R).set 0 (i64 n)=runC { R with pc:=n }:=rfl
theorem zir {i:Nat} (h:i<8) (v:UInt8):(runC R).set (1+i) (u8 v)=runC { R with regs:=upd R.regs i v }:=by
 unfold runC;rw [Nat.add_comm,List.set_cons_succ];have:=zfm (B:=seg 8 (fun i=>s32 (R.deps i))++([s32 R.ctl,i64 R.many]++(evsC R.ev++(seg 24 (fun i=>s32 (R.data i))++(seg 24 (fun i=>s32 (R.ctrl i))++seg 24 (fun i=>s32 (R.att i))))))) (f:=fun i=>u8 (R.regs i)) (fun j=>u8 (upd R.regs i v j)) h (fun j hj=>by rw [zcx _ _ hj]);rw [zbd] at this;rw [this]
theorem zis {i:Nat} (h:i<8) (v:Nat):(runC R).set (9+i) (s32 v)=runC { R with deps:=upd R.deps i v }:=by
 unfold runC;rw [show 9+i=(8+i)+1 by omega,List.set_cons_succ,zbA (zat _ _)];have:=zfm (B:=[s32 R.ctl,i64 R.many]++(evsC R.ev++(seg 24 (fun i=>s32 (R.data i))++(seg 24 (fun i=>s32 (R.ctrl i))++seg 24 (fun i=>s32 (R.att i)))))) (f:=fun i=>s32 (R.deps i)) (fun j=>s32 (upd R.deps i v j)) h (fun j hj=>by rw [zcx _ _ hj]);rw [zbd] at this;rw [this]
theorem zhy (v:Nat):(runC R).set 18 (i64 v)=runC { R with many:=v }:=by
 unfold runC;show i64 R.pc::(seg 8 (fun i=>u8 (R.regs i))++_).set (8+(8+1)) (i64 v)=_;rw [zbA (zat _ _),zbA (zat _ _)];rfl
theorem zhz {i:Nat} (h:i<24) (v:Nat):(runC R).set (187+i) (s32 v)=runC { R with data:=upd R.data i v }:=by
 unfold runC;rw [show 187+i=(8+(8+(2+(168+i))))+1 by omega,List.set_cons_succ,zbA (zat _ _),zbA (zat _ _),zbA (A:=[s32 R.ctl,i64 R.many]) (n:=2) rfl,zbA (zdU _)];have:=zfm (B:=seg 24 (fun i=>s32 (R.ctrl i))++seg 24 (fun i=>s32 (R.att i))) (f:=fun i=>s32 (R.data i)) (fun j=>s32 (upd R.data i v j)) h (fun j hj=>by rw [zcx _ _ hj]);rw [zbd] at this;rw [this]
theorem zhA {i:Nat} (h:i<24) (v:Nat):(runC R).set (211+i) (s32 v)=runC { R with ctrl:=upd R.ctrl i v }:=by
 unfold runC;rw [show 211+i=(8+(8+(2+(168+(24+i)))))+1 by omega,List.set_cons_succ,zbA (zat _ _),zbA (zat _ _),zbA (A:=[s32 R.ctl,i64 R.many]) (n:=2) rfl,zbA (zdU _),zbA (zat _ _)];have:=zfm (B:=seg 24 (fun i=>s32 (R.att i))) (f:=fun i=>s32 (R.ctrl i)) (fun j=>s32 (upd R.ctrl i v j)) h (fun j hj=>by rw [zcx _ _ hj]);rw [zbd] at this;rw [this]
theorem zpw {α:Type} (f:Nat->α) {n i:Nat} (h:i<n) (v:α):((List.range n).map f).set i v=(List.range n).map (upd f i v):=by
 apply List.ext_getElem?;intro j;by_cases hj:j<n
 ·rw [List.getElem?_map,List.getElem?_range hj];by_cases e:i=j
  ·subst e;rw [List.getElem?_set_self (by simpa using h)];show _=some (upd f i v i);rw [zbd]
  ·rw [List.getElem?_set_ne e,List.getElem?_map,List.getElem?_range hj];show some (f j)=some (upd f i v j);rw [zcx _ _ (fun h=>e h.symm)]
 ·rw [List.getElem?_eq_none (by simp;omega),List.getElem?_eq_none (by simp;omega)]
theorem zkn {i:Nat} (h:i<24) (v:Ev):(runC R).take (19+i*7)++evE.enc v++(runC R).drop (19+i*7+7)=runC { R with ev:=upd R.ev i v }:=by
 obtain⟨A,hA,e⟩:∃ A:List Value,A.length=19/\∀ ev,runC { R with ev:=ev }=A++(evsC ev++(seg 24 (fun i=>s32 (R.data i))++(seg 24 (fun i=>s32 (R.ctrl i))++seg 24 (fun i=>s32 (R.att i))))) :=
  ⟨i64 R.pc::(seg 8 (fun i=>u8 (R.regs i))++(seg 8 (fun i=>s32 (R.deps i))++[s32 R.ctl,i64 R.many])),by
   simp only [List.length_cons,lap,zat,List.length_nil],fun ev=>by
   unfold runC;simp only [List.cons_append,List.append_assoc,List.nil_append]⟩
 have e1:runC R=_:=e R.ev;rw [e1,e,<- hA,List.take_length_add_append,Nat.add_assoc,List.drop_length_add_append];have:=zjK (E:=evE) ((List.range 24).map R.ev) (i:=i) (by simpa using h) v (seg 24 (fun i=>s32 (R.data i))++(seg 24 (fun i=>s32 (R.ctrl i))++seg 24 (fun i=>s32 (R.att i))));rw [zpw _ h] at this;unfold evsC;rw [List.append_assoc,List.append_assoc,<- this,List.append_assoc];rfl
end
theorem zoL (f:Nat->Ev) {i:Nat} (h:i<24):((evsC f).drop (i*7)).take 7=evE.enc (f i):=by
 unfold evsC;have:=zef (E:=evE) ((List.range 24).map f) i (by simpa using h);rw [List.getElem_map,List.getElem_range] at this;exact this
theorem zlp {R:RunD} {w:World} {b:Nat} {t:TypeId} (f:w.heap[b]?=some (.cells (runC R).toArray t (0,0))):zax w ⟨b,19,none⟩ (evsC R.ev):=by
 have h:=zaa f;unfold runC at h;have h1:=zaw (n:=19) (m:=168) h;have e:((i64 R.pc::(seg 8 (fun i=>u8 (R.regs i))++(seg 8 (fun i=>s32 (R.deps i))++([s32 R.ctl,i64 R.many]++(evsC R.ev++(seg 24 (fun i=>s32 (R.data i))++(seg 24 (fun i=>s32 (R.ctrl i))++seg 24 (fun i=>s32 (R.att i))))))))).drop 19).take 168=evsC R.ev:=by
  show ((seg 8 (fun i=>u8 (R.regs i))++_).drop (8+(8+2))).take 168=_;have d:∀ {A B:List Value} {n i:Nat},A.length=n->(A++B).drop (n+i)=B.drop i:=fun {A B n i} h=>by rw [<- h,List.drop_length_add_append]
  rw [d (zat _ _),d (zat _ _)];show (evsC R.ev++_).take 168=_;rw [List.take_left' (zdU _)]
 rw [<- e];exact h1
theorem w8N (u:Nat):IntKind.u8.wrap (u:Int)=((UInt8.ofNat u).toNat:Int):=by
 rw [UInt8.toNat_ofNat'];unfold IntKind.wrap;simp only [IntKind.bits,IntKind.signed,Bool.false_and,Bool.false_eq_true,if_false];omega
abbrev RunH (X:World) (b:Nat) (R:RunD):Prop:=X.heap[b]?=some (.cells (runC R).toArray 286 (0,0))
abbrev AtR (b:Nat):Value:=At0 b
section
variable {R:RunD} {b:Nat} {w:World}
theorem zmp {k l v m:UInt8} {d:Nat} (f:RunH w b R) (hm:R.many<24):Calls Tryz.prog 311 #[AtR b,u8 k,u8 l,u8 v,u8 m,s32 d] w fun e w' =>
  e = .returned (i64 R.many)/\RunH w' b (zeh R k l v m d)/\w.grownBy w' (some b)/\w'.heap.size=w.heap.size:=by
 refine cofE 58 [AtR b,u8 k,u8 l,u8 v,u8 m,s32 d] Tryz.func311 ?_;refine⟨_,zac (zaa f) (i:=18) (zcR R),?_⟩;refine DrawE.ord [17] [0,1,2,3,4,5,6,7,8,9,10,11,12,13,14,15,16,17] (by kernel_rfl) ?_;refine⟨_,zac (zaa (hdr f)) (i:=0) rfl,?_⟩;refine⟨_,w8N _,?_⟩;refine⟨_,w8N _,?_⟩;obtain⟨ev,hev⟩:∃ ev:Ev,ev=⟨0,k,l,v,m,UInt8.ofNat R.pc,UInt8.ofNat R.many⟩:=⟨_,rfl⟩;refine⟨evE.enc ev,by rw [hev];rfl,?_⟩;refine⟨R.many,rfl,hm,?_⟩;refine zbo k225 (hdr f) (o:=0+19+R.many*7) (v := .agg (evE.enc ev).toArray) rfl (by
  show 0+19+R.many*7+7<=(runC R).length;rw [zcd];omega) rfl fun Y fY gY sY=>?_
 have fY:RunH Y b { R with ev:=upd R.ev R.many ev }:=by
  show Y.heap[b]?=some (.cells (runC { R with ev:=upd R.ev R.many ev }).toArray 286 (0,0));rw [<- zkn R hm ev,fY,Nat.zero_add];rfl
 refine⟨R.many,rfl,hm,?_⟩;refine zal k281 fY (o:=0+187+R.many*1) (v:=s32 d) rfl rfl (by rw [zcd];omega) rfl fun Z fZ gZ sZ=>?_;rw [Nat.zero_add,Nat.mul_one,zhz _ hm] at fZ;refine DrawE.ord [9] [0,1,2,3,4,5,6,7,8,9] (by kernel_rfl) ?_;refine⟨_,zac (zaa (hdr fZ)) (i:=17) (zo8 _),?_⟩;refine⟨R.many,rfl,hm,?_⟩;refine zal k281 (hdr fZ) (o:=0+211+R.many*1) (v:=s32 R.ctl) rfl rfl (by rw [zcd];omega) rfl fun U fU gU sU=>?_;rw [Nat.zero_add,Nat.mul_one,zhA _ hm] at fU;refine⟨_,zac (zaa fU) (i:=18) (zcR _),?_⟩;refine⟨((R.many+1:Nat):Int),(zaf (by show _<=((R.many:Nat):Int)+1/\((R.many:Nat):Int)+1<=_;omega)).trans rfl,?_⟩;refine zal k3 fU (o:=0+18) (v:=i64 (R.many+1:Nat)) rfl rfl (by rw [zcd];decide) rfl fun V fV gV sV=>?_;rw [Nat.zero_add,zhy] at fV;have gd:w.grownBy w.drew (some b):=⟨rfl,rfl,rfl,Nat.le_refl _,fun _ _ _=>rfl⟩;have gd2:Z.grownBy Z.drew (some b):=⟨rfl,rfl,rfl,Nat.le_refl _,fun _ _ _=>rfl⟩;refine⟨rfl,?_,zae (zae (zae (zae gd gY) gZ) (zae gd2 gU)) gV,?_⟩
 ·unfold zeh;rw [<- hev];exact fV
 ·rw [sV,sU];show Z.heap.size=_;rw [sZ,sY];rfl
theorem zrX {d v:UInt8} {s:Nat} (f:RunH w b R) (hd:d.toNat<8):Calls Tryz.prog 312 #[AtR b,u8 d,u8 v,s32 s] w fun e w' =>
  e = .returned (.tuple #[])/\RunH w' b (setR R d v s)/\w.grownBy w' (some b)/\w'.heap.size=w.heap.size:=by
 refine cofE 20 [AtR b,u8 d,u8 v,s32 s] Tryz.func312 ?_;refine⟨d.toNat,rfl,hd,?_⟩;refine zal k5 f (o:=0+1+d.toNat*1) (v:=u8 v) rfl rfl (by rw [zcd];omega) rfl fun Y fY gY sY=>?_;rw [Nat.zero_add,Nat.mul_one,zir _ hd] at fY;refine⟨d.toNat,rfl,hd,?_⟩;refine zal k281 fY (o:=0+9+d.toNat*1) (v:=s32 s) rfl rfl (by rw [zcd];omega) rfl fun Z fZ gZ sZ=>?_;rw [Nat.zero_add,Nat.mul_one,zis _ hd] at fZ;exact⟨rfl,fZ,zae gY gZ,sZ.trans sY⟩
theorem zoV {r:Bool} {n:UInt8} (f:RunH w b R) (hn:r=true->n.toNat<8):Calls Tryz.prog 313 #[AtR b,.agg #[.bool r,u8 n]] w fun e w' =>
  e = .returned (.tuple #[u8 (valR r n R).1,s32 (valR r n R).2])/\Bw w w':=by
 refine cofE 24 [AtR b,.agg #[.bool r,u8 n]] Tryz.func313 ?_;have f0:=hnew w (.cells #[.bool r,u8 n] 66);have hb:Bw w (w.alloc (.cells #[.bool r,u8 n] 66)):=zba w _;refine⟨_,zac (zaa f0) (i:=0) rfl,?_⟩;refine biE (fun h=>?_) fun h=>?_
 ·have hn8:=hn h;have fr:=zab hb f;refine DrawE.ord [] [0,1,2,3,4,5,6,7,8,9,10,11,12,13,14,15] (by kernel_rfl) ?_;refine⟨_,zac (zaa (hdr f0)) (i:=1) rfl,?_⟩;refine⟨n.toNat,rfl,hn8,?_⟩;refine⟨_,by rw [Nat.mul_one,Nat.add_assoc];exact zac (zaa (hdr fr)) (zo6 R hn8),?_⟩;refine⟨_,zac (zaa (hdr f0)) (i:=1) rfl,?_⟩;refine⟨n.toNat,rfl,hn8,?_⟩;refine⟨_,by rw [Nat.mul_one,Nat.add_assoc];exact zac (zaa (hdr fr)) (zo7 R hn8),?_⟩;refine⟨?_,hb.trans ((Below.refl _ _).drew)⟩;unfold valR;rw [if_pos h];rfl
 ·refine⟨_,zac (zaa f0) (i:=1) rfl,?_⟩;refine⟨?_,hb⟩;unfold valR;rw [if_neg (by rw [h];exact Bool.false_ne_true)];rfl
end
def zfL (vb fb:Nat):UInt8->Option Value:=fun q =>
 if q=5 then some (.func (.func 58) #[] #[At0 vb]) else if q=4 then some (.func (.func 57) #[] #[At0 vb]) else if q=3 then some (.func (.func 55) #[] #[At0 vb]) else
 if q=2 then some (.func (.func 54) #[] #[At0 fb]) else if q=1 then some (.func (.func 53) #[] #[At0 fb]) else if q=0 then some (.func (.func 52) #[] #[]) else none
theorem zeE {w X Y:World} {r b:Nat} (h:w.grownBy X (some r)) (k:X.grownBy Y (some b)) (hb:w.heap.size<=b):w.grownBy Y (some r) :=
 ⟨k.os.trans h.os,k.tape.trans h.tape,k.output.trans h.output,Nat.le_trans h.size k.size,fun i hi hn=>(k.block i (nL hi h.size) (by intro e;cases e;omega)).trans (h.block i hi hn)⟩
theorem ziR {w X Y:World} {r:Nat} (h:w.grownBy X (some r)) (k:Bw X Y):w.grownBy Y (some r):=zae h (zah k)
theorem zbm {w X:World} {r b n:Nat} {es:Array MapEntry} {cs:Array Value} {t:TypeId} (hr:w.heap[r]?=some (.map es n)) (h:w.grownBy X (some r)) (hb:w.heap[b]?=some (.cells cs t (0,0))):X.heap[b]?=some (.cells cs t (0,0)) :=
 (h.block b (hlt hb) fun e=>by cases e;rw [hr] at hb;cases hb).trans hb
structure JudV (X:World) (B jb rk rn vb fb:Nat) (F:FinV) (g:PlK->Option Value):Prop where
 j:X.heap[jb]?=some (.cells #[.map (some rk),.map (some rn)] 109 (0,0))
 v:X.heap[vb]?=some (.cells #[At0 jb] 76 (0,0))
 f:X.heap[fb]?=some (.cells (finE.enc F).toArray 27 (0,0))
 kn:MapF u8 X rk (zfL vb fb)
 mn:MapF plV X rn g
 ok:KnowOk B F X g
 ne:rk≠rn
 hB:B<=rn/\B<=X.heap.size
section
variable {w X:World} {B jb rk rn vb fb:Nat} {F:FinV} {g:PlK->Option Value}
theorem JudV.rmap (h:JudV w B jb rk rn vb fb F g):∃ (es:Array MapEntry) (n:Nat),w.heap[rn]?=some (.map es n):=by
 obtain⟨es,n,h,_⟩:=h.mn;exact⟨_,n,h⟩
theorem JudV.below (h:JudV w B jb rk rn vb fb F g) (hb:Bw w X):JudV X B jb rk rn vb fb F g :=
 ⟨zab hb h.j,zab hb h.v,zab hb h.f,h.kn.below hb,h.mn.below hb,h.ok.by fun k cs t _ hc=>hb.block k (hlt hc),h.ne,h.hB.1,Nat.le_trans h.hB.2 hb.size⟩
theorem JudV.grown {g':PlK->Option Value} (h:JudV w B jb rk rn vb fb F g) (hg:w.grownBy X (some rn)) (hm:MapF plV X rn g') (hk:KnowOk B F X g'):JudV X B jb rk rn vb fb F g':=by
 obtain⟨es,n,hr⟩:=h.rmap;refine⟨zbm hr hg h.j,zbm hr hg h.v,zbm hr hg h.f,h.kn.same (hg.block rk ?_ fun e=>h.ne (by cases e;rfl)),hm,hk,h.ne,h.hB.1,Nat.le_trans h.hB.2 hg.size⟩;obtain⟨_,_,h1,_⟩:=h.kn;exact hlt h1
theorem JudV.other {b:Nat} (h:JudV w B jb rk rn vb fb F g) (hg:w.grownBy X (some b)) (h1:jb≠b/\vb≠b/\fb≠b/\rk≠b/\rn≠b) (hb:B<=b):JudV X B jb rk rn vb fb F g:=by
 have s:∀ {k:Nat} {o:Obj},k≠b->w.heap[k]?=some o->X.heap[k]?=w.heap[k]?:=fun {k o} hk ho=>hg.block k (hlt ho) fun e=>hk (by cases e;rfl);obtain⟨_,_,r1,_⟩:=h.kn;obtain⟨_,_,r2,_⟩:=h.mn;exact⟨(s h1.1 h.j).trans h.j,(s h1.2.1 h.v).trans h.v,(s h1.2.2.1 h.f).trans h.f,h.kn.same (s h1.2.2.2.1 r1),h.mn.same (s h1.2.2.2.2 r2),h.ok.by fun k cs t hB hc=>s (by omega) hc,h.ne,h.hB.1,Nat.le_trans h.hB.2 hg.size⟩
theorem JudV.kids (h:JudV w B jb rk rn vb fb F g) (hg:w.grownBy X (some rn)) {q:Option Addr} {l:List Cnd} (hk:KidsG B w q l):KidsG B X q l:=hk.by fun k cs t hB hc=>hg.block k (hlt hc) fun e=>by cases e;have:=h.hB;omega
def JudS (B jb rk rn vb fb:Nat) (F:FinV) (w X:World):Prop:=(∃ g,JudV X B jb rk rn vb fb F g)/\w.grownBy X (some rn)
theorem JudS.of_below (h:JudV w B jb rk rn vb fb F g) (hb:Bw w X):JudS B jb rk rn vb fb F w X:=⟨⟨g,h.below hb⟩,zah hb⟩
end
abbrev zaD (F:FinV):Value := .agg (finE.enc F).toArray
abbrev cndV (c:Cnd) (q:Option Addr) (cap:Nat):Value := .agg (zar c q cap).toArray
section
variable {w:World} {c:Cnd} {q:Option Addr} {cap:Nat} {d:Nat} {B jb rk rn vb fb:Nat} {F:FinV} {g:PlK->Option Value}
theorem zfF {a b:Nat}:decide ((a:Int)<(b:Int))=decide (a<b):=decide_eq_decide.2 Int.ofNat_lt
theorem zdL {x y:UInt8}:decide (((x.toNat:Nat):Int)=((y.toNat:Nat):Int))=decide (x=y):=decide_eq_decide.2 zbe
theorem zch {X:World} {l:List Cnd} (hJ:JudV w B jb rk rn vb fb F g) (hb:Bw w X) (hk:KidsG B w q l):KidsG B X q l:=hk.by fun k cs t _ hc=>hb.block k (hlt hc)
theorem znT:CB 52 #[cndV c q cap,i64 d] w (.bool true):=by
 refine cofE 5 [cndV c q cap,i64 d] Tryz.func52 ?_;exact⟨rfl,(zba w _)⟩
theorem zmd {t r:Nat} (ht:t<4) (hr:r<8):(finE.enc F)[t*8+r]?=some (u8 (F.reg t r)):=by
 show (F.l.map u8)[t*8+r]?=_;have:=F.len;rw [List.getElem?_map,gE (by omega),FinV.reg,gDe,gE (by omega)];rfl
theorem zme {i:Nat} (hi:i<6):(finE.enc F)[32+i]?=some (u8 (F.mem i)):=by
 show (F.l.map u8)[32+i]?=_;have:=F.len;rw [List.getElem?_map,gE (by omega),FinV.mem,gDe,gE (by omega)];rfl
theorem znS (hf:w.heap[fb]?=some (.cells (finE.enc F).toArray 27 (0,0))):Calls Tryz.prog 53 #[cndV c q cap,i64 d,At0 fb] w fun e w' =>
  e = .returned (.bool (decide (c.thread.toNat<4)&&(decide (c.n.toNat<8)&&decide (F.reg c.thread.toNat c.n.toNat=c.val))))/\Bw w w':=by
 refine cofE 27 [cndV c q cap,i64 d,At0 fb] Tryz.func53 ?_;have f0:=hnew w (.cells (zar c q cap).toArray 29);have hb:Bw w (w.alloc (.cells (zar c q cap).toArray 29)).drew:=((zba w _)).drew;have hf:=zab hb hf;refine DrawE.ord [] [0,1,2,3,4,5,6,7,8,9,10,11,12,13,14,15,16,17,18,19,20,21] (by kernel_rfl) ?_;refine⟨_,zac (zaa (hdr f0)) (i:=1) rfl,?_⟩;refine biE (fun h=>?_) fun h=>?_
 ·have h1:c.thread.toNat<4:=dT ((zfF (b:=4)).symm.trans h);refine⟨_,zac (zaa (hdr f0)) (i:=2) rfl,?_⟩;refine biE (fun h=>?_) fun h=>?_
  ·have h2:c.n.toNat<8:=dT ((zfF (b:=8)).symm.trans h);refine⟨_,zac (zaa (hdr f0)) (i:=1) rfl,?_⟩;refine⟨_,zac (zaa (hdr f0)) (i:=2) rfl,?_⟩;refine⟨c.thread.toNat,rfl,h1,?_⟩;refine⟨c.n.toNat,rfl,h2,?_⟩;refine⟨_,by
    have:=zac (zaa hf) (zmd (F:=F) h1 h2);rw [Nat.mul_one,Nat.add_assoc];exact this,?_⟩
   refine⟨_,zac (zaa (hdr f0)) (i:=3) rfl,?_⟩;refine⟨?_,hb⟩;rw [decide_eq_true h1,decide_eq_true h2,<- zdL];rfl
  ·have h2:¬ c.n.toNat<8:=dF ((zfF (b:=8)).symm.trans h);refine⟨?_,hb⟩;rw [decide_eq_false h2,Bool.false_and,Bool.and_false];rfl
 ·have h1:¬ c.thread.toNat<4:=dF ((zfF (b:=4)).symm.trans h);refine brF ?_;refine⟨?_,hb⟩;rw [decide_eq_false h1,Bool.false_and];rfl
theorem znR (hf:w.heap[fb]?=some (.cells (finE.enc F).toArray 27 (0,0))):Calls Tryz.prog 54 #[cndV c q cap,i64 d,At0 fb] w fun e w' =>
  e = .returned (.bool (decide (c.n.toNat<6)&&decide (F.mem c.n.toNat=c.val)))/\Bw w w':=by
 refine cofE 19 [cndV c q cap,i64 d,At0 fb] Tryz.func54 ?_;have f0:=hnew w (.cells (zar c q cap).toArray 29);have hb:Bw w (w.alloc (.cells (zar c q cap).toArray 29)).drew:=((zba w _)).drew;have hf:=zab hb hf;refine DrawE.ord [] [0,1,2,3,4,5,6,7,8,9,10,11,12,13] (by kernel_rfl) ?_;refine⟨_,zac (zaa (hdr f0)) (i:=2) rfl,?_⟩;refine biE (fun h=>?_) fun h=>?_
 ·have h1:c.n.toNat<6:=dT ((zfF (b:=6)).symm.trans h);refine⟨_,zac (zaa (hdr f0)) (i:=2) rfl,?_⟩;refine⟨c.n.toNat,rfl,h1,?_⟩;refine⟨_,by
   have:=zac (zaa hf) (zme (F:=F) h1);rw [Nat.mul_one,Nat.add_assoc];exact this,?_⟩
  refine⟨_,zac (zaa (hdr f0)) (i:=3) rfl,?_⟩;refine⟨?_,hb⟩;rw [decide_eq_true h1,<- zdL];rfl
 ·have h1:¬ c.n.toNat<6:=dF ((zfF (b:=6)).symm.trans h);refine⟨?_,hb⟩;rw [decide_eq_false h1,Bool.false_and];rfl
def zi8 (B jb rk rn vb fb:Nat) (F:FinV) (d:Nat):Prop:=∀ (X:World) (g:PlK->Option Value) (q:Option Addr) (l:List Cnd) (cap:Nat),JudV X B jb rk rn vb fb F g->KidsG B X q l ->
 Calls Tryz.prog 56 #[At0 jb,.slice q l.length cap,i64 d] X fun e Y=>e = .returned (ansV F d l)/\JudS B jb rk rn vb fb F X Y
theorem znQ (hd:d<=20) (hJ:JudV w B jb rk rn vb fb F g) (hk:KidsG B w q c.kids) (hK:zi8 B jb rk rn vb fb F (d+1)):Calls Tryz.prog 55 #[cndV c q cap,i64 d,At0 vb] w fun e w' =>
  e = .returned (.bool (c.kids.all (za3 F (20-d))))/\JudS B jb rk rn vb fb F w w':=by
 refine cofE 13 [cndV c q cap,i64 d,At0 vb] Tryz.func55 ?_;have f0:=hnew w (.cells (zar c q cap).toArray 29);have hb:Bw w (w.alloc (.cells (zar c q cap).toArray 29)):=zba w _;have hJ1:=hJ.below hb;refine⟨_,zac (zaa hJ1.v) (i:=0) rfl,?_⟩;refine⟨_,zac (zaa f0) (i:=4) rfl,?_⟩;refine⟨((d+1:Nat):Int),(zaf (by omega)).trans rfl,?_⟩;refine cmo (hK _ g q c.kids cap hJ1 (zch hJ hb hk)) ?_;rintro e Y ⟨rfl,⟨g2,h2⟩,gY⟩;refine⟨?_,⟨g2,h2⟩,zae (zah hb) gY⟩;rw [show 21-(d+1)=20-d by omega];rfl
theorem znP (hd:d<=20) (hJ:JudV w B jb rk rn vb fb F g) (hk:KidsG B w q c.kids) (hK:zi8 B jb rk rn vb fb F (d+1)):Calls Tryz.prog 57 #[cndV c q cap,i64 d,At0 vb] w fun e w' =>
  e = .returned (.bool (c.kids.any (za3 F (20-d))))/\JudS B jb rk rn vb fb F w w':=by
 refine cofE 13 [cndV c q cap,i64 d,At0 vb] Tryz.func57 ?_;have f0:=hnew w (.cells (zar c q cap).toArray 29);have hb:Bw w (w.alloc (.cells (zar c q cap).toArray 29)):=zba w _;have hJ1:=hJ.below hb;refine⟨_,zac (zaa hJ1.v) (i:=0) rfl,?_⟩;refine⟨_,zac (zaa f0) (i:=4) rfl,?_⟩;refine⟨((d+1:Nat):Int),(zaf (by omega)).trans rfl,?_⟩;refine cmo (hK _ g q c.kids cap hJ1 (zch hJ hb hk)) ?_;rintro e Y ⟨rfl,⟨g2,h2⟩,gY⟩;refine⟨?_,⟨g2,h2⟩,zae (zah hb) gY⟩;rw [show 21-(d+1)=20-d by omega];rfl
theorem znO (hd:d<=20) (hJ:JudV w B jb rk rn vb fb F g) (hk:KidsG B w q c.kids) (hK:zi8 B jb rk rn vb fb F (d+1)):Calls Tryz.prog 58 #[cndV c q cap,i64 d,At0 vb] w fun e w' =>
  e = .returned (.bool (!c.kids.all (za3 F (20-d))))/\JudS B jb rk rn vb fb F w w':=by
 refine cofE 14 [cndV c q cap,i64 d,At0 vb] Tryz.func58 ?_;have f0:=hnew w (.cells (zar c q cap).toArray 29);have hb:Bw w (w.alloc (.cells (zar c q cap).toArray 29)):=zba w _;have hJ1:=hJ.below hb;refine⟨_,zac (zaa hJ1.v) (i:=0) rfl,?_⟩;refine⟨_,zac (zaa f0) (i:=4) rfl,?_⟩;refine⟨((d+1:Nat):Int),(zaf (by omega)).trans rfl,?_⟩;refine cmo (hK _ g q c.kids cap hJ1 (zch hJ hb hk)) ?_;rintro e Y ⟨rfl,⟨g2,h2⟩,gY⟩;refine⟨?_,⟨g2,h2⟩,zae (zah hb) gY⟩;rw [show 21-(d+1)=20-d by omega];rfl
end
section
variable {w:World} {c:Cnd} {q:Option Addr} {cap:Nat} {d:Nat} {B jb rk rn vb fb:Nat} {F:FinV} {g:PlK->Option Value}
theorem zk2 {T:TypeId} {v:Value} (h:(Tryz.prog.info? T).bind (fun i=>i.zero)=some v) (w:World):(zeroValue T).run Tryz.prog w = .ok v w:=by
 cases hi:Tryz.prog.info? T with
 | none=>rw [hi] at h;cases h
 | some inf =>
  rw [hi] at h;have h:inf.zero=some v:=h;simp [zeroValue,typeInfo,hi,h]
theorem zl1 {w:World} (h:MapF u8 w rk (zfL vb fb)) (k:UInt8):(Instr.lookup 107 (.map (some rk)) (u8 k) true).run Tryz.prog w = .ok (.tuple #[(zfL vb fb k).getD .nilFunc,.bool (zfL vb fb k).isSome]) w :=
 zkB zij Tryz.underlying107 (z := .nilFunc) (zk2 (by kernel_rfl)) h k true
theorem zl6 (hd:d<=20) (hJ:JudV w B jb rk rn vb fb F g) (hk:KidsG B w q c.kids) (hK:zi8 B jb rk rn vb fb F (d+1)):Calls Tryz.prog 34 #[At0 jb,cndV c q cap,i64 d] w fun e w' =>
  e = .returned (.bool (za3 F (21-d) c))/\JudS B jb rk rn vb fb F w w':=by
 refine cofE 30 [At0 jb,cndV c q cap,i64 d] Tryz.func34 ?_;obtain⟨X,hX⟩:=nm ((w.alloc (.cells (zar c q cap).toArray 29)).drew);have f0:X.heap[w.heap.size]?=some (.cells (zar c q cap).toArray 29 (0,0)):=by rw [hX];exact hnew w _
 have hb:Bw w X:=by rw [hX];exact ((zba w _)).drew
 have hJ1:=hJ.below hb;have hk1:=zch hJ hb hk;have hX':(w.alloc (.cells (Value.agg (zar c q cap).toArray).cells 29)).drew=X:=hX.symm;have e21:za3 F (21-d) c=za3 F (20-d+1) c:=by rw [show 21-d=20-d+1 by omega]
 have fin:∀ {b:Bool} {Y:World},za3 F (20-d+1) c=b->JudS B jb rk rn vb fb F X Y->Ending.returned (.bool b)=Ending.returned (.bool (za3 F (21-d) c))/\JudS B jb rk rn vb fb F w Y:=fun {b Y} h hY=>⟨by rw [e21,h],hY.1,zae (zah hb) hY.2⟩;have hde:decide ((d:Int)<=20)=true:=decide_eq_true (by omega);refine DrawE.ord [] [0,1,2,3,4,5,6,7,8,9,10,11] (by kernel_rfl) ?_;rw [hX'];refine⟨_,zac (zaa hJ1.j) (i:=0) rfl,?_⟩;refine⟨_,zac (zaa f0) (i:=0) rfl,?_⟩;refine⟨_,fun w2 hb2=>zl1 (hJ1.kn.below hb2) c.kind,?_⟩;by_cases h5:c.kind=5
 ·rw [h5];refine brT ?_;refine brE hde ?_;refine⟨zar c q cap,rfl,zaa f0,hlt f0,?_⟩;refine cmo (znO hd hJ1 hk1 hK) ?_;rintro e Y ⟨rfl,hY⟩;exact fin (by unfold za3;rw [h5];rfl) hY
 by_cases h4:c.kind=4
 ·rw [h4];refine brT ?_;refine brE hde ?_;refine⟨zar c q cap,rfl,zaa f0,hlt f0,?_⟩;refine cmo (znP hd hJ1 hk1 hK) ?_;rintro e Y ⟨rfl,hY⟩;exact fin (by unfold za3;rw [h4];rfl) hY
 by_cases h3:c.kind=3
 ·rw [h3];refine brT ?_;refine brE hde ?_;refine⟨zar c q cap,rfl,zaa f0,hlt f0,?_⟩;refine cmo (znQ hd hJ1 hk1 hK) ?_;rintro e Y ⟨rfl,hY⟩;exact fin (by unfold za3;rw [h3];rfl) hY
 by_cases h2:c.kind=2
 ·rw [h2];refine brT ?_;refine brE hde ?_;refine⟨zar c q cap,rfl,zaa f0,hlt f0,?_⟩;refine cmo (znR hJ1.f) ?_;rintro e Y ⟨rfl,hY⟩;exact fin (by unfold za3;rw [h2];rfl) (.of_below hJ1 hY)
 by_cases h1:c.kind=1
 ·rw [h1];refine brT ?_;refine brE hde ?_;refine⟨zar c q cap,rfl,zaa f0,hlt f0,?_⟩;refine cmo (znS hJ1.f) ?_;rintro e Y ⟨rfl,hY⟩;exact fin (by unfold za3;rw [h1];rfl) (.of_below hJ1 hY)
 by_cases h0:c.kind=0
 ·rw [h0];refine brT ?_;refine brE hde ?_;refine⟨zar c q cap,rfl,zaa f0,hlt f0,?_⟩;refine cmo znT ?_;rintro e Y ⟨rfl,hY⟩;exact fin (by unfold za3;rw [h0];rfl) (.of_below hJ1 hY)
 ·have e:zfL vb fb c.kind=none:=by unfold zfL;rw [if_neg h5,if_neg h4,if_neg h3,if_neg h2,if_neg h1,if_neg h0]
  rw [e];refine brF ?_;refine brF ?_;exact fin (by unfold za3;rw [if_neg h0,if_neg h1,if_neg h2,if_neg h3,if_neg h4,if_neg h5]) (.of_below hJ1 (Below.refl _ _))
theorem zl0 {w:World} (hm:MapF plV w rn g) (hk:KnowOk B F w g) {k:PlK} (hp:PlainAt w k):(Instr.lookup 106 (.map (some rn)) (plV k) true).run Tryz.prog w = .ok (.tuple #[(g k).getD (.agg #[.bool false,.bool false]),.bool (g k).isSome]) w :=
 zpy (pkey w) Tryz.underlying106 (z := .agg #[.bool false,.bool false]) (zk2 (by kernel_rfl)) hm k (fun q v h=>hk.at h) hp true
theorem PlainAt.below {w w2:World} {k:PlK} (h:PlainAt w k) (hb:Bw w w2):PlainAt w2 k:=by
 obtain⟨cs,t,h⟩:=h;exact⟨cs,t,zab hb h⟩
end
section
variable {w:World} {q:Option Addr} {cap:Nat} {d:Nat} {B jb rk rn vb fb:Nat} {F:FinV}
abbrev ansC (s a:Bool):List Value:=[.bool s,.bool a]
structure KidI (w:World) (B jb rk rn vb fb:Nat) (F:FinV) (d:Nat) (k:PlK) (l:List Cnd) (b8 i:Nat) (X:World):Prop where
 J:∃ g,JudV X B jb rk rn vb fb F g
 gr:w.grownBy X (some rn)
 f6:X.heap[w.heap.size]?=some (.cells (ansC false false).toArray 111 (0,0))
 f7:X.heap[w.heap.size+1]?=some (.cells (plV k).cells 165 (0,0))
 f8:X.heap[b8]?=some (.cells (ansC ((l.take i).any (za3 F (21-d))) ((l.take i).all (za3 F (21-d)))).toArray 111 (0,0))
theorem JudV.lt {X:World} {g:PlK->Option Value} (h:JudV X B jb rk rn vb fb F g) {b:Nat} (hb:X.heap.size<=b):jb≠b/\vb≠b/\fb≠b/\rk≠b/\rn≠b:=by
 obtain⟨_,_,r1,_⟩:=h.kn;obtain⟨_,_,r2,_⟩:=h.mn;have:=hlt h.j;have:=hlt h.v;have:=hlt h.f;have:=hlt r1;have:=hlt r2;omega
theorem zia {α:Type} {p:α->Bool} {l:List α} {i:Nat} (h:i<l.length):(l.take (i+1)).any p=((l.take i).any p||p l[i]):=by
 rw [tsg h,List.any_append];simp
theorem zmX {α:Type} {p:α->Bool} {l:List α} {i:Nat} (h:i<l.length):(l.take (i+1)).all p=((l.take i).all p&&p l[i]):=by
 rw [tsg h,List.all_append];simp
theorem zhV (hd:d<=21) (hK:d<=20->zi8 B jb rk rn vb fb F (d+1)):zi8 B jb rk rn vb fb F d:=by
 intro w g q l cap hJ hk;refine cofM 68 [At0 jb,.slice q l.length cap,i64 d] (.s .p (.s .p (.s .p (.c .p (.c .p (.s .p (.c .p (.c (.c .p (.b (.l (.s .p (.s .p (.s (.b (.c .p (.c .p (.s .p .p)))) .p)))))) .p)))))))) Tryz.func56 ?_;obtain⟨L,hL⟩:=nm (w.heap.size);have hln:=hk.inv.1;have f6:=hnew w (.cells #[.bool false,.bool false] 111);have hb1:Bw w (w.alloc (.cells #[.bool false,.bool false] 111)):=zba w _;refine biE (fun h=>?_) fun h=>?_
 ·have h0:l.length=0:=by have:=dT h;omega
  have hl:l=[]:=List.eq_nil_of_length_eq_zero h0;subst hl;refine⟨_,rfl,?_⟩;refine zam (v := .agg #[.bool false,.bool true]) k111 f6 rfl rfl rfl ?_;exact⟨ansC false true,rfl,zaa (zaj f6),rfl,.of_below hJ (zag hb1 (Nat.le_refl _) _)⟩
 have h0:l.length≠0:=by have:=dF h;omega
 refine biE (fun h=>?_) fun h=>?_
 ·have hd21:d=21:=by have:=dT h;omega
  subst hd21;refine⟨_,rfl,?_⟩;refine zam (v := .agg #[.bool false,.bool false]) k111 f6 rfl rfl rfl ?_;refine⟨ansC false false,rfl,zaa (zaj f6),?_,.of_below hJ (zag hb1 (Nat.le_refl _) _)⟩;have e1:l.any (za3 F 0)=false:=by rw [List.any_eq_false];intro a _ h;cases h
  have e2:l.all (za3 F 0)=false:=by
   cases l with
   | nil=>exact absurd rfl h0
   | cons a r=>rfl
  show _=Ending.returned (.agg #[.bool (l.any (za3 F 0)),.bool (l.all (za3 F 0))]);rw [e1,e2];rfl
 have hd20:d<=20:=by have:=dF h;omega
 have hK:=hK hd20;clear h;obtain⟨b,o,rfl,hbB,hpl,hat⟩:=hk.plain h0;have hbL:b<w.heap.size:=nL hbB hJ.hB.2;refine⟨Unit,fun _=>⟨[(0,At0 jb),(1,.slice (some ⟨b,o,none⟩) l.length cap),(2,i64 d),(6,At0 L),(7,At0 (L+1))],[]⟩,
  fun _ X=>Bw w X/\X.heap[w.heap.size]?=some (.cells (ansC false false).toArray 111 (0,0))/\X.heap[w.heap.size+1]?=some (.cells (plV (b,o,l.length,d)).cells 165 (0,0)),?_,?_⟩
 ·refine⟨0,rfl,by omega,?_⟩;refine⟨_,rfl,?_⟩;have f7:=hnew (w.alloc (.cells #[.bool false,.bool false] 111)) (.cells #[.pointer none,.int .i64 0,.int .i64 0] 165);have e1:(w.alloc (.cells #[.bool false,.bool false] 111)).heap.size=w.heap.size+1:=wz _ _;refine zam (v:=plV (b,o,l.length,d)) k165 f7 rfl rfl rfl ?_;have hb2:=zag (hb1.alloc (by omega) (.cells #[.pointer none,.int .i64 0,.int .i64 0] 165)) (g:=(w.alloc (.cells #[.bool false,.bool false] 111)).heap.size) (by omega) (plV (b,o,l.length,d)).cells;refine⟨(),⟨.cons rfl (.cons rfl (.cons rfl (.cons (by rw [hL];rfl) (.cons (by rw [hL,<- e1];rfl) .nil)))),rfl⟩,hb2,?_,?_⟩
  ·exact (zao (by omega)).trans (hold _ f6)
  ·have:=zaj (cs':=(plV (b,o,l.length,d)).cells) f7;rw [e1] at this ⊢;exact this
 rintro _ X ⟨hbX,f6,f7⟩;have hJX:=hJ.below hbX;have hkX:=zch hJ hbX hk;have hpX:PlainAt X (b,o,l.length,d):=PlainAt.below (w:=w) hpl hbX;refine⟨Nat,fun s=>⟨[(0,At0 jb),(1,.slice (some ⟨b,o,none⟩) l.length cap),(2,i64 d),(6,At0 L),(7,At0 (L+1)),(8,At0 s),(9,.bool (g (b,o,l.length,d)).isSome)],[]⟩,
  fun s Y=>s=X.heap.size/\Bw X Y/\Y.heap[s]?=some (.cells ((g (b,o,l.length,d)).getD (.agg #[.bool false,.bool false])).cells 111 (0,0)),?_,?_⟩
 ·refine DrawE.ord [10] [0,1,2,3,4,5,6,7,8,9,10,11] (by kernel_rfl) ?_;refine⟨_,zac (zaa (hdr hJX.j)) (i:=1) rfl,?_⟩;refine⟨_,rfl,by rw [hL];exact zaa (hdr f7),by have:=hlt f7;rw [hL];exact this,?_⟩;refine⟨_,fun w2 hb2=>zl0 (hJX.below ((Below.refl _ X).drew.trans (hb2.mono (Nat.le_refl _)))).mn (hJX.below ((Below.refl _ X).drew.trans (hb2.mono (Nat.le_refl _)))).ok (hpX.below ((Below.refl _ X).drew.trans (hb2.mono (Nat.le_refl _)))),?_⟩;have f8:=hnew X.drew (.cells #[.bool false,.bool false] 111);refine⟨(zba _ _),?_⟩;have hv:∃ s a,(g (b,o,l.length,d)).getD (.agg #[.bool false,.bool false]) = .agg (ansC s a).toArray:=by
   cases e:g (b,o,l.length,d) with
   | none=>exact⟨false,false,rfl⟩
   | some v=>exact⟨_,_,hJX.ok.use hkX e⟩
  obtain⟨s,a,hv⟩:=hv;rw [hv];refine zam (v := .agg (ansC s a).toArray) k111 f8 rfl rfl rfl ?_;exact⟨X.heap.size,(cvE rfl rfl),rfl,zag ((Below.refl _ X).drew.alloc (Nat.le_refl _) _) (Nat.le_refl _) _,zaj f8⟩
 rintro s Y ⟨hs,hbY,f8⟩;have hwY:=zst hbX hbY;have f6Y:=zab hbY f6;have f7Y:=zab hbY f7;have hJY:=hJX.below hbY;refine biE (fun h=>?_) fun h=>?_
 ·obtain⟨v,hv⟩:=Option.isSome_iff_exists.1 h;have hva:=hJX.ok.use hkX hv;rw [hv,hva] at f8;refine⟨_,rfl,zaa f8,hlt f8,?_⟩;rw [hL];refine zam (v:=ansV F d l) k111 f6Y rfl rfl rfl ?_;refine⟨_,rfl,zaa (zaj f6Y),rfl,?_⟩;exact .of_below hJ (zag hwY (Nat.le_refl _) _)
 have hv:g (b,o,l.length,d)=none:=Option.not_isSome_iff_eq_none.1 (by rw [h];decide);rw [hv] at f8;clear h;have f8:Y.heap[s]?=some (.cells (ansC false false).toArray 111 (0,0)):=f8;have hsX:w.heap.size+2<=s:=by have:=hlt f7;omega
 have hne:=hJ.lt (b:=s) (by omega);have hBs:B<=s:=by have:=hJ.hB;omega
 refine⟨Unit,fun _=>⟨[(0,At0 jb),(1,.slice (some ⟨b,o,none⟩) l.length cap),(2,i64 d),(6,At0 L),(7,At0 (L+1)),(8,At0 s)],[]⟩,
  fun _ Z=>KidI w B jb rk rn vb fb F d (b,o,l.length,d) l s 0 Z,?_,?_⟩
 ·refine zal k4 f8 (o:=0+1) (v := .bool true) rfl rfl (by decide) rfl fun Z fZ gZ sZ=>?_;have old:∀ {k:Nat} {ob:Obj},k≠s->Y.heap[k]?=some ob->Z.heap[k]?=some ob:=fun {k ob} hk hk2=>(gZ.block k (hlt hk2) fun e=>hk (by cases e;rfl)).trans hk2;exact⟨(),(cvE rfl rfl),⟨g,hJY.other gZ hne hBs⟩,zeE (zah hwY) gZ (by omega),old (by omega) f6Y,old (by omega) f7Y,fZ⟩
 rintro _ Z hI;clear f8 f7Y f6Y hJY hwY hbY f6 f7 hJX hkX hpX;refine⟨Unit,fun _=>⟨[(0,At0 jb),(2,i64 d),(6,At0 L),(7,At0 (L+1)),(8,At0 s)],[]⟩,
  fun _ Z=>KidI w B jb rk rn vb fb F d (b,o,l.length,d) l s l.length Z,?_,?_⟩
 ·refine⟨Nat,fun k=>⟨[(0,At0 jb),(1,.slice (some ⟨b,o,none⟩) l.length cap),(2,i64 d),(6,At0 L),(7,At0 (L+1)),(8,At0 s),(38,.slice (some ⟨b,o,none⟩) l.length cap),(39,i64 l.length),(40,i64 k)],[]⟩,fun k Z=>k=0/\KidI w B jb rk rn vb fb F d (b,o,l.length,d) l s 0 Z,⟨0,(cvE rfl rfl),rfl,hI⟩,?_⟩;rintro _ Z ⟨rfl,hI⟩;refine⟨Nat,fun k=>⟨[(0,At0 jb),(1,.slice (some ⟨b,o,none⟩) l.length cap),(2,i64 d),(6,At0 L),(7,At0 (L+1)),(8,At0 s),(38,.slice (some ⟨b,o,none⟩) l.length cap),(39,i64 l.length),(40,i64 k)],[]⟩,
   fun k Z=>k<=l.length/\KidI w B jb rk rn vb fb F d (b,o,l.length,d) l s k Z,fun k=>l.length-k,0,(cvE rfl rfl),⟨Nat.zero_le _,hI⟩,?_⟩
  rintro k Z ⟨hkl,hI⟩;refine biE (fun h=>?_) fun h=>?_
  ·have hkl:k<l.length:=by have:=dT h;omega
   clear h;obtain⟨c,hc⟩:=nm (l[k]);refine⟨Nat×Option Addr×Nat,fun x=>⟨[(0,At0 jb),(1,.slice (some ⟨b,o,none⟩) l.length cap),(2,i64 d),(6,At0 L),(7,At0 (L+1)),(8,At0 s),(38,.slice (some ⟨b,o,none⟩) l.length cap),(39,i64 l.length),(40,i64 k),(11,At0 x.1)],[]⟩,fun x U=>KidI w B jb rk rn vb fb F d (b,o,l.length,d) l s k U/\KidsG B U x.2.1 c.kids/\U.heap[x.1]?=some (.cells (zar c x.2.1 x.2.2).toArray 29 (0,0)),?_,?_⟩
   ·obtain⟨⟨g1,J1⟩,gr,f6,f7,f8⟩:=hI;have hkZ:=hJ.kids gr hk;obtain⟨b',o',hp',_,hpl',hat'⟩:=hkZ.plain h0
    cases hp'
    obtain⟨qk,ck,hck,hkk⟩:=hat' k hkl;rw [<- hc] at hck hkk;have hbZ:b<Z.heap.size:=(by obtain⟨_,_,h⟩:=hpl';exact hlt h);refine⟨k,rfl,hkl,?_⟩;refine⟨zar c qk ck,rfl,hck,hbZ,?_⟩;have f11:=hnew Z (.cells #[.int .u8 0,.int .u8 0,.int .u8 0,.int .u8 0,.slice none 0 0] 29);refine zam (v:=cndV c qk ck) k29 f11 rfl rfl rfl ?_;have hb12:=zag ((Below.refl Z.heap.size Z).alloc (Nat.le_refl _) (.cells #[.int .u8 0,.int .u8 0,.int .u8 0,.int .u8 0,.slice none 0 0] 29)) (Nat.le_refl Z.heap.size) (cndV c qk ck).cells;exact⟨(Z.heap.size,qk,ck),(cvE rfl rfl),⟨⟨g1,J1.below hb12⟩,ziR gr hb12,zab hb12 f6,zab hb12 f7,zab hb12 f8⟩,zch J1 hb12 hkk,zaj f11⟩
   rintro⟨b11,qk,ck⟩ U ⟨⟨⟨g1,J1⟩,gr,f6,f7,f8⟩,hkk,f12⟩;dsimp only at hkk f12;refine⟨Unit,fun _=>⟨[(0,At0 jb),(1,.slice (some ⟨b,o,none⟩) l.length cap),(2,i64 d),(6,At0 L),(7,At0 (L+1)),(8,At0 s),(38,.slice (some ⟨b,o,none⟩) l.length cap),(39,i64 l.length),(40,i64 k),(12,.bool (za3 F (21-d) c))],[]⟩,fun _ V=>KidI w B jb rk rn vb fb F d (b,o,l.length,d) l s k V,?_,?_⟩
   ·refine⟨zar c qk ck,rfl,zaa f12,hlt f12,?_⟩;refine cmo (zl6 hd20 J1 hkk hK) ?_;rintro e V ⟨rfl,hV,gV⟩;obtain⟨es,n,hrn⟩:=J1.rmap;exact⟨(),(cvE rfl rfl),hV,zae gr gV,zbm hrn gV f6,zbm hrn gV f7,zbm hrn gV f8⟩
   rintro _ V ⟨⟨g3,J3⟩,grV,f6,f7,f8⟩;obtain⟨S,hS⟩:=nm ((l.take k).any (za3 F (21-d)));obtain⟨A,hA⟩:=nm ((l.take k).all (za3 F (21-d)));obtain⟨H,hH⟩:=nm (za3 F (21-d) c);rw [<- hS,<- hA] at f8;rw [<- hH];have step:∀ (x y:Bool) (V1 V2:World),V.grownBy V1 (some s)->V1.grownBy V2 (some s)->x=(S||H)->y=(A&&H)->V2.heap[s]?=some (.cells (ansC x y).toArray 111 (0,0)) ->
     KidI w B jb rk rn vb fb F d (b,o,l.length,d) l s (k+1) V2:=fun x y V1 V2 g1 g2 hx hy hf=>by
    have g12:V.grownBy V2 (some s):=zae g1 g2;have old:∀ {k:Nat} {ob:Obj},k≠s->V.heap[k]?=some ob->V2.heap[k]?=some ob:=fun {k ob} hk hk2=>(g12.block k (hlt hk2) fun e=>hk (by cases e;rfl)).trans hk2;refine⟨⟨g3,J3.other g12 hne hBs⟩,zeE grV g12 (by omega),old (by omega) f6,old (by omega) f7,?_⟩;rw [zia hkl,zmX hkl,<- hS,<- hA,<- hc,<- hH,<- hx,<- hy];exact hf
   refine⟨_,zac (zaa f8) (i:=0) rfl,?_⟩;refine biE (fun h1=>?_) fun h1=>?_
   ·refine zal k4 f8 (o:=0+0) (v := .bool true) rfl rfl (by show 0<2;decide) rfl fun V1 fV1 gV1 sV1=>?_;refine⟨_,zac (zaa fV1) (i:=1) rfl,?_⟩;refine biE (fun h2=>?_) fun h2=>?_
    ·refine zal k4 fV1 (o:=0+1) (v := .bool H) rfl rfl (by show 1<2;decide) rfl fun V2 fV2 gV2 sV2=>?_;refine⟨_,zaf (by omega),?_⟩;exact⟨k+1,(cvE rfl rfl),⟨hkl,step true H V1 V2 gV1 gV2 (by rw [h1];rfl) (by rw [h2];rfl) fV2⟩,by dsimp only;omega⟩
    ·refine zal k4 fV1 (o:=0+1) (v := .bool false) rfl rfl (by show 1<2;decide) rfl fun V2 fV2 gV2 sV2=>?_;refine⟨_,zaf (by omega),?_⟩;exact⟨k+1,(cvE rfl rfl),⟨hkl,step true false V1 V2 gV1 gV2 (by rw [h1];rfl) (by rw [h2];rfl) fV2⟩,by dsimp only;omega⟩
   ·refine zal k4 f8 (o:=0+0) (v := .bool H) rfl rfl (by show 0<2;decide) rfl fun V1 fV1 gV1 sV1=>?_;refine⟨_,zac (zaa fV1) (i:=1) rfl,?_⟩;refine biE (fun h2=>?_) fun h2=>?_
    ·refine zal k4 fV1 (o:=0+1) (v := .bool H) rfl rfl (by show 1<2;decide) rfl fun V2 fV2 gV2 sV2=>?_;refine⟨_,zaf (by omega),?_⟩;exact⟨k+1,(cvE rfl rfl),⟨hkl,step H H V1 V2 gV1 gV2 (by rw [h1];rfl) (by rw [h2];rfl) fV2⟩,by dsimp only;omega⟩
    ·refine zal k4 fV1 (o:=0+1) (v := .bool false) rfl rfl (by show 1<2;decide) rfl fun V2 fV2 gV2 sV2=>?_;refine⟨_,zaf (by omega),?_⟩;exact⟨k+1,(cvE rfl rfl),⟨hkl,step H false V1 V2 gV1 gV2 (by rw [h1];rfl) (by rw [h2];rfl) fV2⟩,by dsimp only;omega⟩
  ·have hke:k=l.length:=by have:=dF h;omega
   subst hke;exact⟨(),(cvE rfl rfl),hI⟩
 rintro _ U ⟨⟨g1,J1⟩,gr,f6,f7,f8⟩;rw [List.take_length] at f8;have hkU:=hJ.kids gr hk;have hpU:PlainAt U (b,o,l.length,d):=by
  obtain⟨_,_,hp',_,hpl',_⟩:=hkU.plain h0
  cases hp'
  exact hpl'
 have hbd:Bw U U.drew:=(Below.refl _ U).drew;refine DrawE.ord [6] [0,1,2,3,4,5,6] (by kernel_rfl) ?_;refine⟨_,zac (zaa (hdr J1.j)) (i:=1) rfl,?_⟩;refine⟨_,rfl,by rw [hL];exact zaa (hdr f7),by have:=hlt f7;rw [hL];exact this,?_⟩;refine⟨_,rfl,zaa (hdr f8),hlt f8,?_⟩;obtain⟨ob,r1,m1⟩:=zkA (pkey U.drew) Tryz.underlying106 (J1.mn.below hbd) (b,o,l.length,d) (ansV F d l) (fun q v e=>(J1.ok.at e).below hbd) (hpU.below hbd);refine⟨_,_,r1,?_⟩;have gp:U.grownBy (U.drew.putObj rn ob) (some rn):=zae (zah hbd) (zl8 U.drew rn ob);have J2:JudV (U.drew.putObj rn ob) B jb rk rn vb fb F _:=J1.grown gp m1 ((J1.ok.add hkU h0 (d:=d)).by fun k cs t hB hc=>gp.block k (hlt hc) fun e=>by cases e;have:=J1.hB;omega);obtain⟨es,n,hrn⟩:=J1.rmap;have f6:=zbm hrn gp f6;have f8:=zbm hrn gp f8;refine⟨_,rfl,zaa f8,hlt f8,?_⟩;rw [hL];refine zam (v:=ansV F d l) k111 f6 rfl rfl rfl ?_;refine⟨_,rfl,zaa (zaj f6),rfl,⟨_,J2.other (zaO _ _ _) (hJ.lt (Nat.le_refl _)) hJ.hB.2⟩,zeE (zae gr gp) (zaO _ _ _) (Nat.le_refl _)⟩
theorem zq0 (n:Nat):∀ d,d+n=21->zi8 B jb rk rn vb fb F d:=by
 induction n with
 | zero=>exact fun d h=>zhV (by omega) fun h2=>by omega
 | succ n ih=>exact fun d h=>zhV (by omega) fun _=>ih (d+1) (by omega)
end
section
variable {w:World} {F:FinV} {B:Nat}
theorem zkz (hB:B<=w.heap.size):Calls Tryz.prog 33 #[zaD F] w fun e w'=>∃ jb rk rn vb fb,e = .returned (At0 jb)/\JudV w' B jb rk rn vb fb F (fun _=>none)/\w.heap.size<=rn/\Bw w w':=by
 refine cofM 18 [zaD F] (.s .p (.c .p (.c .p .p))) Tryz.func33 ?_;obtain⟨W1,e1⟩:=nm (w.alloc (.cells (finE.enc F).toArray 27));have fb:W1.heap[w.heap.size]?=some (.cells (finE.enc F).toArray 27 (0,0)):=by rw [e1];exact hnew w _
 have b1:Bw w W1:=by rw [e1];exact (zba w _)
 have n1:W1.heap.size=w.heap.size+1:=by rw [e1];exact wz _ _
 refine⟨Nat×Nat×Nat,fun s=>⟨[(1,At0 w.heap.size),(3,At0 s.2.2)],[]⟩,fun s X=>MapF plV X s.1 (fun (_:PlK)=>none)/\X.heap[s.2.1]?=some (.cells [Value.map none,.map (some s.1)].toArray 109 (0,0))/\X.heap[s.2.2]?=some (.cells #[At0 s.2.1] 76 (0,0)) /\
  X.heap[w.heap.size]?=some (.cells (finE.enc F).toArray 27 (0,0))/\w.heap.size<s.1/\s.1<s.2.1/\s.2.1<s.2.2/\Bw w X,?_,?_⟩
 ·refine⟨Value.map (some W1.heap.size),W1.alloc (.map #[] 0),by rw [e1];rfl,?_⟩;have m0:MapF (key:=plV) (W1.alloc (.map #[] 0)) W1.heap.size (fun (_:PlK)=>none):=MapF.new;have b2:Bw W1 (W1.alloc (.map #[] 0)):=zba W1 _;have n2:(W1.alloc (.map #[] 0)).heap.size=W1.heap.size+1:=wz _ _;obtain⟨W2,e2⟩:=nm (W1.alloc (.map #[] 0));rw [<- e2] at m0 b2 n2 ⊢;refine⟨[Value.map none,.map (some W1.heap.size)],rfl,?_⟩;have fj:=hnew W2 (.cells #[Value.map none,.map (some W1.heap.size)] 109);have b3:Bw W2 (W2.alloc (.cells #[Value.map none,.map (some W1.heap.size)] 109)):=zba W2 _;have n3:(W2.alloc (.cells #[Value.map none,.map (some W1.heap.size)] 109)).heap.size=W2.heap.size+1:=wz _ _;have fv:=hnew (W2.alloc (.cells #[Value.map none,.map (some W1.heap.size)] 109)) (.cells #[.pointer none] 76);refine zam (v:=At0 W2.heap.size) k76 fv rfl rfl rfl ?_;have b4:=zag ((Below.refl (W2.alloc (.cells #[Value.map none,.map (some W1.heap.size)] 109)).heap.size _).alloc (Nat.le_refl _) (.cells #[.pointer none] 76)) (Nat.le_refl _) (At0 W2.heap.size).cells;have b24:=zst b3 b4;have b14:=zst b2 b24;exact⟨(W1.heap.size,W2.heap.size,(W2.alloc (.cells #[Value.map none,.map (some W1.heap.size)] 109)).heap.size),(cvE rfl rfl),m0.below b24,zab b4 fj,zaj fv,zab b14 fb,by dsimp only;omega,by dsimp only;omega,by dsimp only;omega,(zst b1 b14)⟩
 rintro⟨rn,jb,vb⟩ W4 ⟨m4,fj,fv,fb,l1,l2,l3,b4⟩;dsimp only at m4 fj fv l1 l2 l3;have hv:=hlt fv;refine⟨Nat,fun s=>⟨[(3,At0 vb)],[]⟩,fun s X=>JudV X B jb s rn vb w.heap.size F (fun _=>none)/\Bw w X,?_,?_⟩
 ·refine⟨_,zac (zaa fv) (i:=0) rfl,?_⟩;refine⟨Value.map (some W4.heap.size),W4.alloc (.map #[] 0),by rfl,?_⟩;have k0:MapF (key:=u8) (W4.alloc (.map #[] 0)) W4.heap.size (fun (_:UInt8)=>none):=MapF.new;have b5:Bw W4 (W4.alloc (.map #[] 0)):=zba W4 _;obtain⟨o1,r1,k1⟩:=zbp zij Tryz.underlying107 k0 0 (.func (.func 52) #[] #[]);obtain⟨o2,r2,k2⟩:=zbp zij Tryz.underlying107 k1 1 (.func (.func 53) #[] #[At0 w.heap.size]);obtain⟨o3,r3,k3⟩:=zbp zij Tryz.underlying107 k2 2 (.func (.func 54) #[] #[At0 w.heap.size]);obtain⟨o4,r4,k4⟩:=zbp zij Tryz.underlying107 k3 3 (.func (.func 55) #[] #[At0 vb]);obtain⟨o5,r5,k5⟩:=zbp zij Tryz.underlying107 k4 4 (.func (.func 57) #[] #[At0 vb]);obtain⟨o6,r6,k6⟩:=zbp zij Tryz.underlying107 k5 5 (.func (.func 58) #[] #[At0 vb]);refine⟨_,_,r1,?_⟩;refine⟨_,_,r2,?_⟩;refine⟨_,_,r3,?_⟩;refine⟨_,_,r4,?_⟩;refine⟨_,_,r5,?_⟩;refine⟨_,_,r6,?_⟩;have b6:=zaP (zaP (zaP (zaP (zaP (zaP b5 (Nat.le_refl _) o1) (Nat.le_refl _) o2) (Nat.le_refl _) o3) (Nat.le_refl _) o4) (Nat.le_refl _) o5) (Nat.le_refl _) o6;have k6:MapF u8 (((((((W4.alloc (.map #[] 0)).putObj W4.heap.size o1).putObj W4.heap.size o2).putObj W4.heap.size o3).putObj W4.heap.size o4).putObj W4.heap.size o5).putObj W4.heap.size o6) W4.heap.size (zfL vb w.heap.size):=k6;have fj5:=zab b6 fj;refine zal k107 fj5 (o:=0+0) (v := .map (some W4.heap.size)) rfl rfl (by show 0<2;decide) rfl fun X fX gX sX=>?_;clear r1 r2 r3 r4 r5 r6 k0 k1 k2 k3 k4 k5 b5;generalize (((((((W4.alloc (.map #[] 0)).putObj W4.heap.size o1).putObj W4.heap.size o2).putObj W4.heap.size o3).putObj W4.heap.size o4).putObj W4.heap.size o5).putObj W4.heap.size o6)=W5 at k6 b6 fj5 gX sX;have fv5:=zab b6 fv;have fb5:=zab b6 fb;have m5:=m4.below b6;have s5:=b6.size;have old:∀ {k:Nat} {ob:Obj},k≠jb->W5.heap[k]?=some ob->X.heap[k]?=some ob:=fun {k ob} hk hk2=>(gX.block k (hlt hk2) fun e=>hk (by cases e;rfl)).trans hk2;have same:∀ {k:Nat} {ob:Obj},k≠jb->W5.heap[k]?=some ob->X.heap[k]?=W5.heap[k]?:=fun {k ob} hk hk2=>gX.block k (hlt hk2) fun e=>hk (by cases e;rfl);obtain⟨_,_,h1,_⟩:=id k6;obtain⟨_,_,h2,_⟩:=id m5;have b05:=zst b4 b6;exact⟨W4.heap.size,(cvE rfl rfl),⟨fX,old (by omega) fv5,old (by omega) fb5,k6.same (same (by omega) h1),m5.same (same (by omega) h2),.nil,by omega,by omega,by have:=gX.size;omega⟩,b05.trans (zak gX (by have:=b4.size;omega) (by omega))⟩
 rintro rk X ⟨hJ,hb⟩;refine⟨_,zac (zaa hJ.v) (i:=0) rfl,?_⟩;exact⟨jb,rk,rn,vb,w.heap.size,rfl,hJ,by omega,hb⟩
end
section
variable {w:World} {F:FinV} {c:Cnd} {q:Option Addr} {cap:Nat}
theorem zfh (hk:KidsG w.heap.size w q c.kids):CB 12 #[cndV c q cap,zaD F] w (.bool (za3 F 20 c)):=by
 refine cofE 9 [cndV c q cap,zaD F] Tryz.func12 ?_;obtain⟨W1,e1⟩:=nm (((w.alloc (.cells (cndV c q cap).cells 29)).alloc (.cells (zaD F).cells 27)).drew);have f2:W1.heap[w.heap.size]?=some (.cells (zar c q cap).toArray 29 (0,0)):=by rw [e1];exact hold _ (hnew w _)
 have f3:W1.heap[w.heap.size+1]?=some (.cells (finE.enc F).toArray 27 (0,0)):=by
  rw [e1];have:=hnew (w.alloc (.cells (cndV c q cap).cells 29)) (.cells (zaD F).cells 27);rw [wz] at this;exact this
 have b1:Bw w W1:=by rw [e1];exact (((zba w _)).alloc (by rw [wz];omega) _).drew
 refine DrawE.ord [3] [0,2,1,3,4] (by kernel_rfl) ?_;rw [<- e1];refine⟨finE.enc F,finE.len F,by rw [wz];exact zaa f3,by rw [wz];exact hlt f3,?_⟩;refine⟨zar c q cap,rfl,zaa f2,hlt f2,?_⟩;refine cmo (zkz (F:=F) (B:=w.heap.size) b1.size) ?_;rintro e Y ⟨jb,rk,rn,vb,fb,rfl,hJ,hrn,hbY⟩;refine⟨hbY,?_⟩;have b2:=zst b1 hbY;refine cmo (zl6 (d:=1) (by decide) hJ (hk.kept b2) (zq0 19 2 rfl)) ?_;rintro e Z ⟨rfl,_,gZ⟩;exact⟨rfl,b2.trans (zak gZ b2.size (Nat.le_trans b1.size hrn))⟩
end
def incB:List FinV->Bool
 | []=>true
 | a::r=>r.all (fun b=>ltF a b)&&incB r
theorem zfa:∀ {l:List FinV},incB l=true->Inc l
 | [],_=>List.Pairwise.nil
 | a::r,h=>by
  unfold incB at h;rw [bAT,List.all_eq_true] at h;exact List.pairwise_cons.2 ⟨h.1,zfa h.2⟩
theorem zjl {l t:List FinV} (h:(incB t&&(l.all (fun x=>decide (x∈t))&&t.all (fun x=>decide (x∈l))))=true):zcE l=t:=by
 rw [bAT,bAT,List.all_eq_true,List.all_eq_true] at h;exact zdr (zcm l) (zfa h.1) fun x=>by
  rw [zcl];exact⟨fun hx=>dT (h.2.1 x hx),fun hx=>dT (h.2.2 x hx)⟩
def outF (a b:UInt8):FinV:=⟨a::0::0::0::0::0::0::0::b::(List.replicate 23 0++[1,1,0,0,0,0]),by simp⟩
end Go.Proofs.YtlkofpbdpplfkaaGreatDoor
namespace Go.Sei
def extR (before:Nat->Nat):Nat->Nat->List Nat->List (List Nat)
 | 0,left,l=>if left=0 then [l] else []
 | n+1,left,l=>if left=0 then [l] else (els left).flatMap fun a=>if before a&&&left=0 then extR before n (zdA left (2^a)) (l++[a]) else []
def ordR (r:RelD):List (List Nat):=if acyR r then extR (zbw r).to 64 (allM r.n) [] else []
def digL:List Nat->Nat->List Nat
 | [],_=>[]
 | n::ns,j=>j%n::digL ns (j/n)
def za2:List Nat->Nat
 | []=>1
 | n::ns=>n*za2 ns
def zdV (sizes:List Nat):List (List Nat):=(List.range (za2 sizes.reverse)).map fun j=>(digL sizes.reverse j).reverse
theorem zfe:∀ (rs:List Nat) (j:Nat),(digL rs j).length=rs.length
 | [],_=>rfl
 | n::ns,j=>by
  show (digL ns (j/n)).length+1=ns.length+1;rw [zfe ns]
theorem zh2:∀ rs:List Nat,digL rs 0=List.replicate rs.length 0
 | []=>rfl
 | n::ns=>by
  show 0%n::digL ns (0/n)=0::List.replicate ns.length 0;rw [Nat.zero_mod,Nat.zero_div,zh2 ns]
theorem zhE:∀ {rs:List Nat},(∀ n∈rs,n≠0)->0<za2 rs
 | [],_=>Nat.one_pos
 | n::ns,h=>Nat.mul_pos (by have:=h n (by simp);omega) (zhE fun m hm=>h m (by simp [hm]))
theorem zeu:∀ {rs:List Nat},0∈rs->za2 rs=0
 | [],h=>by cases h
 | n::ns,h=>by
  show n*za2 ns=0;rcases List.mem_cons.1 h with h | h
  ·rw [<- h,Nat.zero_mul]
  ·rw [zeu h,Nat.mul_zero]
theorem zfU {n j:Nat} (hn:n≠0):(j%n=n-1->(j+1)%n=0/\(j+1)/n=j/n+1)/\(j%n≠n-1->(j+1)%n=j%n+1/\(j+1)/n=j/n):=by
 have h1:=Nat.div_add_mod j n;have h2:=Nat.mod_lt j (Nat.pos_of_ne_zero hn);obtain⟨q,hq⟩:∃ q,j/n=q:=⟨_,rfl⟩;obtain⟨m,hm⟩:∃ m,j%n=m:=⟨_,rfl⟩;rw [hq,hm] at h1 ⊢;rw [hm] at h2;refine⟨fun h=>?_,fun h=>?_⟩
 ·have e:j+1=n*(q+1):=by rw [Nat.mul_add];omega
  rw [e];exact⟨Nat.mul_mod_right _ _,Nat.mul_div_cancel_left _ (Nat.pos_of_ne_zero hn)⟩
 ·have e:j+1=n*q+(m+1):=by omega
  rw [e,Nat.mul_add_mod,Nat.mod_eq_of_lt (by omega),Nat.mul_add_div (Nat.pos_of_ne_zero hn),Nat.div_eq_of_lt (by omega)];exact⟨rfl,rfl⟩
def zjb (rs:List Nat) (j t:Nat):Prop:=∃ A ns k,rs=A++ns/\A.length=t/\digL rs (j+1)=List.replicate t 0++digL ns (k+1)/\(digL rs j).drop t=digL ns k/\za2 A*(k+1)=j+1
theorem zd5:∀ A B:List Nat,za2 (A++B)=za2 A*za2 B
 | [],B=>(Nat.one_mul _).symm
 | n::A,B=>by
  show n*za2 (A++B)=n*za2 A*za2 B;rw [zd5 A B,Nat.mul_assoc]
theorem zkM (rs:List Nat) (j:Nat):zjb rs j 0:=⟨[],rs,j,rfl,rfl,rfl,rfl,Nat.one_mul _⟩
theorem zkO {rs:List Nat} {j t:Nat} (hr:∀ n∈rs,n≠0) (h:zjb rs j t) {n d:Nat} (hn:rs[t]?=some n) (hd:(digL rs j)[t]?=some d) (he:d=n-1):zjb rs j (t+1):=by
 obtain⟨A,ns,k,h1,h2,h3,h4,h5⟩:=h
 cases ns with
 | nil =>
  rw [h1,List.append_nil,List.getElem?_eq_none (by omega)] at hn
  cases hn
 | cons m ns =>
  have hm:m=n:=by
   rw [h1,List.getElem?_append_right (by omega),h2,Nat.sub_self] at hn;exact Option.some.inj hn
  subst hm;have hd2:k%m=d:=by
   have:=congrArg (fun l=>l[0]?) h4;simp only [List.getElem?_drop,Nat.add_zero] at this;rw [hd] at this;exact (Option.some.inj this).symm
  have hm0:m≠0:=hr m (by rw [h1];simp);obtain⟨e1,e2⟩:=(zfU hm0).1 (hd2.trans he);have hk:k+1=m*(k/m+1):=by
   have:=Nat.div_add_mod (k+1) m;rw [e1,e2] at this;omega
  refine⟨A++[m],ns,k/m,by rw [h1];simp,by simp [h2],?_,?_,?_⟩
  ·rw [h3];show _++((k+1)%m::digL ns ((k+1)/m))=_;rw [e1,e2,List.replicate_succ',List.append_assoc];rfl
  ·rw [<- List.drop_drop,h4];rfl
  ·rw [<- h5,zd5];show za2 A*(m*1)*_=_;rw [Nat.mul_one,Nat.mul_assoc,<- hk]
theorem zkN {rs:List Nat} {j t:Nat} (hr:∀ n∈rs,n≠0) (h:zjb rs j t) {n d:Nat} (hn:rs[t]?=some n) (hd:(digL rs j)[t]?=some d) (he:d≠n-1):digL rs (j+1)=List.replicate t 0++(d+1)::(digL rs j).drop (t+1):=by
 obtain⟨A,ns,k,h1,h2,h3,h4,h5⟩:=h
 cases ns with
 | nil =>
  rw [h1,List.append_nil,List.getElem?_eq_none (by omega)] at hn
  cases hn
 | cons m ns =>
  have hm:m=n:=by
   rw [h1,List.getElem?_append_right (by omega),h2,Nat.sub_self] at hn;exact Option.some.inj hn
  subst hm;have hd2:k%m=d:=by
   have:=congrArg (fun l=>l[0]?) h4;simp only [List.getElem?_drop,Nat.add_zero] at this;rw [hd] at this;exact (Option.some.inj this).symm
  have hm0:m≠0:=hr m (by rw [h1];simp);obtain⟨e1,e2⟩:=(zfU hm0).2 (fun h=>he (hd2.symm.trans h));rw [h3,<- List.drop_drop,h4];show _++((k+1)%m::digL ns ((k+1)/m))=_;rw [e1,e2,hd2];rfl
theorem zmI {rs:List Nat} {j:Nat} (h:zjb rs j rs.length) (hj:j<za2 rs):j+1=za2 rs:=by
 obtain⟨A,ns,k,h1,h2,h3,h4,h5⟩:=h;have hl:=congrArg List.length h1;rw [lap,h2] at hl;have:ns=[]:=List.length_eq_zero_iff.1 (by omega);subst this;rw [List.append_nil] at h1;rw [h1] at hj ⊢;have h6:za2 A*(k+1)<=za2 A:=by omega
 rcases Nat.eq_zero_or_pos (za2 A) with h0 | h0
 ·omega
 ·have:k+1<=1:=Nat.le_of_mul_le_mul_left (by omega:za2 A*(k+1)<=za2 A*1) h0;have:k=0:=by omega
  subst this;omega
theorem zkP {rs:List Nat} {j t:Nat} (hr:∀ n∈rs,n≠0) (h:zjb rs j t) {n d:Nat} (hn:rs[t]?=some n) (hd:(digL rs j)[t]?=some d) (he:d≠n-1) (hj:j<za2 rs):j+1<za2 rs:=by
 obtain⟨A,ns,k,h1,h2,h3,h4,h5⟩:=h
 cases ns with
 | nil =>
  rw [h1,List.append_nil,List.getElem?_eq_none (by omega)] at hn
  cases hn
 | cons m ns =>
  have hm:m=n:=by
   rw [h1,List.getElem?_append_right (by omega),h2,Nat.sub_self] at hn;exact Option.some.inj hn
  subst hm;have hd2:k%m=d:=by
   have:=congrArg (fun l=>l[0]?) h4;simp only [List.getElem?_drop,Nat.add_zero] at this;rw [hd] at this;exact (Option.some.inj this).symm
  have hm0:m≠0:=hr m (by rw [h1];simp);obtain⟨e1,e2⟩:=(zfU hm0).2 (fun h=>he (hd2.symm.trans h));apply Classical.byContradiction;intro hc;have hP:za2 rs=za2 A*(m*za2 ns):=by rw [h1,zd5];rfl
  have hA:0<za2 A:=by
   apply Nat.pos_of_ne_zero;intro h0;rw [hP,h0,Nat.zero_mul] at hj;omega
  have h6:za2 A*(k+1)=za2 A*(m*za2 ns):=by omega
  have h7:=Nat.eq_of_mul_eq_mul_left hA h6;rw [h7,Nat.mul_mod_right] at e1;omega
theorem zhC {L:List Nat} {t d:Nat} (h:L[t]?=some d):(List.replicate t 0++L.drop t).reverse=(L.drop (t+1)).reverse++d::(List.replicate t 0).reverse:=by
 obtain⟨ht,rfl⟩:=List.getElem?_eq_some_iff.1 h;rw [<- List.getElem_cons_drop ht,List.reverse_append,List.reverse_cons,List.append_assoc];rfl
theorem zqK {L:List Nat} {t d:Nat} (h:L[t]?=some d) {i:Nat} (hi:i+t+1=L.length):(List.replicate t 0++L.drop t).reverse[i]?=some d:=by
 rw [zhC h,List.getElem?_append_right (by simp;omega)];have:i-(L.drop (t+1)).reverse.length=0:=by simp;omega
 rw [this];rfl
theorem zly {L:List Nat} {t d:Nat} (h:L[t]?=some d) {i:Nat} (hi:i+t+1=L.length) (v:Nat):((List.replicate t 0++L.drop t).reverse).set i v=(List.replicate t 0++v::L.drop (t+1)).reverse:=by
 rw [zhC h,List.set_append_right _ _ (by simp;omega)];have:i-(L.drop (t+1)).reverse.length=0:=by simp;omega
 rw [this,List.reverse_append,List.reverse_cons,List.append_assoc];rfl
theorem znt {L:List Nat} {t:Nat}:(List.replicate t 0++0::L.drop (t+1)).reverse=(List.replicate (t+1) 0++L.drop (t+1)).reverse:=by
 rw [List.replicate_succ',List.append_assoc];rfl
structure ExD where
 ev:List Ev
 po:RelD
 rf:RelD
 co:RelD
 dt:RelD
 ct:RelD
 rm:RelD
 regs:Nat->UInt8
 mem:Nat->UInt8
structure MixD where
 base:ExD
 rs:List (Nat×List Nat)
 wr:List (List Nat)
def relN (n:Nat):RelD:=⟨n,fun _=>0⟩
def ex0 (n:Nat):ExD:=⟨[],relN n,relN n,relN n,relN n,relN n,relN n,fun _=>0,fun _=>0⟩
def putF (b:Nat):List (Nat×Nat)->(Nat->Nat)->Nat->Nat
 | [],f=>f
 | p::ps,f=>putF b ps (upd f (b+p.1) (f (b+p.1)|||2^(b+p.2)))
def putR (b:Nat) (ps:List (Nat×Nat)) (r:RelD):RelD:=⟨r.n,putF b ps r.to⟩
def zlH (a:Int):Nat->List Ev->Nat->Nat
 | _,[],s=>s
 | j,e::es,s=>zlH a (j+1) es (if e.th=a then s|||2^j else s)
def ze1 (ev:List Ev) (i:Nat):Nat:=match ev[i]? with
 | none=>0
 | some e=>if e.th = -1 then 0 else zlH e.th (i+1) (ev.drop (i+1)) 0
def poR (ev:List Ev):RelD:=⟨ev.length,ze1 ev⟩
def zbG:Nat->List UInt8->List Ev
 | _,[]=>[]
 | l,v::vs=>⟨-1,2,UInt8.ofNat l,v,0,0,0⟩::zbG (l+1) vs
def thEv (k:Nat) (l:List Ev):List Ev:=l.map fun e=>{ e with th:=k }
def zj5 (x:ExD) (k:Nat) (P:PathD):ExD :=
 { x with ev:=x.ev++thEv k P.ev,dt:=putR x.ev.length P.data x.dt,ct:=putR x.ev.length P.ctrl x.ct,rm:=putR x.ev.length P.rmw x.rm,regs:=fun i=>if i/8=k then P.regs (i%8) else x.regs i }
def asR:Nat->List PathD->ExD->ExD
 | _,[],x=>x
 | k,P::Ps,x=>asR (k+1) Ps (zj5 x k P)
def zo1 (locs:Nat) (Ps:List PathD):Nat:=Ps.foldl (fun n P=>n+P.ev.length) locs
def wrsG:Nat->List Ev->List (List Nat)->List (List Nat)
 | _,[],W=>W
 | i,e::es,W=>wrsG (i+1) es (if e.k=2 then W.set e.l.toNat (W.getD e.l.toNat []++[i]) else W)
def rdsG (all:List Ev) (W:List (List Nat)):Nat->List Ev->List (Nat×List Nat)
 | _,[]=>[]
 | i,e::es=>if e.k=1 then (i,(W.getD e.l.toNat []).filter fun w=>decide ((all.getD w ev0).v=e.v))::rdsG all W (i+1) es else rdsG all W (i+1) es
def zql (init:List UInt8) (Ps:List PathD):ExD :=
 let x:=asR 0 Ps { ex0 (zo1 init.length Ps) with ev:=zbG 0 init }
 { x with po:=poR x.ev }
def zbV (x:ExD) (locs:Nat):MixD :=
 let W:=wrsG 0 x.ev (List.replicate locs [])
 ⟨x,rdsG x.ev W 0 x.ev,W⟩
def mixR (init:List UInt8) (Ps:List PathD):Option MixD:=if zo1 init.length Ps<=48 then some (zbV (zql init Ps) init.length) else none
def cntS (lim:Nat):List (List Nat)->Nat->Option Nat
 | [],n=>some n
 | f::fs,n=>if f=[] then none else cntS lim fs (min (n*f.length) lim)
def cntK (lim len:Nat):Nat->Nat->Nat->Nat
 | 0,_,n=>n
 | m+1,k,n=>if k<len then cntK lim len m (k+1) (min (n*k) lim) else n
def cntW (lim:Nat):List (List Nat)->Nat->Nat
 | [],n=>n
 | l::ls,n=>cntW lim ls (cntK lim l.length l.length 2 n)
def cntR (m:MixD) (lim:Nat):Nat:=match cntS lim (m.rs.map (·.2)) 1 with
 | none=>0
 | some n=>cntW lim m.wr n
def zcF (w:List Nat):List (List Nat) :=
 let l:=ordR (zh4 w.length 1 (zdA (allM w.length) 1))
 if l.length<=10000 then l.map fun o=>o.map fun k=>w.getD k 0 else []
def znM:List Nat->(Nat->Nat)->Nat->(Nat->Nat)
 | [],f,_=>f
 | a::l,f,b=>znM l (upd f a b) (b|||2^a)
def zdd (l:List Nat) (r:RelD):RelD:=⟨r.n,znM l.reverse r.to 0⟩
def rfF:List (Nat×List Nat)->List Nat->(Nat->Nat)->Nat->Nat
 | [],_,f=>f
 | (r,s)::rs,ds,f=>rfF rs ds.tail (upd f (s.getD (ds.headD 0) 0) (f (s.getD (ds.headD 0) 0)|||2^r))
def coG (ev:List Ev):Nat->List (List (List Nat))->List Nat->RelD×(Nat->UInt8)->RelD×(Nat->UInt8)
 | _,[],_,p=>p
 | l,R::Rs,ds,p=>coG ev (l+1) Rs ds.tail (zdd (R.getD (ds.headD 0) []) p.1,upd p.2 l (ev.getD ((R.getD (ds.headD 0) []).getLastD 0) ev0).v)
def zc5 (m:MixD) (ds:List Nat):ExD :=
 let c:=coG m.base.ev 0 (m.wr.map zcF) (ds.drop m.rs.length) (m.base.co,m.base.mem)
 { m.base with rf:=⟨m.base.rf.n,rfF m.rs ds m.base.rf.to⟩,co:=c.1,mem:=c.2 }
def zc2 (m:MixD):List Nat:=m.rs.map (fun r=>r.2.length)++m.wr.map fun w=>(zcF w).length
def zgF (m:MixD):List ExD:=(zdV (zc2 m)).map (zc5 m)
def zd6 (Ts:List (List PathD)):List Nat->List PathD
 | []=>[]
 | d::ds=>match Ts with
  | []=>[]
  | T::Ts=>(match T[d]? with | some P=>[P] | none=>[])++zd6 Ts ds
theorem zms:∀ (rs:List Nat) (j:Nat),(∀ n∈rs,n≠0)->∀ (i n d:Nat),rs[i]?=some n->(digL rs j)[i]?=some d->d<n
 | [],_,_,_,_,_,h,_=>by simp at h
 | m::rs,j,h0,0,n,d,h,hd=>by
  have h:m=n:=by simpa using h
  have hd:j%m=d:=by simpa [digL] using hd
  subst h;subst hd;exact Nat.mod_lt _ (Nat.pos_of_ne_zero (h0 m (by simp)))
 | m::rs,j,h0,i+1,n,d,h,hd=>zms rs (j/m) (fun n hn=>h0 n (by simp [hn])) i n d (by simpa using h) (by simpa [digL] using hd)
theorem zmr {sizes ds:List Nat} (h:ds∈zdV sizes):ds.length=sizes.length/\∀ (i n d:Nat),sizes[i]?=some n->ds[i]?=some d->d<n:=by
 unfold zdV at h;obtain⟨j,hj,rfl⟩:=List.mem_map.1 h;have hj:=List.mem_range.1 hj;have h0:∀ n∈sizes.reverse,n≠0:=fun n hn e=>by
  subst e;rw [zeu hn] at hj;omega
 have hl:(digL sizes.reverse j).length=sizes.length:=by rw [zfe,List.length_reverse]
 refine⟨by rw [List.length_reverse,hl],fun i n d hn hd=>?_⟩;have hi:i<sizes.length:=(List.getElem?_eq_some_iff.1 hn).1;have e1:=List.getElem?_reverse (l:=sizes.reverse) (i:=i) (by simpa using hi);rw [List.reverse_reverse,hn] at e1;have e2:=List.getElem?_reverse (l:=digL sizes.reverse j) (i:=i) (by omega);rw [hd,hl] at e2;rw [List.length_reverse] at e1;exact zms _ _ h0 _ n d e1.symm e2.symm
theorem zjr:∀ (rs:List (Nat×List Nat)) (r:Nat) (s:List Nat) (ds:List Nat) (f:Nat->Nat),rfF (rs++[(r,s)]) ds f=upd (rfF rs ds f) (s.getD (ds.getD rs.length 0) 0) (rfF rs ds f (s.getD (ds.getD rs.length 0) 0)|||2^r)
 | [],r,s,ds,f=>by
  have:ds.getD 0 0=ds.headD 0:=by cases ds <;> rfl
  show upd f (s.getD (ds.headD 0) 0) _=_;rw [<- this];rfl
 | (r',s')::rs,r,s,ds,f=>by
  have e:ds.getD (rs.length+1) 0=ds.tail.getD rs.length 0:=by
   cases ds with
   | nil=>simp
   | cons a ds=>simp
  show rfF (rs++[(r,s)]) ds.tail _=_;rw [zjr rs r s ds.tail];show _=upd (rfF rs ds.tail _) (s.getD (ds.getD (rs.length+1) 0) 0) (rfF rs ds.tail _ (s.getD (ds.getD (rs.length+1) 0) 0)|||2^r);rw [e]
abbrev ziM (ev:List Ev) (rk:List Nat):UInt8:=(ev.getD (rk.getLastD 0) ev0).v
theorem zjW (ev:List Ev):∀ (Rs:List (List (List Nat))) (R:List (List Nat)) (l:Nat) (ds:List Nat) (p:RelD×(Nat->UInt8)),
  coG ev l (Rs++[R]) ds p=(zdd (R.getD (ds.getD Rs.length 0) []) (coG ev l Rs ds p).1,upd (coG ev l Rs ds p).2 (l+Rs.length) (ziM ev (R.getD (ds.getD Rs.length 0) [])))
 | [],R,l,ds,p=>by
  have:ds.getD 0 0=ds.headD 0:=by cases ds <;> rfl
  show (zdd (R.getD (ds.headD 0) []) p.1,upd p.2 l _)=_;rw [<- this];rfl
 | R'::Rs,R,l,ds,p=>by
  have e:ds.getD (Rs.length+1) 0=ds.tail.getD Rs.length 0:=by
   cases ds with
   | nil=>simp
   | cons a ds=>simp
  show coG ev (l+1) (Rs++[R]) ds.tail _=_;rw [zjW ev Rs R (l+1) ds.tail];show _=(zdd (R.getD (ds.getD (Rs.length+1) 0) []) _,upd _ (l+(Rs.length+1)) (ziM ev (R.getD (ds.getD (Rs.length+1) 0) [])));rw [e,show l+1+Rs.length=l+(Rs.length+1) by omega];rfl
def wrdB (r:RelD):Bool:=(List.range 48).all fun i=>decide (r.to i<2^64)
def zpt (m:MixD):Bool :=
 decide (m.base.ev.length<=48)&&(decide (m.rs.length<=48)&&(decide (m.wr.length<=6)&&(wrdB m.base.rf&&(wrdB m.base.co &&
  ((m.rs.all fun r=>decide (r.1<48)&&(decide (r.2.length<=1000)&&r.2.all fun s=>decide (s<48))) &&
   (m.wr.all fun w=>decide (w.length<=48)&&(decide ((zcF w).length<=10000)&&(zcF w).all fun k=>decide (k≠[])&&(decide (k.length<=48)&&k.all fun a=>decide (a<m.base.ev.length)))))))))
structure MixB (m:MixD):Prop where
 ev:m.base.ev.length<=48
 rl:m.rs.length<=48
 wl:m.wr.length<=6
 rf:∀ i,i<48->m.base.rf.to i<2^64
 co:∀ i,i<48->m.base.co.to i<2^64
 rs:∀ r∈m.rs,r.1<48/\r.2.length<=1000/\∀ s∈r.2,s<48
 wr:∀ w∈m.wr,w.length<=48/\(zcF w).length<=10000/\∀ k∈zcF w,k≠[]/\k.length<=48/\∀ a∈k,a<m.base.ev.length
theorem zpu {m:MixD} (h:zpt m=true):MixB m:=by
 unfold zpt wrdB at h;simp only [bAT,dE,List.all_eq_true,List.mem_range] at h;obtain⟨h1,h2,h3,h4,h5,h6,h7⟩:=h;exact⟨h1,h2,h3,h4,h5,h6,h7⟩
def zet (a b : RelD) : Bool := decide (a.n = b.n) && (List.range 48).all fun i => decide (a.to i = b.to i)
def zcp (ev : List Ev) : Nat := (ev.takeWhile fun e => decide (e.th = -1)).length
def evGo (locs : Nat) : Nat → List Ev → Int → Nat → Bool
  | _, [], _, _ => true
  | i, e :: es, t, n =>
    if i < locs then (if e = ⟨-1, 2, UInt8.ofNat i, e.v, 0, 0, 0⟩ then evGo locs (i + 1) es t n else false)
    else if e.th < t ∨ 4 ≤ e.th then false
    else
      let t' := if t < e.th then e.th else t
      let n' := if t < e.th then 0 else n
      if e.p.toNat = n' then
        (if e.k = 1 ∨ e.k = 2 then (if e.l.toNat < locs then evGo locs (i + 1) es t' (n' + 1) else false)
         else if e.k = 3 then (if e.l = 0 ∧ e.v = 0 then evGo locs (i + 1) es t' (n' + 1) else false)
         else false)
      else false
def zbx (ev : List Ev) (locs : Nat) : Bool := evGo locs 0 ev 0 0
def evA (x : ExD) (i : Nat) : Ev := x.ev.getD i ev0
def zfo (x : ExD) (s : Nat) (e : Ev) : Bool :=
  if e.k = 1 then (if s = 0 then false else
    (if s = 2 ^ ctz s then decide ((evA x (ctz s)).k = 2) && (decide ((evA x (ctz s)).l = e.l) && decide ((evA x (ctz s)).v = e.v)) else false))
  else decide (s = 0)
def zc8 (x : ExD) : Bool := (List.range x.ev.length).all fun i => zfo x ((zbw x.rf).to i) (evA x i)
def zb7 (key : Nat → Nat) : List Nat → Nat → List Nat
  | [], x => [x]
  | y :: r, x => if key y < key x then y :: zb7 key r x else x :: y :: r
def zf7 (key : Nat → Nat) (l : List Nat) : List Nat := (l.foldl (fun acc x => zb7 key acc x) []).reverse
def lenS (s : Nat) : Nat := (els s).length
def zfj (x : ExD) (l : Nat) : List Nat := (List.range x.ev.length).filter fun i => decide ((evA x i).k = 2) && decide ((evA x i).l.toNat = l)
def za1 (x : ExD) (l : Nat) : List Nat := zf7 (fun i => lenS (x.co.to i)) (zfj x l)
def coGo (x : ExD) : Nat → Nat → RelD × (Nat → UInt8) → Option (RelD × (Nat → UInt8))
  | 0, _, p => some p
  | n + 1, l, p => if (za1 x l).headD 48 = l then coGo x n (l + 1) (zdd (za1 x l) p.1, upd p.2 l (ziM x.ev (za1 x l))) else none
def zdg (x : ExD) (locs : Nat) : Bool := match coGo x locs 0 (⟨x.ev.length, fun _ => 0⟩, fun _ => 0) with
  | none => false
  | some p => zet p.1 x.co && (List.range 6).all fun l => decide (p.2 l = x.mem l)
def zos (x : ExD) : Nat := (List.range x.ev.length).foldl (fun s i => if (evA x i).k = 2 then s ||| 2 ^ i else s) 0
def zi0 (x : ExD) (W : Nat) : Nat → List Ev → Nat → Bool
  | _, [], _ => true
  | i, e :: es, h =>
    let d := x.dt.to i
    let c := x.ct.to i
    let r := x.rm.to i
    if d ||| c ||| r = 0 then zi0 x W (i + 1) es h
    else if e.k = 1 ∧ zdA (d ||| r) W = 0 ∧ zdA (d ||| c ||| r) (x.po.to i) = 0 then
      (if r = 0 then zi0 x W (i + 1) es h
       else if r = 2 ^ ctz r ∧ h.testBit (ctz r) = false ∧ (evA x (ctz r)).l = e.l then zi0 x W (i + 1) es (h ||| r) else false)
    else false
def zcC (x : ExD) : Bool := zi0 x (zos x) 0 x.ev 0
def zcJ (x : ExD) : Bool := [x.po, x.rf, x.co, x.dt, x.ct, x.rm].all fun r => decide (r.n = x.ev.length) && okR r
def zcA (x : ExD) : Bool :=
  decide (x.ev.length ≤ 48) && (decide (1 ≤ zcp x.ev) && (decide (zcp x.ev ≤ 6) && (zbx x.ev (zcp x.ev) && (zcJ x && (zet x.po (poR x.ev) && (zc8 x && (zdg x (zcp x.ev) && zcC x)))))))
def isR (x : ExD) (i : Nat) : Bool := decide ((evA x i).k = 1)
def isW (x : ExD) (i : Nat) : Bool := decide ((evA x i).k = 2)
def accA (x : ExD) (i : Nat) : Bool := isR x i || isW x i
def hasM (r : RelD) (a b : Nat) : Bool := (r.to a).testBit b
def rowP (n : Nat) (p : Nat → Bool) : Nat := (List.range n).foldl (fun s b => if p b = true then s ||| 2 ^ b else s) 0
def zdP (n : Nat) (p : Nat → Nat → Bool) : RelD := zcb n fun a => rowP n (p a)
def zaV (r : RelD) (l : List RelD) : RelD := l.foldl (fun r o => (zeP r o).1) r
def frM (x : ExD) : RelD := (zbJ (zbw x.rf) x.co).1
def zdM (x : ExD) (a b : Nat) : Bool := accA x a && (accA x b && decide ((evA x a).l = (evA x b).l))
def extM (x : ExD) (r : RelD) : RelD := zdP r.n.toNat fun a b => hasM r a b && !decide ((evA x a).th = (evA x b).th)
def zcG (x : ExD) (md : UInt8) : Nat := ((List.range x.ev.length).filter fun i => decide ((evA x i).k = 3) && decide ((evA x i).m = md)).foldl (fun s i => s ||| 2 ^ i) 0
def zaB (x : ExD) (md : UInt8) : RelD := (zbJ (zbJ x.po (idR x.ev.length (zcG x md))).1 x.po).1
def zaE (x : ExD) (a : Nat) (md : UInt8) : Bool := decide ((evA x a).m = md) || decide ((evA x a).m = 3)
def zcc (x : ExD) (f : RelD) (a b : Nat) : Bool := hasM f a b || (zaE x a 3 || zaE x b 3)
def zg7 (m : Nat) (x : ExD) (f l s : RelD) (a b : Nat) : Bool :=
  match m with
  | 1 => false
  | 2 => true
  | 3 => isR x a || (isW x b || zcc x f a b)
  | 4 => isR x a || (zcc x f a b || (isW x b && (zdM x a b || hasM s a b)))
  | 5 => (isR x a && (zaE x a 1 || hasM l a b)) || ((isW x b && (zaE x b 2 || hasM s a b)) || hasM f a b)
  | 6 => hasM x.dt a b || ((hasM x.ct a b && isW x b) || (hasM x.rm a b || (hasM f a b || ((hasM l a b && (isR x a && isR x b)) || (hasM s a b && (isW x a && isW x b))))))
  | _ => false
def zdB (m : Nat) (x : ExD) : RelD := zdP x.ev.length fun a b => hasM x.po a b && (accA x a && (accA x b && zg7 m x (zaB x 3) (zaB x 4) (zaB x 5) a b))
def zdb (x : ExD) : RelD := zdP x.ev.length fun a b => hasM x.po a b && zdM x a b
def zdW (m : Nat) (x : ExD) : Nat :=
  if acyR (zaV (zdb x) [x.rf, x.co, frM x]) = true then
    (if zdJ (zdi x.rm (zbJ (frM x) x.co).1).1 = true then
      (if m = 1 then 0 else if acyR (zaV (zdB m x) [if m = 2 then x.rf else extM x x.rf, x.co, frM x]) = true then 0 else 3)
     else 2)
  else 1
def zc3 (m : Nat) : Bool := decide (1 ≤ m) && decide (m ≤ 6)
def zgx (m : Nat) (x : ExD) : Bool := zc3 m && (zcA x && decide (zdW m x = 0))
def zd4 (ns:List Nat):Nat:=ns.foldl (· * ·) 1
theorem zgl (ns:List Nat) (n:Nat):zd4 (ns++[n])=zd4 ns*n:=by
 unfold zd4;rw [List.foldl_append];rfl
def zlW (init:List UInt8) (Ts:List (List PathD)):List MixD:=(zdV (Ts.map List.length)).filterMap fun ds=>mixR init (zd6 Ts ds)
theorem zgm:∀ (Ts:List (List PathD)) (ds:List Nat) (T:List PathD) (d:Nat),Ts.length=ds.length->zd6 (Ts++[T]) (ds++[d])=zd6 Ts ds++(match T[d]? with | some P=>[P] | none=>[])
 | [],[],T,d,_=>by
  show (match T[d]? with | some P=>[P] | none=>[])++[]=_;rw [List.append_nil];rfl
 | [],_::_,_,_,h=>by simp at h
 | _::_,[],_,_,h=>by simp at h
 | A::Ts,e::ds,T,d,h=>by
  show (match A[e]? with | some P=>[P] | none=>[])++zd6 (Ts++[T]) (ds++[d])=((match A[e]? with | some P=>[P] | none=>[])++zd6 Ts ds)++_;rw [zgm Ts ds T d (by simpa using h),List.append_assoc]
theorem zkw (ns:List Nat) (n:Nat):za2 (ns++[n])=za2 ns*n:=by
 rw [zd5];show _*(n*1)=_;rw [Nat.mul_one]
theorem zhY:∀ (ns:List Nat) (a:Nat),ns.foldl (· * ·) a=a*za2 ns
 | [],a=>(Nat.mul_one a).symm
 | n::ns,a=>by
  show ns.foldl (· * ·) (a*n)=a*(n*za2 ns);rw [zhY ns,Nat.mul_assoc]
theorem zlE:∀ ns:List Nat,za2 ns.reverse=zd4 ns:=fun ns=>by
 have h:∀ l:List Nat,za2 l.reverse=za2 l:=fun l=>by
  induction l with
  | nil=>rfl
  | cons n l ih =>
   rw [List.reverse_cons,zkw,ih];exact Nat.mul_comm _ _
 rw [h];unfold zd4;rw [zhY,Nat.one_mul]
end Go.Sei
