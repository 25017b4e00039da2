/- Contracts of functions, and plain facts, for the law that the last text of this claim proves. -/
import Derived.Test.YtkpkdmipjinoaaaGreatDoorA2
import Derived.Laws.BytesArg
import Derived.Laws.Strings
import Derived.Test.YtkpkdmipjinoaaaGreatDoorA1
set_option linter.unusedSimpArgs false
set_option linter.unusedVariables false
namespace Go.Proofs.YtkpkdmipjinoaaaGreatDoor
open Go.Vc Go.RowKit Go.Sei
def bs (l:List UInt8):ByteArray:=⟨l.toArray⟩
def strV (l:List UInt8):Value := .string (bs l)
theorem znC (l:List UInt8):(bs l).data.toList=l:=rfl
theorem zsw {a b:List UInt8} (h:bs a=bs b):a=b:=by
 have:=congrArg (fun x:ByteArray=>x.data.toList) h;exact this
theorem zay (x y:Operand) (a b:List UInt8) (w:World):(do eqGuard .eql 9 x y (strV a) (strV b);binOp .eql 9 (strV a) (strV b)).run Tryz.prog w = .ok (.bool (decide (a=b))) w:=by
 have h1:(eqGuard .eql 9 x y (strV a) (strV b)).run Tryz.prog w = .ok () w:=rfl;rw [Sem.run_bind,h1,Result.andThen_ok];show (Op.stringOp .eql (bs a) (bs b)).run Tryz.prog w=_;simp only [Op.stringOp,Sem.run_pure,ByteArray.toList_eq,znC];have hd:(a == b)=decide (a=b):=by by_cases h:a=b <;> simp [h]
 rw [hd]
theorem zfY (x y:Operand) (a b:List UInt8) (w:World):(do eqGuard .neq 9 x y (strV a) (strV b);binOp .neq 9 (strV a) (strV b)).run Tryz.prog w = .ok (.bool (!decide (a=b))) w:=by
 have h1:(eqGuard .neq 9 x y (strV a) (strV b)).run Tryz.prog w = .ok () w:=rfl;rw [Sem.run_bind,h1,Result.andThen_ok];show (Op.stringOp .neq (bs a) (bs b)).run Tryz.prog w=_;simp only [Op.stringOp,Sem.run_pure,ByteArray.toList_eq,znC];have hd:(a == b)=decide (a=b):=by by_cases h:a=b <;> simp [h]
 rw [hd]
theorem zh4 (l:List UInt8):strOfNums (l.map fun b=>(b.toNat:Int))=bs l:=by
 unfold strOfNums bs;congr 2;rw [List.map_map]
 conv=>rhs;rw [<- List.map_id l]
 refine List.map_congr_left fun b _=>?_;simp
theorem zoT {w:World} {p:Option Addr} {cap:Nat} {l:List UInt8} (h:SlR zaM w p l) (w2:World) (hb:Bw w w2) :
  (convert 80 9 (.slice p l.length cap)).run Tryz.prog w2 = .ok (strV l) w2:=by
 have h2:=h.below hb
 cases p with
 | none =>
  have hl:l=[]:=h2.none;subst hl;exact run_convert_bytes_nil (P:=Tryz.prog) (w:=w2) 80 5 Tryz.underlying80 Tryz.underlying5 0 cap 9 Tryz.underlying9
 | some a =>
  cases l with
  | nil =>
   obtain⟨b,o,f⟩:=a;have:=run_convert_bytes_string w2 80 9 5 (some ⟨b,o,f⟩) 0 cap Tryz.underlying80 Tryz.underlying5 Tryz.underlying9;rw [show ([]:List UInt8).length=0 from rfl,this];rfl
  | cons x r =>
   obtain⟨b,o,hp,hbk,hcl⟩:=h2.at (i:=0) (by simp);obtain rfl:=Option.some.inj hp;have:=run_convert_bytes_arg (P:=Tryz.prog) w2 80 5 Tryz.underlying80 Tryz.underlying5 b o (x::r).length cap ((x::r).map fun b=>(b.toNat:Int)) (by simp) (fun i hi=>by
    have h3:w2.cell? ⟨b,o+i*1,none⟩=some (u8 ((x::r)[i]'hi)):=zgY (hcl i hi);rw [Nat.mul_one] at h3;have h4:((x::r).map fun b=>(b.toNat:Int)).getD i 0=(((x::r)[i]'hi).toNat:Int):=by
     rw [gDe,List.getElem?_map,gE hi];rfl
    rw [h3,h4];rfl) 9 Tryz.underlying9
   rw [this,zh4];rfl
def namE:Enc (List UInt8):=⟨fun l=>[strV l],1,fun _=>rfl,by decide,fun a u hu=>by
 simp only [List.mem_cons,List.not_mem_nil,or_false] at hu;subst hu;rfl⟩
def insE:Enc InsD:=⟨fun x=>[u8 x.op,u8 x.dst,u8 x.loc,.bool x.ar,u8 x.an,.bool x.br,u8 x.bn,u8 x.fn,u8 x.mode,u8 x.skip],10,fun _=>rfl,by decide,fun a u hu=>by
 simp only [List.mem_cons,List.not_mem_nil,or_false] at hu;rcases hu with rfl | rfl | rfl | rfl | rfl | rfl | rfl | rfl | rfl | rfl <;> rfl⟩
abbrev ThrR:=List InsD×Option Addr×Nat
def thrV (x:ThrR):Value := .slice x.2.1 x.1.length x.2.2
def thrE:Enc ThrR:=⟨fun x=>[thrV x],1,fun _=>rfl,by decide,fun a u hu=>by
 simp only [List.mem_cons,List.not_mem_nil,or_false] at hu;subst hu;rfl⟩
def zcX (c:Cnd) (p:Option Addr) (cap:Nat):List Value:=[u8 c.kind,u8 c.thread,u8 c.n,u8 c.val,.slice p c.kids.length cap]
inductive KidsV (B:Nat) (w:World):Option Addr->List Cnd->Prop
 | mk (p:Option Addr) (kids:List Cnd) (hn:kids.length*32<=140737488351232) (b o:Nat) (hp:kids.length=0\/p=some ⟨b,o,none⟩) (q:Nat->Option Addr) (c:Nat->Nat)
   (hk:∀ i (h:i<kids.length),b<B/\zav w ⟨b,o+i*5,none⟩ (zcX kids[i] (q i) (c i)))
   (ht:∀ i (h:i<kids.length),KidsV B w (q i) kids[i].kids):KidsV B w p kids
theorem KidsV.inv {B:Nat} {w:World} {p:Option Addr} {kids:List Cnd} (h:KidsV B w p kids):kids.length*32<=140737488351232/\∃ b o,(kids.length=0\/p=some ⟨b,o,none⟩) /\
  ∀ i (h:i<kids.length),∃ q c,b<B/\zav w ⟨b,o+i*5,none⟩ (zcX kids[i] q c)/\KidsV B w q kids[i].kids:=by
 cases h with
 | mk _ _ hn b o hp q c hk ht=>exact⟨hn,b,o,hp,fun i hi=>⟨q i,c i,(hk i hi).1,(hk i hi).2,ht i hi⟩⟩
theorem KidsV.kept {B:Nat} {w w2:World} {p:Option Addr} {kids:List Cnd} (h:KidsV B w p kids) (hb:Below B w w2):KidsV B w2 p kids:=by
 induction h with
 | mk p kids hn b o hp q c hk ht ih=>exact .mk p kids hn b o hp q c (fun i hi=>⟨(hk i hi).1,zbb hb (hk i hi).1 (hk i hi).2⟩) ih
theorem KidsV.wider {B B':Nat} {w:World} {p:Option Addr} {kids:List Cnd} (h:KidsV B w p kids) (hb:B<=B'):KidsV B' w p kids:=by
 induction h with
 | mk p kids hn b o hp q c hk ht ih=>exact .mk p kids hn b o hp q c (fun i hi=>⟨nL (hk i hi).1 hb,(hk i hi).2⟩) ih
def ThrsV (B:Nat) (w:World) (p:Option Addr) (l:List (List InsD)):Prop:=∃ xs:List ThrR,xs.map (·.1)=l/\RowB thrE B w p xs/\∀ x∈xs,RowB insE B w x.2.1 x.1
theorem ThrsV.below {B:Nat} {w w2:World} {p:Option Addr} {l:List (List InsD)} (h:ThrsV B w p l) (hb:Below B w w2):ThrsV B w2 p l:=by
 obtain⟨xs,h1,h2,h3⟩:=h;exact⟨xs,h1,h2.below hb,fun x hx=>(h3 x hx).below hb⟩
theorem ThrsV.mono {B B':Nat} {w:World} {p:Option Addr} {l:List (List InsD)} (h:ThrsV B w p l) (hb:B<=B'):ThrsV B' w p l:=by
 obtain⟨xs,h1,h2,h3⟩:=h;exact⟨xs,h1,h2.mono hb,fun x hx=>(h3 x hx).mono hb⟩
def zb2 (p:Prg) (p1:Option Addr) (c1:Nat) (p2:Option Addr) (c2:Nat) (p3:Option Addr) (c3:Nat) (p4:Option Addr) (c4:Nat):List Value :=
 [strV p.name,.slice p1 p.locs.length c1,.slice p2 p.init.length c2,.slice p3 p.threads.length c3,u8 p.ask,u8 p.cond.kind,u8 p.cond.thread,u8 p.cond.n,u8 p.cond.val,.slice p4 p.cond.kids.length c4]
structure PrgLen (p:Prg):Prop where
 name:p.name.length<=140737488351232
 locs:p.locs.length<=140737488351232
 loc:∀ s∈p.locs,s.length<=140737488351232
 init:p.init.length<=140737488351232
 threads:p.threads.length<=140737488351232
 thread:∀ l∈p.threads,l.length<=140737488351232
structure PrgV (B:Nat) (w:World) (vs:List Value) (p:Prg):Prop where
 len:PrgLen p
 h:∃ p1 c1 p2 c2 p3 c3 p4 c4,vs=zb2 p p1 c1 p2 c2 p3 c3 p4 c4/\RowB namE B w p1 p.locs/\RowB zaM B w p2 p.init/\ThrsV B w p3 p.threads/\KidsV B w p4 p.cond.kids/\p.locs.length<=c1
theorem PrgV.below {B:Nat} {w w2:World} {vs:List Value} {p:Prg} (h:PrgV B w vs p) (hb:Below B w w2):PrgV B w2 vs p:=by
 obtain⟨p1,c1,p2,c2,p3,c3,p4,c4,h0,h1,h2,h3,h4,h5⟩:=h.h;exact⟨h.len,p1,c1,p2,c2,p3,c3,p4,c4,h0,h1.below hb,h2.below hb,h3.below hb,h4.kept hb,h5⟩
theorem PrgV.mono {B B':Nat} {w:World} {vs:List Value} {p:Prg} (h:PrgV B w vs p) (hb:B<=B'):PrgV B' w vs p:=by
 obtain⟨p1,c1,p2,c2,p3,c3,p4,c4,h0,h1,h2,h3,h4,h5⟩:=h.h;exact⟨h.len,p1,c1,p2,c2,p3,c3,p4,c4,h0,h1.mono hb,h2.mono hb,h3.mono hb,h4.wider hb,h5⟩
theorem PrgV.size {B:Nat} {w:World} {vs:List Value} {p:Prg} (h:PrgV B w vs p):vs.length=10:=by
 obtain⟨p1,c1,p2,c2,p3,c3,p4,c4,rfl,_⟩:=h.h;rfl
theorem w8N (u:Nat):IntKind.u8.wrap (u:Int)=((UInt8.ofNat u).toNat:Int):=by
 rw [UInt8.toNat_ofNat'];unfold IntKind.wrap;simp only [IntKind.bits,IntKind.signed,Bool.false_and,Bool.false_eq_true,if_false];omega
abbrev RunH (X:World) (b:Nat) (R:RunD):Prop:=X.heap[b]?=some (.cells (runC R).toArray 316 (0,0))
abbrev AtR (b:Nat):Value:=At0 b
section
variable {R:RunD} {b:Nat} {w:World}
theorem zni {k l v m:UInt8} {d:Nat} (f:RunH w b R) (hm:R.many<24):Calls Tryz.prog 333 #[AtR b,u8 k,u8 l,u8 v,u8 m,s32 d] w fun e w' =>
  e = .returned (i64 R.many)/\RunH w' b (zeL R k l v m d)/\w.grownBy w' (some b)/\w'.heap.size=w.heap.size:=by
 refine cofE 58 [AtR b,u8 k,u8 l,u8 v,u8 m,s32 d] Tryz.func333 ?_;refine⟨_,zac (zaa f) (i:=18) (zdg R),?_⟩;refine DrawE.ord [17] [0,1,2,3,4,5,6,7,8,9,10,11,12,13,14,15,16,17] (by kernel_rfl) ?_;refine⟨_,zac (zaa (hdr f)) (i:=0) rfl,?_⟩;refine⟨_,w8N _,?_⟩;refine⟨_,w8N _,?_⟩;obtain⟨ev,hev⟩:∃ ev:Ev,ev=⟨0,k,l,v,m,UInt8.ofNat R.pc,UInt8.ofNat R.many⟩:=⟨_,rfl⟩;refine⟨evE.enc ev,by rw [hev];rfl,?_⟩;refine⟨R.many,rfl,hm,?_⟩;refine zbs k208 (hdr f) (o:=0+19+R.many*7) (v := .agg (evE.enc ev).toArray) rfl (by
  show 0+19+R.many*7+7<=(runC R).length;rw [zcu];omega) rfl fun Y fY gY sY=>?_
 have fY:RunH Y b { R with ev:=upd R.ev R.many ev }:=by
  show Y.heap[b]?=some (.cells (runC { R with ev:=upd R.ev R.many ev }).toArray 316 (0,0));rw [<- zkW R hm ev,fY,Nat.zero_add];rfl
 refine⟨R.many,rfl,hm,?_⟩;refine zaq k311 fY (o:=0+187+R.many*1) (v:=s32 d) rfl rfl (by rw [zcu];omega) rfl fun Z fZ gZ sZ=>?_;rw [Nat.zero_add,Nat.mul_one,zie _ hm] at fZ;refine DrawE.ord [9] [0,1,2,3,4,5,6,7,8,9] (by kernel_rfl) ?_;refine⟨_,zac (zaa (hdr fZ)) (i:=17) (zpW _),?_⟩;refine⟨R.many,rfl,hm,?_⟩;refine zaq k311 (hdr fZ) (o:=0+211+R.many*1) (v:=s32 R.ctl) rfl rfl (by rw [zcu];omega) rfl fun U fU gU sU=>?_;rw [Nat.zero_add,Nat.mul_one,zif _ hm] at fU;refine⟨_,zac (zaa fU) (i:=18) (zdg _),?_⟩;refine⟨((R.many+1:Nat):Int),(zai (by show _<=((R.many:Nat):Int)+1/\((R.many:Nat):Int)+1<=_;omega)).trans rfl,?_⟩;refine zaq k3 fU (o:=0+18) (v:=i64 (R.many+1:Nat)) rfl rfl (by rw [zcu];decide) rfl fun V fV gV sV=>?_;rw [Nat.zero_add,zid] at fV;have gd:w.grownBy w.drew (some b):=⟨rfl,rfl,rfl,Nat.le_refl _,fun _ _ _=>rfl⟩;have gd2:Z.grownBy Z.drew (some b):=⟨rfl,rfl,rfl,Nat.le_refl _,fun _ _ _=>rfl⟩;refine⟨rfl,?_,zaf (zaf (zaf (zaf gd gY) gZ) (zaf gd2 gU)) gV,?_⟩
 ·unfold zeL;rw [<- hev];exact fV
 ·rw [sV,sU];show Z.heap.size=_;rw [sZ,sY];rfl
theorem zs1 {d v:UInt8} {s:Nat} (f:RunH w b R) (hd:d.toNat<8):Calls Tryz.prog 334 #[AtR b,u8 d,u8 v,s32 s] w fun e w' =>
  e = .returned (.tuple #[])/\RunH w' b (setR R d v s)/\w.grownBy w' (some b)/\w'.heap.size=w.heap.size:=by
 refine cofE 20 [AtR b,u8 d,u8 v,s32 s] Tryz.func334 ?_;refine⟨d.toNat,rfl,hd,?_⟩;refine zaq k5 f (o:=0+1+d.toNat*1) (v:=u8 v) rfl rfl (by rw [zcu];omega) rfl fun Y fY gY sY=>?_;rw [Nat.zero_add,Nat.mul_one,zi6 _ hd] at fY;refine⟨d.toNat,rfl,hd,?_⟩;refine zaq k311 fY (o:=0+9+d.toNat*1) (v:=s32 s) rfl rfl (by rw [zcu];omega) rfl fun Z fZ gZ sZ=>?_;rw [Nat.zero_add,Nat.mul_one,zi7 _ hd] at fZ;exact⟨rfl,fZ,zaf gY gZ,sZ.trans sY⟩
theorem zpE {r:Bool} {n:UInt8} (f:RunH w b R) (hn:r=true->n.toNat<8):Calls Tryz.prog 335 #[AtR b,.agg #[.bool r,u8 n]] w fun e w' =>
  e = .returned (.tuple #[u8 (valR r n R).1,s32 (valR r n R).2])/\Bw w w':=by
 refine cofE 24 [AtR b,.agg #[.bool r,u8 n]] Tryz.func335 ?_;have f0:=hnew w (.cells #[.bool r,u8 n] 91);have hb:Bw w (w.alloc (.cells #[.bool r,u8 n] 91)):=zba w _;refine⟨_,zac (zaa f0) (i:=0) rfl,?_⟩;refine biE (fun h=>?_) fun h=>?_
 ·have hn8:=hn h;have fr:=zab hb f;refine DrawE.ord [] [0,1,2,3,4,5,6,7,8,9,10,11,12,13,14,15] (by kernel_rfl) ?_;refine⟨_,zac (zaa (hdr f0)) (i:=1) rfl,?_⟩;refine⟨n.toNat,rfl,hn8,?_⟩;refine⟨_,by rw [Nat.mul_one,Nat.add_assoc];exact zac (zaa (hdr fr)) (zpU R hn8),?_⟩;refine⟨_,zac (zaa (hdr f0)) (i:=1) rfl,?_⟩;refine⟨n.toNat,rfl,hn8,?_⟩;refine⟨_,by rw [Nat.mul_one,Nat.add_assoc];exact zac (zaa (hdr fr)) (zpV R hn8),?_⟩;refine⟨?_,hb.trans ((Below.refl _ _).drew)⟩;unfold valR;rw [if_pos h];rfl
 ·refine⟨_,zac (zaa f0) (i:=1) rfl,?_⟩;refine⟨?_,hb⟩;unfold valR;rw [if_neg (by rw [h];exact Bool.false_ne_true)];rfl
end
abbrev insV (x:InsD):Value := .agg (insE.enc x).toArray
section
variable {R:RunD} {b:Nat} {w:World}
theorem zmb {x:InsD} {v:UInt8} (f:RunH w b R) (hm:R.many<24) (hd:x.dst.toNat<8):Calls Tryz.prog 322 #[AtR b,insV x,u8 v] w fun e w' =>
  e = .returned (.tuple #[])/\RunH w' b (zrX R x v)/\w.grownBy w' (some b):=by
 refine cofE 21 [AtR b,insV x,u8 v] Tryz.func322 ?_;have f0:=hnew w (.cells (insE.enc x).toArray 93);have hb:Bw w (w.alloc (.cells (insE.enc x).toArray 93)):=zba w _;have fr:=zab hb f;have hne:w.heap.size≠b:=fun e=>by have:=hlt f;omega
 refine⟨_,zac (zaa f0) (i:=2) rfl,?_⟩;refine⟨_,zac (zaa f0) (i:=8) rfl,?_⟩;refine cmo (zni (k:=1) (l:=x.loc) (v:=v) (m:=x.mode) (d:=0) fr hm) ?_;rintro e Y ⟨rfl,fY,gY,sY⟩;have f0Y:=(gY.block w.heap.size (hlt f0) (by simpa using hne)).trans f0;refine DrawE.ord [6] [0,1,2,3,4,5,6] (by kernel_rfl) ?_;refine⟨_,zac (zaa (hdr f0Y)) (i:=1) rfl,?_⟩;refine⟨by omega,_,zpD (e:=R.many) (by omega),?_⟩;refine cmo (zs1 (d:=x.dst) (v:=v) (s:=2^R.many) (hdr fY) hd) ?_;rintro e Z ⟨rfl,fZ,gZ,sZ⟩;have gd:Y.grownBy Y.drew (some b):=⟨rfl,rfl,rfl,Nat.le_refl _,fun _ _ _=>rfl⟩;exact⟨rfl,fZ,zaf (zag hb) (zaf gY (zaf gd gZ))⟩
theorem zkX {x:InsD} {v:UInt8} (f:RunH w b R) (hm:R.many<24) (ha:x.ar=true->x.an.toNat<8):Calls Tryz.prog 323 #[AtR b,insV x,u8 v] w fun e w' =>
  e = .returned (.tuple #[])/\RunH w' b (zpg R x)/\w.grownBy w' (some b):=by
 refine cofE 23 [AtR b,insV x,u8 v] Tryz.func323 ?_;have f0:=hnew w (.cells (insE.enc x).toArray 93);have hb:Bw w (w.alloc (.cells (insE.enc x).toArray 93)):=zba w _;have fr:=zab hb f;refine⟨[.bool x.ar,u8 x.an],rfl,zbn (o:=3) (n:=2) f0,hlt f0,?_⟩;refine cmo (zpE fr ha) ?_;rintro e Y ⟨rfl,hbY⟩;have f0Y:=zab hbY f0;have fY:=zab hbY fr;refine⟨_,zac (zaa f0Y) (i:=2) rfl,?_⟩;refine⟨_,zac (zaa f0Y) (i:=8) rfl,?_⟩;refine cmo (zni (k:=2) (l:=x.loc) (v:=(valR x.ar x.an R).1) (m:=x.mode) (d:=(valR x.ar x.an R).2) fY hm) ?_;rintro e Z ⟨rfl,fZ,gZ,sZ⟩;exact⟨rfl,fZ,zaf (zag hb) (zaf (zag hbY) gZ)⟩
theorem zkY {x:InsD} {v:UInt8} (f:RunH w b R) (hm:R.many<24):Calls Tryz.prog 328 #[AtR b,insV x,u8 v] w fun e w' =>
  e = .returned (.tuple #[])/\RunH w' b (zpq R x)/\w.grownBy w' (some b):=by
 refine cofE 10 [AtR b,insV x,u8 v] Tryz.func328 ?_;have f0:=hnew w (.cells (insE.enc x).toArray 93);have hb:Bw w (w.alloc (.cells (insE.enc x).toArray 93)):=zba w _;have fr:=zab hb f;refine⟨_,zac (zaa f0) (i:=8) rfl,?_⟩;refine cmo (zni (k:=3) (l:=0) (v:=0) (m:=x.mode) (d:=0) fr hm) ?_;rintro e Z ⟨rfl,fZ,gZ,sZ⟩;exact⟨rfl,fZ,zaf (zag hb) gZ⟩
end
def ExOk (x:InsD):Prop:=(x.op=1/\x.dst.toNat<8)\/(x.op=2/\(x.ar=true->x.an.toNat<8))\/x.op=7
def fnV (g:Nat):Value := .func (.func g) #[] #[]
def effL:List Value:=[.nilFunc,fnV 322,fnV 323,fnV 324,fnV 325,fnV 326,fnV 327,fnV 328,fnV 329]
theorem znj {w:World}:CB 315 #[] w (.agg effL.toArray):=by
 refine cofE 2 [] Tryz.func315 ?_;have f0:=hnew w (.cells (List.replicate 9 Value.nilFunc).toArray 390);have hb:Bw w (w.alloc (.cells (List.replicate 9 Value.nilFunc).toArray 390)):=zba w _;refine⟨effL,rfl,?_⟩;refine zas (v := .agg effL.toArray) k390 f0 rfl rfl rfl ?_;exact⟨effL,rfl,zaa (zan f0),rfl,zaj hb (Nat.le_refl _) _⟩
section
variable {R:RunD} {b:Nat} {w:World}
theorem ziQ {x:InsD} {v:UInt8} (f:RunH w b R) (hm:R.many<24) (hp:R.pc<=1000) (hx:ExOk x):Calls Tryz.prog 301 #[AtR b,insV x,u8 v] w fun e w' =>
  e = .returned (.tuple #[])/\RunH w' b (zbm R x v)/\w.grownBy w' (some b):=by
 refine cofE 21 [AtR b,insV x,u8 v] Tryz.func301 ?_;have f0:=hnew w (.cells (insE.enc x).toArray 93);obtain⟨W1,hW1⟩:=nm ((w.alloc (.cells (insE.enc x).toArray 93)).drew);have hb:Bw w W1:=by rw [hW1];exact ((zba w _)).drew
 have fr:RunH W1 b R:=zab hb f;have f0:W1.heap[w.heap.size]?=some (.cells (insE.enc x).toArray 93 (0,0)):=by rw [hW1];exact f0
 have hW1':(w.alloc (.cells (Value.agg (insE.enc x).toArray).cells 93)).drew=W1:=hW1.symm;refine DrawE.ord [7] [1,2,4,5,6,0,3,7] (by kernel_rfl) ?_;rw [hW1'];refine⟨_,zac (zaa f0) (i:=0) rfl,?_⟩;refine⟨insE.enc x,rfl,zaa f0,hlt f0,?_⟩;refine cmo znj ?_;rintro e Y ⟨rfl,hbY⟩;refine⟨hbY,?_⟩;have fY:=zab hbY fr;have gY:w.grownBy Y (some b):=zaf (zag hb) (zag hbY);have fin:∀ {S:RunD} {Z:World},RunH Z b S->Y.grownBy Z (some b)->S.pc=R.pc->zbm R x v={ S with pc:=S.pc+1 }->∃ u,Z.cell? ⟨b,0+0,none⟩=some u/\binE Tryz.prog .add 3 (.tmp 17) (.const (i64 1)) u (i64 1) (fun v18=>SatR ((storeVar 3 ⟨b,0+0,none⟩ v18).run Tryz.prog Z) fun _ w'=>(Ending.returned (.tuple #[])=Ending.returned (.tuple #[]))/\RunH w' b (zbm R x v)/\w.grownBy w' (some b)):=by
  intro S Z fZ gZ hpc he;refine⟨_,zac (zaa fZ) (i:=0) rfl,?_⟩;refine⟨((S.pc+1:Nat):Int),(zai (by show _<=((S.pc:Nat):Int)+1/\((S.pc:Nat):Int)+1<=_;omega)).trans rfl,?_⟩;refine zaq k3 fZ (o:=0+0) (v:=i64 (S.pc+1:Nat)) rfl rfl (by rw [zcu];decide) rfl fun V fV gV sV=>?_;rw [Nat.zero_add,zkV] at fV;rw [he];exact⟨rfl,fV,zaf gY (zaf gZ gV)⟩
 rcases hx with ⟨h1,h2⟩ | ⟨h1,h2⟩ | h1
 ·refine⟨1,by rw [h1];rfl,by decide,?_⟩;refine zcR (v:=fnV 322) rfl ?_;refine cmo (zmb fY hm h2) ?_;rintro e Z ⟨rfl,fZ,gZ⟩;exact fin fZ gZ rfl (by unfold zbm effR;rw [if_pos h1])
 ·refine⟨2,by rw [h1];rfl,by decide,?_⟩;refine zcR (v:=fnV 323) rfl ?_;refine cmo (zkX fY hm h2) ?_;rintro e Z ⟨rfl,fZ,gZ⟩;exact fin fZ gZ rfl (by unfold zbm effR;rw [if_neg (by rw [h1];decide),if_pos h1])
 ·refine⟨7,by rw [h1];rfl,by decide,?_⟩;refine zcR (v:=fnV 328) rfl ?_;refine cmo (zkY fY hm) ?_;rintro e Z ⟨rfl,fZ,gZ⟩;exact fin fZ gZ rfl (by unfold zbm effR;rw [if_neg (by rw [h1];decide),if_neg (by rw [h1];decide),if_neg (by rw [h1];decide),if_neg (by rw [h1];decide),if_neg (by rw [h1];decide),if_neg (by rw [h1];decide),if_pos h1])
end
theorem zjv {R:RunD} {x:InsD} {v:UInt8} (hx:ExOk x):(zbm R x v).pc=R.pc+1/\(zbm R x v).many=R.many+1:=by
 unfold zbm effR;rcases hx with ⟨h,_⟩ | ⟨h,_⟩ | h
 ·rw [if_pos h];exact⟨rfl,rfl⟩
 ·rw [if_neg (by rw [h];decide),if_pos h];exact⟨rfl,rfl⟩
 ·rw [if_neg (by rw [h];decide),if_neg (by rw [h];decide),if_neg (by rw [h];decide),if_neg (by rw [h];decide),if_neg (by rw [h];decide),if_neg (by rw [h];decide),if_pos h];exact⟨rfl,rfl⟩
theorem zl0 {α:Type} {E:Enc α} {w X:World} {q:Option Addr} {l:List α} {b:Nat} (h:SlR E w q l) (hq:∀ a,q=some a->a.block≠b) (g:w.grownBy X (some b)):SlR E X q l:=by
 rcases h with h | ⟨b',o,h1,h2,h3⟩
 ·exact .inl h
 ·refine .inr ⟨b',o,h1,nL h2 g.size,fun i hi=>zaA (g.block b' h2 (fun e=>hq _ h1 (by cases e;rfl))) (h3 i hi)⟩
theorem zpn {l:List InsD} {R:RunD} (h:l[R.pc]?=none):∀ n,goR l n R=R
 | 0=>rfl
 | n+1=>by unfold goR;rw [h]
theorem zqu {l:List InsD} {R:RunD} {x:InsD} (h:l[R.pc]?=some x) (hr:zfO x=true):∀ n,goR l n R=R
 | 0=>rfl
 | n+1=>by unfold goR;rw [h];simp only [hr,if_true]
theorem zqt {l:List InsD} {R:RunD} {x:InsD} (h:l[R.pc]?=some x) (hr:zfO x=false) (n:Nat):goR l (n+1) R=goR l n (zbm R x 0):=by
 show (match l[R.pc]? with | none=>R | some x=>if zfO x then R else goR l n (zbm R x 0))=_;rw [h];simp only [hr,Bool.false_eq_true,if_false]
theorem zoo {x:InsD} (hx:ExOk x):(x.op=1/\zfO x=true)\/((x.op=2\/x.op=7)/\zfO x=false):=by
 unfold zfO;rcases hx with ⟨h,_⟩ | ⟨h,_⟩ | h
 ·exact .inl ⟨h,by rw [h];rfl⟩
 ·exact .inr ⟨.inl h,by rw [h];rfl⟩
 ·exact .inr ⟨.inr h,by rw [h];rfl⟩
section
variable {R:RunD} {b:Nat} {w:World} {l:List InsD} {q:Option Addr} {cap:Nat}
theorem zio (f:RunH w b R) (hl:SlR insE w q l) (hq:∀ a,q=some a->a.block≠b) (h12:l.length<=12) (hx:∀ x∈l,ExOk x) (hm:R.many<=R.pc) (hp:R.pc<=l.length) :
  Calls Tryz.prog 300 #[AtR b,.slice q l.length cap] w fun e w'=>e = .returned (.bool (l[(goR l l.length R).pc]?).isSome)/\RunH w' b (goR l l.length R)/\w.grownBy w' (some b)/\(goR l l.length R).many<=(goR l l.length R).pc/\(goR l l.length R).pc<=l.length/\R.pc<=(goR l l.length R).pc:=by
 refine cofE 34 [AtR b,.slice q l.length cap] Tryz.func300 ?_;refine⟨RunD×Nat,fun s=>⟨[(0,AtR b),(1,.slice q l.length cap)],[]⟩,
  fun s X=>(goR l l.length R=goR l s.2 s.1/\l.length<=s.2+s.1.pc/\s.1.many<=s.1.pc/\s.1.pc<=l.length/\R.pc<=s.1.pc)/\RunH X b s.1/\w.grownBy X (some b),fun s=>l.length-s.1.pc,(R,l.length),
  (cvE rfl rfl),⟨⟨rfl,by omega,hm,hp,Nat.le_refl _⟩,f,zbD w _⟩,?_⟩
 rintro⟨S,n⟩ X ⟨⟨he,hn,hm,hp,hpp⟩,fX,gX⟩;dsimp only at he hn hm hp hpp fX ⊢;refine⟨_,zac (zaa fX) (i:=0) rfl,?_⟩;refine biE (fun hc=>?_) fun hc=>?_
 ·have hc:(S.pc:Int)<(l.length:Int):=dT hc;have hi:S.pc<l.length:=by omega
  obtain⟨n,rfl⟩:∃ n',n=n'+1:=⟨n-1,by omega⟩;obtain⟨bq,oq,rfl,hlq,hat⟩:=(zl0 hl hq gX).at hi;have hg:l[S.pc]?=some l[S.pc]:=gE hi;have hxi:=hx _ (gM hi);refine⟨_,zac (zaa fX) (i:=0) rfl,?_⟩;refine⟨S.pc,rfl,hi,?_⟩;refine⟨_,zac (hat S.pc hi) (i:=0) rfl,?_⟩;rcases zoo hxi with ⟨ho,hr⟩ | ⟨ho,hr⟩
  ·have e1:goR l l.length R=S:=he.trans (zqu hg hr _);refine brE (by rw [ho];rfl) ?_;refine brE (by rw [ho];rfl) ?_;rw [e1,hg];exact⟨rfl,fX,gX,hm,hp,hpp⟩
  ·have no:∀ k:UInt8,k=1\/k=4\/k=5\/k=6->decide (((l[S.pc].op).toNat:Int)=(k.toNat:Int))=false:=fun k hk=>by
    apply decide_eq_false;intro e;have:=zbM.1 e;rw [this] at ho;rcases hk with rfl | rfl | rfl | rfl <;> rcases ho with ho | ho <;> exact absurd ho (by decide)
   refine brN (no 1 (.inl rfl)) ?_;refine brN (no 4 (.inr (.inl rfl))) ?_;refine brN (no 5 (.inr (.inr (.inl rfl)))) ?_;refine brN (no 6 (.inr (.inr (.inr rfl)))) ?_;refine⟨_,zac (zaa fX) (i:=0) rfl,?_⟩;refine⟨S.pc,rfl,hi,?_⟩;refine⟨insE.enc l[S.pc],rfl,hat S.pc hi,hlq,?_⟩;refine cmo (ziQ (v:=0) fX (by omega) (by omega) hxi) ?_;rintro e Y ⟨rfl,fY,gY⟩;obtain⟨x1,x2⟩:=zjv (R:=S) (v:=0) hxi;exact⟨(zbm S l[S.pc] 0,n),(cvE rfl rfl),⟨⟨he.trans (zqt hg hr n),by rw [x1];omega,by rw [x1,x2];omega,by rw [x1];omega,by rw [x1];omega⟩,fY,zaf gX gY⟩,by rw [x1];omega⟩
 ·have hc:¬ (S.pc:Int)<(l.length:Int):=dF hc;have hg:l[S.pc]?=none:=List.getElem?_eq_none (by omega);have e1:goR l l.length R=S:=he.trans (zpn hg _);rw [e1,hg];exact⟨rfl,fX,gX,hm,hp,hpp⟩
end
theorem zde {n : Nat} {f : Nat → Value} (h : ∀ i, (f i).oneCell' = true) : (seg n f).all Value.oneCell' = true := by
  unfold seg
  rw [List.all_eq_true]
  intro u hu
  obtain ⟨i, _, rfl⟩ := List.mem_map.1 hu
  exact h i
theorem zlD : (znR).toArray.size = 259 := by kernel_rfl
theorem zoj (R : RunD) : (runC R).all Value.oneCell' = true := by
  unfold runC
  rw [List.all_cons, List.all_append, List.all_append, List.all_append, List.all_append, List.all_append, List.all_append, zde fun _ => rfl, zde fun _ => rfl, zde fun _ => rfl, zde fun _ => rfl, zde fun _ => rfl]
  have : (evsC R.ev).all Value.oneCell' = true := List.all_eq_true.2 fun u hu => zhO (E := evE) _ u hu
  rw [this]; rfl
theorem zbf {α : Type} {E : Enc α} {w X : World} {q : Option Addr} {l : List α} (h : SlR E w q l) (hs : ∀ a, q = some a → X.heap[a.block]? = w.heap[a.block]?) : SlR E X q l := by
  rcases h with h | ⟨b', o, h1, h2, h3⟩
  · exact .inl h
  · have h4 := hs _ h1
    have h4 : X.heap[b']? = w.heap[b']? := h4
    refine .inr ⟨b', o, h1, ?_, fun i hi => zaA h4 (h3 i hi)⟩
    have h5 : w.heap[b']? = some w.heap[b'] := Array.getElem?_eq_getElem h2
    rw [h5] at h4
    exact hlt h4
structure RowF {α : Type} (E : Enc α) (n0 : Nat) (F : Nat → Prop) (X : World) (q : Option Addr) (l : List α) : Prop where
  row : SlR E X q l
  out : ∀ a, q = some a → a.block < n0 ∧ ¬ F a.block
theorem RowF.keep {α : Type} {E : Enc α} {n0 : Nat} {F F' G : Nat → Prop} {X Y : World} {q : Option Addr} {l : List α} (h : RowF E n0 F X q l) (hn : n0 ≤ X.heap.size) (k : KeepsG G F' X Y) (hG : ∀ k, k < n0 → G k → F k) : RowF E n0 F' Y q l := by
  refine ⟨zbf h.row fun a ha => ?_, fun a ha => ⟨(h.out a ha).1, fun hf => ?_⟩⟩
  · have := h.out a ha
    exact k.same _ (by omega) fun hg => this.2 (hG _ this.1 hg)
  · have := h.out a ha
    rcases k.fp _ hf with h2 | h2
    · exact this.2 (hG _ this.1 h2)
    · omega
def StR (pre : List RunD) (vs : List Value) (W : World) : Prop := ∃ R b, pre.getLast? = some R ∧ vs = [AtR b] ∧ RunH W b R
section
variable {yl n0 cap cd : Nat} {J Jx : List RunD → (Nat → Prop) → World → Prop} {xs : List RunD} {l : List InsD} {dom : List UInt8} {q p : Option Addr}
theorem zn6 (hJ : JG n0 (fun _ => False) J) (hn0 : ∀ pre F X, J pre F X → n0 ≤ X.heap.size) (hy : ∀ pre x vs F W1, J pre F W1 → StR (pre ++ [x]) vs W1 → (pre ++ [x]) <+: xs → YieldR Tryz.prog yl vs.toArray W1 fun v W2 =>
      (v = .bool true ∧ ∃ F', J (pre ++ [x]) F' W2 ∧ KeepsG F F' W1 W2) ∨ (v = .bool false ∧ ∃ F', Jx (pre ++ [x]) F' W2)) (h12 : l.length ≤ 12) (hx : ∀ x ∈ l, ExOk x) (hd : dom.length ≤ 1000) :
    ∀ (n : Nat) (S : RunD) (b : Nat) (pre : List RunD) (F : Nat → Prop) (X : World), l.length ≤ n + S.pc → S.many ≤ S.pc → S.pc ≤ l.length → RunH X b S → n0 ≤ b → ¬ F b → J pre F X → RowF insE n0 F X q l → RowF zaM n0 F X p dom → (pre ++ zaQ l dom n S) <+: xs →
      Calls Tryz.prog 266 #[AtR b, .slice q l.length cap, .slice p dom.length cd, .func (.yield yl) #[] #[]] X fun e Y =>
        (e = .returned (.bool true) ∧ ∃ F', J (pre ++ zaQ l dom n S) F' Y ∧ KeepsG (fun k => F k ∨ k = b) F' X Y) ∨ (e = .returned (.bool false) ∧ ∃ pre' F', pre' <+: xs ∧ Jx pre' F' Y) := by
  intro n
  induction n with
  | zero =>
    intro S b pre F X hn hm hp fX hb hFb hj hq hdm hpre
    refine za4 (S := sg 41) (sgOk _) (args := [AtR b, .slice q l.length cap, .slice p dom.length cd, .func (.yield yl) #[] #[]]) Tryz.func266 rfl rfl (Nat.le_of_ble_eq_true rfl) rfl ?_
    have hpc : S.pc = l.length := by omega
    have hg : l[S.pc]? = none := List.getElem?_eq_none (by omega)
    have e1 : goR l l.length S = S := zpn hg _
    refine Calls.mono (zio fX hq.row (fun a ha => by have := (hq.out a ha).1; omega) h12 hx hm hp) ?_
    rintro e Y ⟨rfl, fY, gY, _⟩
    rw [e1] at fY ⊢
    rw [hg]
    refine brT ?_
    have hjY := hJ.step _ _ _ _ hj (StepG.grown gY (.inl hb) hFb)
    have hs : zaQ l dom 0 S = [S] := by show [goR l l.length S] = _; rw [e1]
    rw [hs] at hpre ⊢
    refine YieldR.mono (hy pre S [AtR b] F Y hjY ⟨S, b, by simp, rfl, fY⟩ hpre) ?_
    rintro v Z (⟨rfl, F', hJZ, hKZ⟩ | ⟨rfl, F', hJZ⟩)
    · exact .inl ⟨rfl, F', hJZ, (KeepsG.grown (F := fun k => F k ∨ k = b) gY (.inr rfl)).trans (hKZ.weak fun k h => .inl h)⟩
    · exact .inr ⟨rfl, _, F', hpre, hJZ⟩
  | succ n ih =>
    intro S b pre F X hn hm hp fX hb hFb hj hq hdm hpre
    refine za4 (S := sg 41) (sgOk _) (args := [AtR b, .slice q l.length cap, .slice p dom.length cd, .func (.yield yl) #[] #[]]) Tryz.func266 rfl rfl (Nat.le_of_ble_eq_true rfl) rfl ?_
    obtain ⟨T, hT⟩ : ∃ T, T = goR l l.length S := ⟨_, rfl⟩
    refine Calls.mono (zio fX hq.row (fun a ha => by have := (hq.out a ha).1; omega) h12 hx hm hp) ?_
    rintro e Y ⟨rfl, fY, gY, tm, tp, tpp⟩
    rw [← hT] at fY tm tp tpp ⊢
    have hjY := hJ.step _ _ _ _ hj (StepG.grown gY (.inl hb) hFb)
    have hXn := hn0 _ _ _ hj
    have kY : KeepsG (fun k => F k ∨ k = b) F X Y := ⟨gY.os, gY.tape, gY.output, gY.size, fun k hk hf => gY.block k hk (fun e => hf (.inr (by cases e; rfl))), fun k h => .inl (.inl h)⟩
    have hqY := hq.keep hXn kY (fun k hk h => h.resolve_right (by omega))
    have hdY := hdm.keep hXn kY (fun k hk h => h.resolve_right (by omega))
    cases hg : l[T.pc]? with
    | none =>
      refine brT ?_
      have hs : zaQ l dom (n + 1) S = [T] := by
        show (match l[(goR l l.length S).pc]? with | none => [goR l l.length S] | some x => _) = _
        rw [← hT, hg]
      rw [hs] at hpre ⊢
      refine YieldR.mono (hy pre T [AtR b] F Y hjY ⟨T, b, by simp, rfl, fY⟩ hpre) ?_
      rintro v Z (⟨rfl, F', hJZ, hKZ⟩ | ⟨rfl, F', hJZ⟩)
      · exact .inl ⟨rfl, F', hJZ, kY.trans hKZ⟩
      · exact .inr ⟨rfl, _, F', hpre, hJZ⟩
    | some x =>
      have hi : T.pc < l.length := (List.getElem?_eq_some_iff.1 hg).1
      have hxe : l[T.pc] = x := by rw [List.getElem?_eq_getElem hi] at hg; exact Option.some.inj hg
      have hxi : ExOk x := by rw [← hxe]; exact hx _ (List.getElem_mem hi)
      refine brF ?_
      have hs : zaQ l dom (n + 1) S = dom.flatMap fun v => zaQ l dom n (zbm T x v) := by
        show (match l[(goR l l.length S).pc]? with | none => [goR l l.length S] | some x => _) = _
        rw [← hT, hg]
      rw [hs] at hpre ⊢
      refine ⟨Nat × (Nat → Prop), fun s => ⟨[(0, AtR b), (1, .slice q l.length cap), (2, .slice p dom.length cd), (3, .func (.yield yl) #[] #[]), (19, .slice p dom.length cd), (20, i64 dom.length), (21, i64 (s.1 : Nat))], []⟩,
        fun s Z => s.1 ≤ dom.length ∧ J (pre ++ (dom.take s.1).flatMap fun v => zaQ l dom n (zbm T x v)) s.2 Z ∧ RunH Z b T ∧ ¬ s.2 b ∧ RowF insE n0 s.2 Z q l ∧ RowF zaM n0 s.2 Z p dom ∧ KeepsG (fun k => F k ∨ k = b) s.2 X Z, fun s => dom.length - s.1, (0, F),
        ⟨.cons rfl (.cons rfl (.cons rfl (.cons rfl (.cons rfl (.cons rfl (.cons rfl .nil)))))), rfl⟩, ⟨Nat.zero_le _, by rw [List.take_zero]; show J (pre ++ []) F Y; rw [List.append_nil]; exact hjY, fY, hFb, hqY, hdY, kY⟩, ?_⟩
      clear fY gY hjY hqY hdY kY
      rintro ⟨k, G⟩ Z ⟨hk, hjZ, fZ, hGb, hqZ, hdZ, kZ⟩
      dsimp only at hk hjZ hGb hqZ hdZ kZ ⊢
      have hZn := hn0 _ _ _ hjZ
      refine And.intro (fun hc => ?_) (fun hc => ?_)
      · have hc : (k : Int) < (dom.length : Int) := of_decide_eq_true hc
        have hkd : k < dom.length := by omega
        obtain ⟨bp, op, hpe, hlp, hatp⟩ := hdZ.row.at hkd
        have hqr := hqZ
        obtain ⟨bq, oq, hqe, hlq, hatq⟩ := hqZ.row.at hi
        have ep : some (Value.slice p dom.length cd) = some (Value.slice (some ⟨bp, op, none⟩) dom.length cd) := by rw [hpe]
        subst hpe
        refine ⟨k, rfl, hkd, ?_⟩
        refine ⟨u8 dom[k], by have := zac (hatp k hkd) (i := 0) (v := u8 dom[k]) rfl; exact this, ?_⟩
        refine ⟨runC T, zcu _, zaa fZ, hlt fZ, ?_⟩
        refine zal (X := Z) (v := .agg (runC T).toArray) (ttOk.get 316 _ rfl) (zcu _) zlD (zoj _) fun V hbV fV sV => ?_
        subst hqe
        have fV : RunH V Z.heap.size T := fV
        refine ⟨_, zac (zaa fV) (i := 0) rfl, ?_⟩
        refine ⟨T.pc, rfl, hi, ?_⟩
        refine ⟨insE.enc x, rfl, by rw [← hxe]; exact zar hbV (hatq T.pc hi), Nat.lt_of_lt_of_le hlq hbV.size, ?_⟩
        refine Calls.mono (ziQ (v := dom[k]) fV (by omega) (by omega) hxi) ?_
        rintro e U ⟨rfl, fU, gU⟩
        obtain ⟨x1, x2⟩ := zjv (R := T) (v := dom[k]) hxi
        have hGn : ¬ G Z.heap.size := fun h => by have := (hJ.lt _ _ _ _ hjZ h).1; omega
        have hjU := hJ.step _ _ _ _ (hJ.step _ _ _ _ hjZ (StepG.below hbV)) (StepG.grown gU (.inl hZn) hGn)
        have hbU : Below Z.heap.size Z U := hbV.trans (zak gU hbV.size (Nat.le_refl _))
        have kU : KeepsG G G Z U := KeepsG.below hbU fun k h => .inl h
        have hqU := hqr.keep hZn kU (fun k _ h => h)
        have hdU := hdZ.keep hZn kU (fun k _ h => h)
        have hdk : dom.flatMap (fun v => zaQ l dom n (zbm T x v)) = (dom.take k).flatMap (fun v => zaQ l dom n (zbm T x v)) ++ (zaQ l dom n (zbm T x dom[k]) ++ (dom.drop (k + 1)).flatMap fun v => zaQ l dom n (zbm T x v)) := by
          have e : dom = dom.take k ++ dom[k] :: dom.drop (k + 1) := by rw [List.getElem_cons_drop, List.take_append_drop]
          have e2 : (dom.take k ++ dom[k] :: dom.drop (k + 1)).flatMap (fun v => zaQ l dom n (zbm T x v)) = (dom.take k).flatMap (fun v => zaQ l dom n (zbm T x v)) ++ (zaQ l dom n (zbm T x dom[k]) ++ (dom.drop (k + 1)).flatMap fun v => zaQ l dom n (zbm T x v)) := by
            rw [List.flatMap_append, List.flatMap_cons]
          rw [← e] at e2
          exact e2
        have hpk : ((pre ++ (dom.take k).flatMap fun v => zaQ l dom n (zbm T x v)) ++ zaQ l dom n (zbm T x dom[k])) <+: xs := by
          refine List.IsPrefix.trans ?_ hpre
          rw [hdk]
          exact ⟨(dom.drop (k + 1)).flatMap fun v => zaQ l dom n (zbm T x v), by simp only [List.append_assoc]⟩
        have htk : (dom.take (k + 1)).flatMap (fun v => zaQ l dom n (zbm T x v)) = (dom.take k).flatMap (fun v => zaQ l dom n (zbm T x v)) ++ zaQ l dom n (zbm T x dom[k]) := by
          rw [List.take_succ_eq_append_getElem hkd, List.flatMap_append, List.flatMap_cons, List.flatMap_nil, List.append_nil]
        refine Calls.mono (ih (zbm T x dom[k]) Z.heap.size (pre ++ (dom.take k).flatMap fun v => zaQ l dom n (zbm T x v)) G U (by rw [x1]; omega) (by rw [x1, x2]; omega) (by rw [x1]; omega) fU hZn hGn hjU hqU hdU hpk) ?_
        rintro e V' (⟨rfl, F', hjV, kV⟩ | ⟨rfl, pre', F', hp', hjx⟩)
        · refine brF ?_
          have kW : KeepsG G F' Z V' := ⟨kV.os.trans kU.os, kV.tape.trans kU.tape, kV.output.trans kU.output, Nat.le_trans kU.size kV.size, fun i hi hf => (kV.same i (Nat.lt_of_lt_of_le hi kU.size) (fun h => by
            rcases h with h | h
            · exact hf h
            · omega)).trans (kU.same i hi hf), fun i h => by
            have := kU.size
            rcases kV.fp i h with (h2 | h2) | h2
            · exact .inl h2
            · exact .inr (by omega)
            · exact .inr (by omega)⟩
          have hbZ := hlt fZ
          refine ⟨((k + 1 : Nat) : Int), (zai (by omega)).trans (by omega), ?_⟩
          refine ⟨(k + 1, F'), ⟨.cons rfl (.cons rfl (.cons rfl (.cons rfl (.cons rfl (.cons rfl (.cons rfl .nil)))))), rfl⟩, ⟨hkd, ?_, (kW.same b hbZ hGb).trans fZ, fun h => ?_, hqr.keep hZn kW (fun _ _ h => h), hdZ.keep hZn kW (fun _ _ h => h), kZ.trans kW⟩, by show dom.length - (k + 1) < dom.length - k; omega⟩
          · show J (pre ++ (dom.take (k + 1)).flatMap fun v => zaQ l dom n (zbm T x v)) F' V'
            rw [htk, ← List.append_assoc]
            exact hjV
          · rcases kW.fp b h with h2 | h2
            · exact hGb h2
            · omega
        · refine brT ?_
          exact .inr ⟨rfl, pre', F', hp', hjx⟩
      · have hc : ¬ (k : Int) < (dom.length : Int) := of_decide_eq_false hc
        obtain rfl : k = dom.length := by omega
        rw [List.take_length] at hjZ
        exact .inl ⟨rfl, G, hjZ, kZ⟩
theorem zng {bi bd : Nat} {W0 : World} (hl : SlR insE W0 q l) (hp : SlR zaM W0 p dom) (fi : W0.heap[bi]? = some (.cells #[.slice q l.length cap] 94 (0, 0))) (fd : W0.heap[bd]? = some (.cells #[.slice p dom.length cd] 80 (0, 0))) (hql : ∀ a, q = some a → a.block < W0.heap.size) (hpl : ∀ a, p = some a → a.block < W0.heap.size) (h12 : l.length ≤ 12) (hx : ∀ x ∈ l, ExOk x) (hd : dom.length ≤ 1000) :
    zlx Tryz.prog 265 [AtR bi, AtR bd] (zcL l dom) W0 (fun k => (k = bi ∨ k = bd) ∨ (∃ a, q = some a ∧ k = a.block) ∨ ∃ a, p = some a ∧ k = a.block) (fun _ => False) StR := by
  intro yl F0 J Jx W hsz hrd hrf hJ hJx hy h0
  refine za4 (S := sg 9) (sgOk _) (args := [.func (.yield yl) #[] #[], AtR bi, AtR bd]) Tryz.func265 rfl rfl (Nat.le_of_ble_eq_true rfl) rfl ?_
  obtain ⟨X, hX⟩ : ∃ X, X = W.alloc (.cells (runC run0).toArray 316) := ⟨_, rfl⟩
  have hbX : Below W.heap.size W X := by rw [hX]; exact (Below.refl _ W).alloc (Nat.le_refl _) _
  have fX : RunH X W.heap.size run0 := by rw [hX]; exact hnew W _
  have ez : znR = runC run0 := by kernel_rfl
  have hX' : W.alloc (.cells (znR).toArray 316) = X := by rw [hX, ez]
  have fiW := (hrd bi (.inl (.inl (.inl rfl)))).trans fi
  have fdW := (hrd bd (.inl (.inl (.inr rfl)))).trans fd
  have hjX := hJ.step _ _ _ _ h0 (StepG.below hbX)
  have hF : ¬ F0 W.heap.size := fun h => by have := (hJ.lt _ _ _ _ h0 h).1; omega
  have hlX : RowF insE W.heap.size F0 X q l := ⟨zbf hl fun a ha => (hbX.block _ (by have := hql a ha; omega)).trans (hrd _ (.inl (.inr (.inl ⟨a, ha, rfl⟩)))), fun a ha => ⟨by have := hql a ha; omega, hrf _ (.inr (.inl ⟨a, ha, rfl⟩))⟩⟩
  have hpX : RowF zaM W.heap.size F0 X p dom := ⟨zbf hp fun a ha => (hbX.block _ (by have := hpl a ha; omega)).trans (hrd _ (.inl (.inr (.inr ⟨a, ha, rfl⟩)))), fun a ha => ⟨by have := hpl a ha; omega, hrf _ (.inr (.inr ⟨a, ha, rfl⟩))⟩⟩
  refine ⟨_, by rw [hX']; exact zac (zaa (zab hbX fiW)) (i := 0) rfl, ?_⟩
  refine ⟨_, by rw [hX']; exact zac (zaa (zab hbX fdW)) (i := 0) rfl, ?_⟩
  rw [hX']
  have hJn : JG W.heap.size (fun _ => False) (fun pre F Z => J pre F Z ∧ W.heap.size ≤ Z.heap.size) := ⟨fun s F A B ⟨h, hn⟩ hs => ⟨hJ.step _ _ _ _ h hs, Nat.le_trans hn hs.size⟩, fun s F A k ⟨h, _⟩ hk => hJ.lt _ _ _ _ h hk⟩
  refine Calls.mono (zn6 (xs := zcL l dom) (Jx := Jx) hJn (fun _ _ _ h => h.2) (fun pre x vs F W1 ⟨hj, hn⟩ hst hpre => YieldR.mono (hy pre x vs F W1 hj hst hpre) fun v W2 h => ?_) h12 hx hd l.length run0 W.heap.size [] F0 X (Nat.le_refl _) (Nat.le_refl _) (Nat.zero_le _) fX (Nat.le_refl _) hF ⟨hjX, hbX.size⟩ hlX hpX (List.prefix_refl _)) ?_
  · rcases h with ⟨rfl, F', h1, h2⟩ | h
    · exact .inl ⟨rfl, F', ⟨h1, Nat.le_trans hn h2.size⟩, h2⟩
    · exact .inr h
  · rintro e Y (⟨rfl, F', ⟨hj, _⟩, _⟩ | ⟨rfl, pre', F', h1, h2⟩)
    · exact ⟨⟨_, rfl⟩, .inl ⟨F', hj⟩⟩
    · exact ⟨⟨_, rfl⟩, .inr ⟨pre', F', h1, h2⟩⟩
theorem zjx {w : World} : Calls Tryz.prog 231 #[.slice q l.length cap, .slice p dom.length cd] w fun e w' => e = .returned (.func (.func 265) #[] #[AtR w.heap.size, AtR (w.heap.size + 1)]) ∧ w'.heap[w.heap.size]? = some (.cells #[.slice q l.length cap] 94 (0, 0)) ∧ w'.heap[w.heap.size + 1]? = some (.cells #[.slice p dom.length cd] 80 (0, 0)) ∧ w'.heap.size = w.heap.size + 2 ∧ Below w.heap.size w w' := by
  refine za4 (S := sg 6) (sgOk _) (args := [.slice q l.length cap, .slice p dom.length cd]) Tryz.func231 rfl rfl (Nat.le_of_ble_eq_true rfl) rfl ?_
  have s1 := World.size_alloc w (.cells #[.slice q l.length cap] 94)
  have h2 := hnew (w.alloc (.cells #[.slice q l.length cap] 94)) (.cells #[.slice p dom.length cd] 80)
  have s2 := World.size_alloc (w.alloc (.cells #[.slice q l.length cap] 94)) (.cells #[.slice p dom.length cd] 80)
  rw [s1] at h2 s2
  refine ⟨?_, hold _ (hnew w _), h2, s2, ((Below.refl _ w).alloc (Nat.le_refl _) _).alloc (by simp) _⟩
  rw [← s1]; rfl
end
theorem zsc {P:Program} {t e:TypeId} (hu:P.underlying t=some (.slice e)) (d:Nat) (a:Option Addr) (n c:Nat) (w:World):(Op.equalIn (d+1) t (.slice a n c) (.slice none 0 0)).run P w = .ok a.isNone w:=by
 cases a <;> simp [Op.equalIn,run_underlying hu]
theorem zpk {n m:Nat} (h:n<256) (hm:Nat.ble 256 m=true):n<m:=nL h (Nat.le_of_ble_eq_true hm)
theorem zry {s:ByteArray} {n:Nat} {K:UInt8->Prop} (h:n<s.size) (k:∀ u,K u):∃ u,s.data.toList[n]?=some u/\K u:=by
 have h:n<s.data.toList.length:=by simpa using h
 exact⟨_,gE h,k _⟩
theorem eqlS {P:Program} {t e:TypeId} (hu:P.underlying t=some (.slice e)) (x y:Operand) (a:Option Addr) (n c:Nat) (w:World):(do eqGuard .eql t x y (.slice a n c) (.slice none 0 0);binOp .eql t (.slice a n c) (.slice none 0 0):Sem Value).run P w = .ok (.bool a.isNone) w:=by
 have h:(Op.equal t (.slice a n c) (.slice none 0 0)).run P w = .ok a.isNone w:=by
  exact zsc hu 9999 a n c w
 have h1:(eqGuard .eql t x y (.slice a n c) (.slice none 0 0)).run P w = .ok () w:=by
  simp only [eqGuard,Bool.not_true,Bool.false_eq_true,if_false,Sem.run_pure]
 rw [Sem.run_bind,h1];simp only [Result.andThen_ok,binOp,Sem.run_bind,h,Sem.run_pure]
theorem zho {α:Type} {E:Enc α} {T:TypeId} {w:World}:OwnS E T w.heap.size (w.alloc (.cells #[] T)) (some ⟨w.heap.size,0,none⟩) 0 []:=by
 unfold OwnS World.ownsRow;exact⟨by simp,.inr ⟨w.heap.size,0,#[],rfl,Nat.le_refl _,hnew w _,Nat.le_refl _,Nat.zero_le _,by simp,by simp⟩⟩
theorem zkL {p:Option Addr} {cap:Nat} {l:List UInt8} {w:World} (hl:SlR zaM w p l) (hn:l.length<=1000000) (hc:p=none->cap=0) :
  Calls Tryz.prog 166 #[.slice p l.length cap] w fun e w'=>(∃ q c,e = .returned (.slice q l.length c)/\OwnS zaM 5 w.heap.size w' q c l)/\Bw w w':=by
 refine cofE 8 [.slice p l.length cap] Tryz.func166 ?_;refine⟨_,fun w=>eqlS Tryz.underlying80 _ _ p l.length cap w,?_⟩
 cases p with
 | none =>
  refine brT ?_;have e:=hl.none;subst e;exact⟨⟨none,0,rfl,OwnS.nil⟩,Below.refl _ _⟩
 | some a =>
  refine brF ?_;refine⟨⟨by decide,by decide,rfl⟩,[],rfl,?_⟩;have hb0:Bw w (w.alloc (.cells #[] 5)):=zba w _;refine zhW (E:=zaM) (T:=5) (B:=w.heap.size) (l:=[]) (news:=l) (cap:=0) Tryz.underlying80 k5 rfl rfl rfl zho rfl (hl.below hb0) (fun h=>by cases h) hb0.size (by simp;omega) (by simp;omega) ?_;intro p' cap' w' ho hg hbw;exact⟨⟨p',cap',rfl,ho⟩,hb0.trans hbw⟩
theorem zrU {x:UInt8} {w:World}:Calls Tryz.prog 314 #[u8 x] w fun e w'=>e = .returned (.bool false)/\w=w':=by
 refine cofE 6 [u8 x] Tryz.func314 ?_;refine⟨rb ?_,rfl⟩;rw [decide_eq_true rfl];rfl
theorem zqm {x y:UInt8} {w:World}:Calls Tryz.prog 295 #[u8 x,u8 y] w fun e w'=>e = .returned (.bool (decide ((x.toNat:Int)<(y.toNat:Int))))/\w=w':=by
 refine cofE 17 [u8 x,u8 y] Tryz.func295 ?_;refine cmo zrU ?_;rintro e _ ⟨rfl,rfl⟩;refine brF ?_;refine brF ?_;exact⟨rfl,rfl⟩
def srt8:List UInt8->Bool
 | []=>true
 | [_]=>true
 | x::y::r=>decide (x.toNat<=y.toNat)&&srt8 (y::r)
theorem zlV:∀ (l:List UInt8),srt8 l=true->∀ (k:Nat) (h:k+1<l.length),(l[k]).toNat<=(l[k+1]).toNat
 | [],_,k,h=>by simp at h
 | [x],_,k,h=>by simp at h
 | x::y::r,hs,k,h=>by
  unfold srt8 at hs;rw [bAT,dE] at hs
  cases k with
  | zero=>exact hs.1
  | succ k=>exact zlV (y::r) hs.2 k (by simpa using h)
section
variable {b o cap:Nat} {l:List UInt8} {w:World}
theorem zli (hl:SlR zaM w (some ⟨b,o,none⟩) l) (h12:l.length<=12) (hs:srt8 l=true) :
  CB 289 #[.slice (some ⟨b,o,none⟩) l.length cap,i64 0,i64 l.length] w (.tuple #[]):=by
 refine cofE 49 [.slice (some ⟨b,o,none⟩) l.length cap,i64 0,i64 l.length] Tryz.func289 ?_;refine⟨1,by decide,?_⟩;refine⟨Nat,fun k=>⟨[(0,.slice (some ⟨b,o,none⟩) l.length cap),(1,i64 0),(2,i64 l.length),(6,i64 (k+1:Nat))],[]⟩,fun k X=>Bw w X,fun k=>l.length-k,0,
  (cvE rfl rfl),Below.refl _ _,?_⟩
 rintro k X hb;refine biE (fun hc=>?_) fun hc=>?_
 ·have hc:((k+1:Nat):Int)<(l.length:Int):=dT hc;have hk:k+1<l.length:=by omega
  refine⟨Unit,fun _=>⟨[(0,.slice (some ⟨b,o,none⟩) l.length cap),(1,i64 0),(2,i64 l.length),(6,i64 (k+1:Nat)),(7,i64 (k+1:Nat))],[]⟩,fun _ Y=>Bw w Y,fun _=>0,(),(cvE rfl rfl),hb,?_⟩;rintro _ Y hbY;have hbD:Bw w Y.drew:=hbY.drew;refine DrawE.ord [] [0,1,2,3,4,5,6,7,8,9,10,11,12,13,14] (by kernel_rfl) ?_;refine brE (decide_eq_true (by omega)) ?_;obtain⟨b',o',hp,hlt',hat⟩:=(hl.below hbD).at hk;simp only [Option.some.injEq,Addr.mk.injEq,and_true] at hp;obtain⟨rfl,rfl⟩:=hp;refine⟨k+1,rfl,hk,?_⟩;refine⟨u8 l[k+1],by have:=zac (hat (k+1) hk) (i:=0) (v:=u8 l[k+1]) rfl;exact this,?_⟩;refine⟨(k:Nat),(zai (by omega)).trans (by omega),?_⟩;refine⟨k,rfl,by omega,?_⟩;refine⟨u8 l[k],by have:=zac (hat k (by omega)) (i:=0) (v:=u8 l[k]) rfl;exact this,?_⟩;refine cmo zqm ?_;rintro e _ ⟨rfl,rfl⟩;refine⟨Below.refl _ _,?_⟩;have hle:=zlV l hs k hk;refine brN (decide_eq_false (by omega)) ?_;refine⟨((k+1+1:Nat):Int),(zai (by omega)).trans (by omega),?_⟩;exact⟨k+1,(cvE rfl rfl),hbD,zdc (by omega)⟩
 ·exact⟨rfl,hb⟩
theorem zrK {m:Int} (hl:SlR zaM w (some ⟨b,o,none⟩) l) (h12:l.length<=12) (hs:srt8 l=true) :
  CB 263 #[.slice (some ⟨b,o,none⟩) l.length cap,i64 0,i64 l.length,i64 m] w (.tuple #[]):=by
 refine cofE 134 [.slice (some ⟨b,o,none⟩) l.length cap,i64 0,i64 l.length,i64 m] Tryz.func263 ?_;refine⟨Unit,fun _=>⟨[(0,.slice (some ⟨b,o,none⟩) l.length cap),(1,i64 0),(2,i64 l.length),(3,i64 m)],[]⟩,fun _ X=>w=X,fun _=>0,(),(cvE rfl rfl),rfl,?_⟩;rintro _ _ rfl;refine⟨(l.length:Nat),(zai (by omega)).trans (by omega),?_⟩;refine brE (decide_eq_true (by omega)) ?_;refine cmo (zli hl h12 hs) ?_;rintro e X ⟨rfl,hb⟩;exact⟨rfl,hb⟩
theorem zrk {n:Nat} (h:n<256):Calls Tryz.prog 299 #[.int .u64 (n:Nat)] w fun e w'=>(∃ m:Int,e = .returned (i64 m))/\w=w':=by
 refine cofE 25 [.int .u64 (n:Nat)] Tryz.func299 ?_;refine brN (decide_eq_false (by omega)) ?_;refine brN (decide_eq_false (by omega)) ?_;refine brN (decide_eq_false (by omega)) ?_;refine⟨(n:Nat),zg5 (by omega),?_⟩;refine⟨n,rfl,zpk h (by kernel_rfl),?_⟩;refine zry (zpk h (by kernel_rfl)) fun u=>?_;refine⟨_,rfl,?_⟩;refine⟨_,rfl,?_⟩;exact⟨⟨_,rfl⟩,rfl⟩
theorem znF {n:Nat} (h:n<256):Calls Tryz.prog 264 #[.int .u64 (n:Nat)] w fun e w'=>(∃ m:Int,e = .returned (i64 m))/\w=w':=by
 refine cofE 8 [.int .u64 (n:Nat)] Tryz.func264 ?_;refine brF ?_;refine cmo (zrk h) ?_;rintro e _ ⟨⟨m,rfl⟩,rfl⟩;exact⟨⟨m,rfl⟩,rfl⟩
theorem zrg (hl:SlR zaM w (some ⟨b,o,none⟩) l) (h12:l.length<=12) (hs:srt8 l=true) :
  CB 229 #[.slice (some ⟨b,o,none⟩) l.length cap] w (.tuple #[]):=by
 refine cofE 11 [.slice (some ⟨b,o,none⟩) l.length cap] Tryz.func229 ?_;refine⟨(l.length:Nat),zfo (by omega),?_⟩;refine cmo (znF (by omega)) ?_;rintro e _ ⟨⟨m,rfl⟩,rfl⟩;refine cmo (zrK hl h12 hs) ?_;rintro e X ⟨rfl,hb⟩;exact⟨rfl,hb⟩
end
section
variable {r:RelD}
theorem ztJ {bx:Nat} {W0:World} (hr:WrdR r.to) (hn:r.n<=48) (fx:RelH W0 bx r) (hT:Tz64M W0) :
  zlx Tryz.prog 303 [At0 bx] (ordR r) W0 (fun k=>k=bx\/k=5) (fun _=>False) StO:=by
 intro yl F0 J Jx W hsz hrd hrf hJ hJx hy h0;have fxW:RelH W bx r:=(hrd bx (.inl (.inl rfl))).trans fx;have hTW:Tz64M W:=zbZ hT (hrd _ (.inl (.inr rfl)));refine cofE 17 [.func (.yield yl) #[] #[],At0 bx] Tryz.func303 ?_;refine⟨relC r,zae _,zaa fxW,hlt fxW,?_⟩;refine cmo (zi1 hr hTW) ?_;rintro e X ⟨rfl,hbX⟩;refine biE (fun h=>?_) fun h=>?_
 ·have h:acyR r=false:=by
   have h:(!acyR r)=true:=h;simpa using h
  have hs:ordR r=[]:=by unfold ordR;rw [h];rfl
  rw [hs];exact⟨⟨_,rfl⟩,.inl ⟨F0,hJ.step _ _ _ _ h0 (.below hbX)⟩⟩
 have h:acyR r=true:=by
  have h:(!acyR r)=false:=h;simpa using h
 have hs:ordR r=extR (zbJ r).to 64 (allM r.n) []:=by unfold ordR;rw [h];rfl
 rw [hs] at hy ⊢;refine⟨relC r,zae _,zaa (zab hbX fxW),hlt (zab hbX fxW),?_⟩;refine cmo (zi0 hr (hTW.below hbX)) ?_;rintro e Y ⟨rfl,hbY,hrB⟩;have hbXY:=zst hbX hbY;refine zal (X:=Y) (v := .agg (relC (zbJ r)).toArray) k40 (zae _) (by kernel_rfl) (zaD _) fun V hbV fV sV=>?_;have hbV2:=zst hbXY hbV;have fxV:=zab hbV2 fxW;have hTV:=hTW.below hbV2;have hok:okR r=true:=by
  unfold acyR topF at h
  split at h
  ·assumption
  ·simp at h
 obtain⟨p0,p48,_⟩:=zbx hok;obtain⟨n,hnn⟩:∃ n:Nat,r.n=n:=⟨r.n.toNat,by omega⟩;have hn48:n<=48:=by omega
 have hal:els (allN n)=List.range n:=zjy (by omega);have wY:=hbXY.size;have hbVF:¬ F0 Y.heap.size:=fun h=>by have:=(hJ.lt _ _ _ _ h0 h).1;omega
 have htl:=zcB hTW;have hJn:JG W.heap.size (fun _=>False) (fun pre F Z=>J pre F Z/\W.heap.size<=Z.heap.size):=⟨fun s F A B ⟨h,hn⟩ hs=>⟨hJ.step _ _ _ _ h hs,Nat.le_trans hn hs.size⟩,fun s F A k ⟨h,_⟩ hk=>hJ.lt _ _ _ _ h hk⟩;have hal2:allM r.n=allN n:=by rw [zgt,hnn]
 have main:∀ Z:World,OwnS natE 3 V.heap.size Z (some ⟨V.heap.size,0,none⟩) n []->Bw V Z->Calls Tryz.prog 304 #[At0 Y.heap.size,s64 (allN n),.slice (some ⟨V.heap.size,0,none⟩) 0 n,.func (.yield yl) #[] #[]] Z fun e Y2=>(∃ v,e = .returned v)/\((∃ F',J (extR (zbJ r).to 64 (allM r.n) []) F' Y2)\/∃ pre F',pre <+: extR (zbJ r).to 64 (allM r.n) []/\Jx pre F' Y2):=by
  intro Z oZ hbZ;have hbWZ:Bw W Z:=zst hbV2 hbZ;refine cmo (zoQ (l:=[]) (J:=fun pre F Z=>J pre F Z/\W.heap.size<=Z.heap.size) (Jx:=Jx) (n0:=W.heap.size) (n:=n) (bB:=Y.heap.size) (r:=zbJ r) (xs:=extR (zbJ r).to 64 (allM r.n) []) hJn (fun _ _ _ h=>h.2) (fun pre x vs F W1 ⟨hj,hn⟩ hst hpre=>YieldR.mono (hy pre x vs F W1 hj hst hpre) fun v W2 h=>?_) hrB hn48 htl 64 (allN n) V.heap.size [] F0 Z (zgj _) (zb9 _) (fun i hi=>by
   rw [hal] at hi;have:=List.mem_range.1 hi;omega) (by rw [hal];simp) (oZ.lower hbV2.size) (fun h=>?_) ⟨hJ.step _ _ _ _ h0 (.below hbWZ),hbWZ.size⟩ (zab hbZ fV) hbVF wY (by omega) (hTV.below hbZ) (hrf _ (.inr rfl)) (by rw [hal2];exact List.prefix_refl _)) ?_
  ·rcases h with ⟨rfl,F',h1,h2⟩ | h
   ·exact .inl ⟨rfl,F',⟨h1,Nat.le_trans hn h2.size⟩,h2⟩
   ·exact .inr h
  ·have:=(hJ.lt _ _ _ _ h0 h).1;have:=hbV2.size;omega
  ·rintro e Y2 (⟨rfl,F',⟨hj,_⟩,_⟩ | ⟨rfl,pre',F',h1,h2⟩)
   ·rw [hal2];exact⟨⟨_,rfl⟩,.inl ⟨F',hj⟩⟩
   ·exact⟨⟨_,rfl⟩,.inr ⟨pre',F',h1,h2⟩⟩
 refine DrawE.treeQ [7] (.op 0 (.op 1 (.op 3 (.op 4 (.op 6 (.alt (.op 2 (.op 5 (.op 7 .nil))) (.op 5 (.op 2 (.op 7 .nil))))))))) (by kernel_rfl) ?_;refine⟨i64 n,by rw [<- hnn];exact zac (zaa fxV) (i:=0) rfl,?_⟩;refine⟨i64 n,by rw [<- hnn];exact zac (zaa fxV) (i:=0) rfl,?_⟩;refine And.intro ?_ ?_
 ·refine cmo zjN ?_;rintro e _ ⟨rfl,rfl⟩;refine⟨Below.refl _ _,?_⟩;refine zeC (E:=natE) Tryz.underlying149 k3 rfl rfl rfl n (by show 8*n<=_;omega) (by unfold maxLen;omega) fun Z oZ hbZ sZ=>?_;refine⟨hbZ,?_⟩;refine cmo (main Z oZ (((Below.refl _ V).drew).trans hbZ)) ?_;rintro e Y2 ⟨⟨v,rfl⟩,h⟩;exact⟨⟨_,rfl⟩,h⟩
 ·refine zeC (E:=natE) Tryz.underlying149 k3 rfl rfl rfl n (by show 8*n<=_;omega) (by unfold maxLen;omega) fun Z oZ hbZ sZ=>?_;refine⟨hbZ,?_⟩;refine cmo zjN ?_;rintro e _ ⟨rfl,rfl⟩;refine⟨Below.refl _ _,?_⟩;refine cmo (main Z oZ (((Below.refl _ V).drew).trans hbZ)) ?_;rintro e Y2 ⟨⟨v,rfl⟩,h⟩;exact⟨⟨_,rfl⟩,h⟩
theorem zsC {w:World}:Calls Tryz.prog 270 #[.agg (relC r).toArray] w fun e w'=>e = .returned (.func (.func 303) #[] #[At0 w.heap.size])/\RelH w' w.heap.size r/\w'.heap.size=w.heap.size+1/\Bw w w':=by
 refine cofE 4 [.agg (relC r).toArray] Tryz.func270 ?_;exact⟨rfl,hnew w _,wz _ _,(zba w _)⟩
theorem znW {b:Nat} {m:Nat} {w:World} (hr:WrdR r.to) (fb:RelH w b r):CB 269 #[At0 b,i64 m] w (.bool (decide (m<=10000)&&okR r)):=by
 refine cofE 17 [At0 b,i64 m] Tryz.func269 ?_;refine biE (fun h=>?_) fun h=>?_
 ·refine biE (fun h2=>?_) fun h2=>?_
  ·have h2:(m:Int)<=10000:=dT h2;refine⟨relC r,zae _,zaa fb,hlt fb,?_⟩;refine cmo (zbp hr) ?_;rintro e Y ⟨rfl,hbY⟩;exact⟨rb (by rw [decide_eq_true (show m<=10000 by omega),Bool.true_and]),hbY⟩
  ·have h2:¬ (m:Int)<=10000:=dF h2;exact⟨rb (by rw [decide_eq_false (show ¬ m<=10000 by omega),Bool.false_and]),Below.refl _ _⟩
 ·have h:¬ (0:Int)<=m:=dF h;omega
end
def zbH:Enc (List Nat×Option Addr×Nat) where
 sz:=1
 enc x:=[.slice x.2.1 x.1.length x.2.2]
 len x:=rfl
 one x v hv:=by
  simp at hv;subst hv;rfl
 pos:=by decide
theorem zo9 {p:Option Addr} {cap:Nat} {l:List Nat} {w:World} (hl:SlR natE w p l) (hn:l.length<=100000) (hc:p=none->cap=0) :
  Calls Tryz.prog 271 #[.slice p l.length cap] w fun e w'=>(∃ q c,e = .returned (.slice q l.length c)/\OwnS natE 3 w.heap.size w' q c l)/\Bw w w':=by
 refine cofE 8 [.slice p l.length cap] Tryz.func271 ?_;refine⟨_,fun w=>eqlS Tryz.underlying149 _ _ p l.length cap w,?_⟩
 cases p with
 | none =>
  refine brT ?_;have e:=hl.none;subst e;exact⟨⟨none,0,rfl,OwnS.nil⟩,Below.refl _ _⟩
 | some a =>
  refine brF ?_;refine⟨⟨by decide,by decide,rfl⟩,[],rfl,?_⟩;have hb0:Bw w (w.alloc (.cells #[] 3)):=zba w _;refine zhW (E:=natE) (T:=3) (B:=w.heap.size) (l:=[]) (news:=l) (cap:=0) Tryz.underlying149 k3 rfl rfl rfl zho rfl (hl.below hb0) (fun h=>by cases h) hb0.size (by simp;omega) (by show (0+l.length)*8<=_;omega) ?_;intro p' cap' w' ho hg hbw;exact⟨⟨p',cap',rfl,ho⟩,hb0.trans hbw⟩
def NInI (B:Nat) (F:Nat->Prop) (Y:World) (x:List Nat×Option Addr×Nat):Prop:=OwnS natE 3 B Y x.2.1 x.2.2 x.1/\∀ a,x.2.1=some a->F a.block
theorem zfX (B:Nat):zlw 149 176 (NInI B):=by
 rintro F G Y Z x ⟨h1,h2⟩ hs hFG;refine⟨h1.same fun a ha=>?_,fun a ha=>hFG _ (h2 a ha)⟩;obtain⟨_,_,cur,hc⟩:=zau h1 ha;exact hs _ cur 3 (h2 a ha) hc (by decide) (by decide)
theorem zqz {before:Nat->Nat}:∀ (m left:Nat) (l:List Nat),∀ x∈extR before m left l,x.length<=l.length+m:=by
 intro m
 induction m with
 | zero =>
  intro left l x hx;unfold extR at hx
  split at hx
  ·simp only [List.mem_singleton] at hx;subst hx;omega
  ·cases hx
 | succ m ih =>
  intro left l x hx;unfold extR at hx
  split at hx
  ·simp only [List.mem_singleton] at hx;subst hx;omega
  ·obtain⟨a,_,ha⟩:=List.mem_flatMap.1 hx
   split at ha
   ·have:=ih _ _ _ ha;simp only [lap,List.length_cons,List.length_nil] at this;omega
   ·cases ha
theorem zmC {r:RelD} {x:List Nat} (h:x∈ordR r):x.length<=64:=by
 unfold ordR at h
 split at h
 ·have:=zqz _ _ _ x h;simpa using this
 ·cases h
def AscB (xs:List (List Nat×Option Addr×Nat)):Prop:=xs.Pairwise fun x y=>∀ a b,x.2.1=some a->y.2.1=some b->a.block<b.block
theorem AscB.snoc {xs:List (List Nat×Option Addr×Nat)} {n:Nat} {y:List Nat×Option Addr×Nat} (h:AscB xs) (h1:∀ x∈xs,∀ a,x.2.1=some a->a.block<n) (h2:∀ a,y.2.1=some a->n<=a.block):AscB (xs++[y]):=by
 unfold AscB;rw [List.pairwise_append];refine⟨h,List.pairwise_singleton _ _,fun x hx z hz a b ha hb=>?_⟩;rw [List.mem_singleton.1 hz] at hb;exact nL (h1 x hx a ha) (h2 b hb)
abbrev ztA:List (List Nat×Option Addr×Nat):=[]
theorem zo6 {r:RelD} {m:Nat} {w:World} (hr:WrdR r.to) (hT:Tz64M w) (hm:m<=10000) (hok:okR r=true) :
  Calls Tryz.prog 239 #[.agg (relC r).toArray,i64 m] w fun e w' =>
   (((ordR r).length<=m/\∃ (xs:List (List Nat×Option Addr×Nat)) (p:Option Addr) (c:Nat),e = .returned (.tuple #[.slice p xs.length c,i64 0])/\xs.map (·.1)=ordR r/\AscB xs/\OwnS zbH 149 w.heap.size w' p c xs/\∀ x∈xs,OwnS natE 3 w.heap.size w' x.2.1 x.2.2 x.1) \/
    (m<(ordR r).length/\e = .returned (.tuple #[.slice none 0 0,i64 5])))/\Bw w w':=by
 refine cofM 24 [.agg (relC r).toArray,i64 m] (.c .p (.s .p (.c .p .p))) Tryz.func239 ?_;obtain⟨L,hL⟩:=nm (w.heap.size);refine⟨Unit,fun _=>⟨[(2,At0 L),(3,At0 (L+1)),(4,At0 (L+2)),(5,At0 (L+3))],[]⟩,fun _ X=>(RelH X L r/\X.heap[L+1]?=some (.cells #[i64 m] 3 (0,0))/\X.heap[L+2]?=some (.cells #[.slice none 0 0] 176 (0,0))/\X.heap[L+3]?=some (.cells #[i64 0] 27 (0,0)))/\X.heap.size=L+4/\Bw w X,?_,?_⟩
 ·have s1:=wz w (.cells (relC r).toArray 40);have h2:=hnew (w.alloc (.cells (relC r).toArray 40)) (.cells #[i64 m] 3 (0,0));have s2:=wz (w.alloc (.cells (relC r).toArray 40)) (.cells #[i64 m] 3 (0,0));have h3:=hnew ((w.alloc (.cells (relC r).toArray 40)).alloc (.cells #[i64 m] 3 (0,0))) (.cells #[.slice none 0 0] 176 (0,0));have s3:=wz ((w.alloc (.cells (relC r).toArray 40)).alloc (.cells #[i64 m] 3 (0,0))) (.cells #[.slice none 0 0] 176 (0,0));have h4:=hnew (((w.alloc (.cells (relC r).toArray 40)).alloc (.cells #[i64 m] 3 (0,0))).alloc (.cells #[.slice none 0 0] 176 (0,0))) (.cells #[i64 0] 27 (0,0));have s4:=wz (((w.alloc (.cells (relC r).toArray 40)).alloc (.cells #[i64 m] 3 (0,0))).alloc (.cells #[.slice none 0 0] 176 (0,0))) (.cells #[i64 0] 27 (0,0));rw [s1] at h2 s2;rw [s2] at h3 s3;rw [s3] at h4 s4;rw [<- hL] at h2 s2 h3 s3 h4 s4;have f0:=hold (.cells #[i64 0] 27 (0,0)) (hold (.cells #[.slice none 0 0] 176 (0,0)) (hold (.cells #[i64 m] 3 (0,0)) (hnew w (.cells (relC r).toArray 40))));rw [<- hL] at f0;refine⟨(),⟨.cons (by rw [hL];rfl) (.cons (by rw [hL,<- s1];rfl) (.cons (by rw [<- s2];rfl) (.cons (by rw [<- s3];rfl) .nil))),rfl⟩,⟨f0,hold _ (hold _ h2),hold _ h3,h4⟩,s4,?_⟩;exact ((((zba w _)).alloc (by simp) _).alloc (by simp;omega) _).alloc (by simp;omega) _
 rintro _ X ⟨⟨f0,f1,f2,f3⟩,sX,hbX⟩;refine⟨_,zac (zaa f1) (i:=0) rfl,?_⟩;refine cmo (znW hr f0) ?_;rintro e Y ⟨rfl,hbY⟩;refine brN (by rw [hok,decide_eq_true hm];rfl) ?_;have hwY:=zst hbX hbY;obtain⟨M,hM⟩:=nm (Y.heap.size);have hMX:L+4<=M:=by have:=hbY.size;omega
 refine⟨Unit,fun _=>⟨[(2,At0 L),(3,At0 (L+1)),(4,At0 (L+2)),(5,At0 (L+3)),(6,At0 M)],[]⟩,fun _ V=>V.heap[M]?=some (.cells #[.slice none 0 0] 176 (0,0))/\V.heap.size=M+1/\Bw X V,?_,?_⟩
 ·exact⟨(),⟨.cons rfl (.cons rfl (.cons rfl (.cons rfl (.cons (by rw [hM];rfl) .nil)))),rfl⟩,by rw [hM];exact hnew Y _,by rw [hM];exact wz Y _,hbY.alloc hbY.size _⟩
 rintro _ V ⟨fM,sV,hbV⟩;have hwV:=zst hbX hbV;have f0:=zab hbV f0;have f1:=zab hbV f1;have f2:=zab hbV f2;have f3:=zab hbV f3;refine⟨relC r,zae _,zaa f0,hlt f0,?_⟩;refine cmo zsC ?_;rintro e W ⟨rfl,fx,sW,hbW⟩;obtain⟨p0,p48,_⟩:=zbx hok;have hwW:=zst hwV hbW;have htl:=zcB hT;have hI:=ztJ hr p48 fx (hT.below hwW);have f1:=zab hbW f1;have f2:=zab hbW f2;have f3:=zab hbW f3;have fM:=zab hbW fM;have hwL:w.heap.size=L:=hL.symm;clear hbV hbY hwY hbX f0 sX;refine zfd (sgOk _) rfl (lb := #[At0 V.heap.size]) rfl rfl hI (Nat.le_refl _) (fun k hk=>⟨?_,rfl⟩) (fun pre vs W ⟨l,q,c,_,h,_⟩=>by rw [h];rfl) (by decide)
  (fun k=>k=M\/k=L+2\/k=L+3)
  (fun pre F Z=>(∃ xs,(xs.map (·.1)=pre/\pre.length<=m/\AscB xs)/\Gath zbH 149 176 (L+4) W.heap.size M W (NInI (L+4)) xs F Z)/\F (L+2)/\F (L+3))
  (fun ex pre F Z=>ex = .ret/\m<(ordR r).length/\Z.heap[L+2]?=some (.cells #[.slice none 0 0] 176 (0,0))/\Z.heap[L+3]?=some (.cells #[i64 5] 27 (0,0))/\Bw w Z/\W.heap.size<=Z.heap.size/\F (L+2)/\F (L+3)/\∀ k,F k->k<Z.heap.size)
  (fun k hk=>?_) ⟨?_,?_⟩ (fun ex=>⟨?_,?_⟩) ?_ ?_ ?_ ?_
 ·rcases hk with (rfl | rfl) | h
  ·omega
  ·have:=hwW.size;omega
  ·exact h.elim
 ·rcases hk with rfl | rfl <;> omega
 ·rintro pre F A C ⟨h,h2,h3⟩ hs;exact⟨(Gath.iter (σ:=List (List Nat)) (f:=fun pre xs=>xs.map (·.1)=pre/\pre.length<=m/\AscB xs) (zfX (L+4)) (by omega)).step pre F A C h hs,h2,h3⟩
 ·rintro pre F A k ⟨h,_⟩ hk;exact (Gath.iter (σ:=List (List Nat)) (f:=fun pre xs=>xs.map (·.1)=pre/\pre.length<=m/\AscB xs) (zfX (L+4)) (by omega)).lt pre F A k h hk
 ·rintro pre F A C ⟨h1,h2,h3,h4,h5,h6,h7,h8,h9⟩ hs;exact⟨h1,h2,(hs.same _ (hlt h3) (.inr h7)).trans h3,(hs.same _ (hlt h4) (.inr h8)).trans h4,h5.trans ⟨hs.os,hs.tape,hs.output,hs.size,fun k hk=>hs.same k (nL hk h5.size) (.inl ⟨by omega,fun h=>h⟩)⟩,Nat.le_trans h6 hs.size,h7,h8,fun k hk=>nL (h9 k hk) hs.size⟩
 ·rintro pre F A k ⟨h1,h2,h3,h4,h5,h6,h7,h8,h9⟩ hk;exact⟨h9 k hk,fun h=>h⟩
 ·refine⟨⟨ztA,⟨rfl,Nat.zero_le _,List.Pairwise.nil⟩,⟨Nat.le_refl _,.inl rfl,fun k hk=>?_,⟨none,0,fM,OwnS.nil,fun a h=>by cases h⟩,fun x hx=>(by cases hx),Below.refl _ _⟩⟩,.inr (.inl rfl),.inr (.inr rfl)⟩;rcases hk with rfl | rfl | rfl <;> omega
 ·rintro yl pre x vs F Y hyl hpre hJ ⟨l,q,c,hlast,rfl,hsl,hqc,hcel⟩ hfy ⟨lo,hlo⟩;have hxR:x=l:=by simpa using hlast
  subst hxR;refine⟨rfl,F,KeepsG.refl _ _,hJ,?_⟩;rintro o Y2 hY2 ⟨⟨xs,⟨hxs,hpm,hasc⟩,hG⟩,hF2,hF3⟩;have hpl:pre.length<(ordR r).length:=by
   obtain⟨t,ht⟩:=hpre;rw [<- ht];simp only [lap,List.length_cons];omega
  have hxl:xs.length=pre.length:=by rw [<- hxs,List.length_map]
  have hmem:x∈ordR r:=hpre.subset (by simp);have hlen:=zmC hmem;have hslY:SlR natE Y2 q x:=by
   rw [hY2];refine zbf hsl fun a ha=>zah fun e=>?_;obtain⟨cur,hcur⟩:=hcel a ha;rw [e,hlo] at hcur
   cases hcur
  obtain⟨p,c',h4,h5,h6⟩:=hG.row;have hWL:L+4<=W.heap.size:=by omega
  have g1:Y2.heap[L+1]?=some (.cells #[i64 m] 3 (0,0)):=(hG.old.block _ (by omega)).trans f1;refine⟨_,zac (zaa h4) (i:=0) rfl,?_⟩;refine⟨_,zac (zaa g1) (i:=0) rfl,?_⟩;refine biE (fun hc=>?_) fun hc=>?_
  ·have hc:((xs.length:Nat):Int)=(m:Int):=dT hc;have g2:Y2.heap[L+2]?=some (.cells #[.slice none 0 0] 176 (0,0)):=(hG.old.block _ (by omega)).trans f2;have g3:Y2.heap[L+3]?=some (.cells #[i64 0] 27 (0,0)):=(hG.old.block _ (by omega)).trans f3;refine zaq k176 g2 (o:=0) (v := .slice none 0 0) rfl rfl (by show 0<1;decide) rfl fun Z1 fZ1 gZ1 sZ1=>?_;refine zaq k27 ((gZ1.block (L+3) (hlt g3) (by simp)).trans g3) (o:=0) (v:=i64 5) rfl rfl (by show 0<1;decide) rfl fun Z2 fZ2 gZ2 sZ2=>?_;refine⟨F,⟨rfl,by omega,(gZ2.block (L+2) (hlt fZ1) (by simp)).trans fZ1,fZ2,?_,by have:=hG.size;omega,hF2,hF3,fun k hk=>by have:=hG.lt k hk;omega⟩,(KeepsG.grown gZ1 hF2).trans (KeepsG.grown gZ2 hF3)⟩;have hwY:=hwW.trans (hG.old.mono (by omega));exact (hwY.trans (zak gZ1 hwY.size (by omega))).trans (zak gZ2 (by have:=hwY.size;omega) (by omega))
  ·have hc:¬ ((xs.length:Nat):Int)=(m:Int):=dF hc;refine DrawE.ord [4,5] [0,1,2,3,4,5] (by kernel_rfl) ?_;have hd2:Bw Y2 Y2.drew:=(Below.refl _ _).drew;refine⟨_,zac (zaa (hdr h4)) (i:=0) rfl,?_⟩;refine cmo (zo9 (hslY.below hd2) (by omega) hqc) ?_;rintro e Y3 ⟨⟨q1,k1,rfl,o1⟩,hb3⟩;refine⟨hb3,?_⟩;obtain⟨nx,hnx⟩:∃ nx:List Nat×Option Addr×Nat,nx=(x,q1,k1):=⟨_,rfl⟩;have hen:[Value.slice q1 x.length k1]=zbH.enc nx:=by rw [hnx];rfl
   refine⟨⟨by decide,by decide,rfl⟩,zbH.enc nx,by rw [<- hen];rfl,?_⟩;have hba:Bw Y3 (Y3.alloc (.cells (zbH.enc nx).toArray 149)):=zba _ _;refine⟨hba,?_⟩;have hnw:∀ (G:Nat->Prop) (Z:World),(∀ k,Y2.heap.size<=k->k<Y3.heap.size->Z.heap[k]?=Y3.heap[k]?)->(∀ k,Y2.heap.size<=k->k<Y3.heap.size->G k)->NInI (L+4) G Z nx:=by
    intro G Z hs hg;rw [hnx];have ol:∀ a,q1=some a->Y2.heap.size<=a.block/\a.block<Y3.heap.size:=fun a ha=>⟨(zau o1 ha).1,(zau o1 ha).2.1⟩;have hY2s:=hG.size;exact⟨OwnS.lower (o1.same fun a ha=>hs _ (ol a ha).1 (ol a ha).2) (by show L+4<=Y2.heap.size;omega),fun a ha=>hg _ (ol a ha).1 (ol a ha).2⟩
   obtain⟨v,Y5,hrun,Z,hrun2,F',hG',hK',hFF⟩:=hG.step (P:=Tryz.prog) (ty:=176) (cap1:=1) (zfX (L+4)) (by decide) Tryz.underlying176 k149 rfl rfl rfl k176 rfl (by omega) (by omega) (hd2.trans hb3) nx (by omega) (by show (xs.length+1)*24<=_;omega) hnw p c' h4;refine SatR.mk hrun ?_;refine SatR.mk hrun2 ?_;exact⟨F',⟨⟨_,⟨by rw [List.map_append,hxs,hnx];rfl,by simp only [lap,List.length_cons,List.length_nil];omega,hasc.snoc (n:=Y2.heap.size) (fun x' hx' a ha=>(zau (hG.nest x' hx').1 ha).2.1) (fun a ha=>by rw [hnx] at ha;exact (zau o1 ha).1)⟩,hG'⟩,hFF _ hF2,hFF _ hF3⟩,hK'⟩
 ·rintro D F Y hD hfD ⟨⟨xs,⟨hxs,hpm,hasc⟩,hG⟩,hF2,hF3⟩ hdef;obtain⟨p,c',h4,h5,h6⟩:=hG.row;have hWL:L+4<=W.heap.size:=by omega
  have g2:Y.heap[L+2]?=some (.cells #[.slice none 0 0] 176 (0,0)):=(hG.old.block _ (by omega)).trans f2;have g3:Y.heap[L+3]?=some (.cells #[i64 0] 27 (0,0)):=(hG.old.block _ (by omega)).trans f3;refine⟨_,zac (zaa h4) (i:=0) rfl,?_⟩;refine zaq k176 g2 (o:=0) (v := .slice p xs.length c') rfl rfl (by show 0<1;decide) rfl fun Z1 fZ1 gZ1 sZ1=>?_;refine zaq k27 ((gZ1.block (L+3) (hlt g3) (by simp)).trans g3) (o:=0) (v:=i64 0) rfl rfl (by show 0<1;decide) rfl fun Z2 fZ2 gZ2 sZ2=>?_;have k2:∀ k,k<Y.heap.size->k≠L+2->k≠L+3->Z2.heap[k]?=Y.heap[k]?:=fun k hk n1 n2=>(gZ2.block k (by rw [sZ1];exact hk) (by simpa using n2)).trans (gZ1.block k hk (by simpa using n1));refine⟨_,rfl,(k2 D (hlt hdef) (by omega) (by omega)).trans hdef,?_⟩;have f2':=(gZ2.block (L+2) (hlt fZ1) (by simp)).trans fZ1;have nD2:D≠L+2:=fun e=>hfD (e▸hF2);have nD3:D≠L+3:=fun e=>hfD (e▸hF3);have hwY:=hwW.trans (hG.old.mono (by omega));have b2:=(hwY.trans (zak gZ1 hwY.size (by omega))).trans (zak gZ2 (by have:=hwY.size;omega) (by omega));have kp:∀ a:Addr,L+4<=a.block->F a.block->a.block<Y.heap.size->(Z2.putObj D (.deferred none)).heap[a.block]?=Y.heap[a.block]?:=fun a h1 h2 h3=>(zah fun e=>by rw [<- e] at hfD;exact hfD h2).trans (k2 _ h3 (by omega) (by omega));refine⟨.slice p xs.length c',zac (zaa ((zah fun e=>nD2 e.symm).trans f2')) (i:=0) rfl,i64 0,zac (zaa ((zah fun e=>nD3 e.symm).trans fZ2)) (i:=0) rfl,.inl ⟨by rw [<- hxs,List.length_map] at hpm ⊢;exact hpm,xs,p,c',rfl,hxs,hasc,?_,fun x hx=>?_⟩,zbl b2 (by omega) _⟩
  ·exact OwnS.lower (h5.same fun a ha=>kp a (zau h5 ha).1 (h6 a ha) (zau h5 ha).2.1) (by omega)
  ·obtain⟨hx1,hx2⟩:=hG.nest x hx;exact OwnS.lower (hx1.same fun a ha=>kp a (zau hx1 ha).1 (hx2 a ha) (zau hx1 ha).2.1) (by omega)
 ·rintro D ex pre F Y hD hfD hpre ⟨rfl,hm2,h3,h4,h5,h6,h7,h8,h9⟩ hdef;refine⟨_,rfl,hdef,?_⟩;have nD2:D≠L+2:=fun e=>hfD (e▸h7);have nD3:D≠L+3:=fun e=>hfD (e▸h8);exact⟨_,zac (zaa ((zah fun e=>nD2 e.symm).trans h3)) (i:=0) rfl,_,zac (zaa ((zah fun e=>nD3 e.symm).trans h4)) (i:=0) rfl,.inr ⟨hm2,rfl⟩,zbl h5 (by have:=hwW.size;omega) _⟩
theorem zo7 {p:Option Addr} {cap:Nat} {l:List Nat} {s:Nat} {w:World} (hl:SlR natE w p l) (hn:l.length<=140737488351232) :
  Calls Tryz.prog 268 #[.slice p l.length cap,i64 s] w fun e w'=>∃ n:Int,e = .returned (i64 n)/\decide (0<=n)=l.any (fun q=>decide (q=s))/\w=w':=by
 refine cofE 19 [.slice p l.length cap,i64 s] Tryz.func268 ?_;refine⟨Nat,fun k=>⟨[(0,.slice p l.length cap),(1,i64 s),(7,i64 l.length),(8,i64 (k:Nat))],[]⟩,fun k X=>k<=l.length/\(∀ q∈l.take k,¬ q=s)/\w=X,fun k=>l.length-k,0,(cvE rfl rfl),⟨Nat.zero_le _,by simp,rfl⟩,?_⟩;rintro k _ ⟨hk,hno,rfl⟩;dsimp only at hk hno ⊢;refine biE (fun hc=>?_) fun hc=>?_
 ·have hc:(k:Int)<(l.length:Int):=dT hc;have hkl:k<l.length:=by omega
  obtain⟨b,o,rfl,hb,hat⟩:=hl.at hkl;refine⟨k,rfl,hkl,?_⟩;refine⟨i64 l[k],zac (hat k hkl) (i:=0) rfl,?_⟩;refine biE (fun h=>?_) fun h=>?_
  ·have h:(s:Int)=(l[k]:Nat):=dT h;refine⟨k,rfl,?_,rfl⟩;rw [decide_eq_true (by omega)];symm;rw [List.any_eq_true];exact⟨l[k],gM _,decide_eq_true (by omega)⟩
  ·have h:¬ (s:Int)=(l[k]:Nat):=dF h;refine⟨(k+1:Nat),(zai (by omega)).trans (by omega),?_⟩;refine⟨k+1,(cvE rfl rfl),⟨hkl,?_,rfl⟩,zdc (by omega)⟩;rw [tsg hkl];intro q hq;rcases List.mem_append.1 hq with hq | hq
   ·exact hno q hq
   ·simp only [List.mem_singleton] at hq;rw [hq];exact fun e=>h (by rw [e])
 ·have hc:¬ (k:Int)<(l.length:Int):=dF hc;obtain rfl:k=l.length:=by omega
  rw [List.take_length] at hno;refine⟨-1,rfl,?_,rfl⟩;symm;show _=false;rw [List.any_eq_false];exact fun q hq=>by simpa using hno q hq
theorem zjK {p:Option Addr} {cap:Nat} {l:List Nat} {s:Nat} {w:World} (hl:SlR natE w p l) (hn:l.length<=140737488351232) :
  Calls Tryz.prog 235 #[.slice p l.length cap,i64 s] w fun e w'=>e = .returned (.bool (l.any fun q=>decide (q=s)))/\w=w':=by
 refine cofE 9 [.slice p l.length cap,i64 s] Tryz.func235 ?_;refine cmo (zo7 hl hn) ?_;rintro e _ ⟨n,rfl,h,rfl⟩;exact⟨rb h,rfl⟩
abbrev rowI (l:List Nat):List Value:=l.map fun n:Nat=>i64 n
abbrev RowI (Z:World) (g:Nat) (l:List Nat):Prop:=Z.heap[g]?=some (.cells (rowI l).toArray 3 (0,0))
theorem zfv:∀ l:List Nat,l.flatMap natE.enc=rowI l
 | []=>rfl
 | a::l=>by
  show i64 a::l.flatMap natE.enc=i64 a::rowI l;rw [zfv l]
theorem zjO:∀ n,zrep [Value.int IntKind.i64 0] n=rowI (List.replicate n 0)
 | 0=>rfl
 | n+1=>by
  show Value.int IntKind.i64 0::zrep [Value.int IntKind.i64 0] n=i64 0::rowI (List.replicate n 0);rw [<- zjO n];rfl
theorem RowI.sl {Z:World} {g:Nat} {l:List Nat} (h:RowI Z g l):SlR natE Z (some ⟨g,0,none⟩) l :=
 SlR.of_cells (hlt h) (by rw [zfv];exact zaa h)
theorem zmo {α:Type} {f:Nat->α} {n j:Nat} (h:j<n):((List.range j).map f++[f j]) <+: (List.range n).map f:=by
 obtain⟨m,rfl⟩:∃ m,n=(j+1)+m:=⟨n-(j+1),by omega⟩;rw [List.range_add,List.map_append];exact⟨_,by rw [List.range_succ,List.map_append];rfl⟩
def StD (pre:List (List Nat)) (vs:List Value) (W:World):Prop:=∃ l q,pre.getLast?=some l/\vs=[.slice q l.length l.length]/\SlR natE W q l/\∀ a,q=some a->∃ cur,W.heap[a.block]?=some (.cells cur 3 (0,0))
section
variable {bx:Nat} {sizes:List Nat} {q:Option Addr} {c:Nat} {W0:World}
theorem zrP (fx:W0.heap[bx]?=some (.cells #[.slice q sizes.length c] 149 (0,0))) (hl:SlR natE W0 q sizes) (hql:∀ a,q=some a->a.block<W0.heap.size) (hn:sizes.length<=1000) (hm:∀ n∈sizes,n<=1000000) :
  zlx Tryz.prog 234 [At0 bx] (zeo sizes) W0 (fun k=>k=bx\/∃ a,q=some a/\k=a.block) (fun _=>False) StD:=by
 intro yl F0 J Jx W hsz hrd hrf hJ hJx hy h0;have fxW:=(hrd bx (.inl (.inl rfl))).trans fx;have hlW:SlR natE W q sizes:=zbf hl fun a ha=>hrd _ (.inl (.inr ⟨a,ha,rfl⟩));refine cofE 43 [.func (.yield yl) #[] #[],At0 bx] Tryz.func234 ?_;refine⟨_,zac (zaa fxW) (i:=0) rfl,?_⟩;refine cmo (zjK (s:=0) hlW (by omega)) ?_;rintro e _ ⟨rfl,rfl⟩;refine biE (fun h=>?_) fun h=>?_
 ·have h:(sizes.any fun q=>decide (q=0))=true:=h;obtain⟨z,hz,hz0⟩:=List.any_eq_true.1 h;have hz0:z=0:=dT hz0;subst hz0;have hs:zeo sizes=[]:=by unfold zeo;rw [zeX (by simpa using hz)];rfl
  rw [hs];exact⟨⟨_,rfl⟩,.inl ⟨F0,h0⟩⟩
 have h:(sizes.any fun q=>decide (q=0))=false:=h;obtain⟨rs,hrs⟩:=nm (sizes.reverse);have hr0:∀ n∈rs,n≠0:=fun n hn e=>by
  rw [List.any_eq_false] at h;exact h n (by rw [hrs] at hn;simpa using hn) (decide_eq_true e)
 have hlen:rs.length=sizes.length:=by rw [hrs,List.length_reverse]
 refine⟨_,zac (zaa fxW) (i:=0) rfl,?_⟩;refine ziH Tryz.underlying149 k3 rfl rfl (by decide) sizes.length (by show 8*_<=_;omega) (by omega) fun X fX hbX sX=>?_;rw [zjO] at fX;obtain⟨D,hD⟩:∃ D:Nat->List Nat,D=fun j=>(digL rs j).reverse:=⟨_,rfl⟩;have hDl:∀ j,(D j).length=sizes.length:=fun j=>by rw [hD];show ((digL rs j).reverse).length=_;rw [List.length_reverse,zfB,hlen]
 have hds:zeo sizes=(List.range (zbd rs)).map D:=by unfold zeo;rw [hD,hrs]
 have hP:0<zbd rs:=zin hr0;have hD0:D 0=List.replicate sizes.length 0:=by
  rw [hD];show (digL rs 0).reverse=_;rw [ziS,List.reverse_replicate,hlen]
 rw [<- hD0] at fX;rw [hds] at hy ⊢;obtain⟨g,hg⟩:=nm (W.heap.size);rw [<- hg] at fX;have hbxW:=hlt fxW;refine⟨Nat×(Nat->Prop),fun s=>⟨[(0,.func (.yield yl) #[] #[]),(1,At0 bx),(3,.slice (some ⟨g,0,none⟩) sizes.length sizes.length)],[]⟩,
  fun s Z=>s.1<zbd rs/\J ((List.range s.1).map D) s.2 Z/\RowI Z g (D s.1)/\¬ s.2 g/\W.heap.size<=Z.heap.size/\Z.heap[bx]?=some (.cells #[.slice q sizes.length c] 149 (0,0))/\¬ s.2 bx/\RowF natE W.heap.size s.2 Z q sizes,
  fun s=>zbd rs-s.1,(0,F0),⟨.cons rfl (.cons rfl (.cons (by rw [hg];rfl) .nil)),rfl⟩,
  ⟨hP,hJ.step _ _ _ _ h0 (.below hbX),fX,fun h=>by have:=(hJ.lt _ _ _ _ h0 h).1;omega,hbX.size,zab hbX fxW,hrf _ (.inl rfl),⟨hlW.below hbX,fun a ha=>⟨by have:=hql a ha;omega,hrf _ (.inr ⟨a,ha,rfl⟩)⟩⟩⟩,?_⟩
 rintro⟨j,F⟩ Z ⟨hj,hjZ,fZ,hgF,hWZ,fxZ,hbF,hqZ⟩;dsimp only at hj hjZ fZ hgF fxZ hbF hqZ ⊢;have hpre:((List.range j).map D++[D j]) <+: (List.range (zbd rs)).map D:=zmo hj;refine YieldR.mono (hy _ (D j) [.slice (some ⟨g,0,none⟩) sizes.length sizes.length] F Z hjZ ⟨D j,_,by simp,by rw [hDl j],fZ.sl,fun a ha=>(by cases ha;exact⟨_,fZ⟩)⟩ hpre) ?_;rintro v Y (⟨rfl,F',hjY,kY⟩ | ⟨rfl,F',hjY⟩)
 ·refine brT ?_;have hgZ:=hlt fZ;have fY:RowI Y g (D j):=(kY.same g hgZ hgF).trans fZ;have hgF':¬ F' g:=fun h=>by
   rcases kY.fp g h with h | h
   ·exact hgF h
   ·omega
  have fxY:=(kY.same bx (hlt fxZ) hbF).trans fxZ;have hbF':¬ F' bx:=fun h=>by
   rcases kY.fp bx h with h | h
   ·exact hbF h
   ·have:=hlt fxZ;omega
  have hqY:=hqZ.keep hWZ kY (fun _ _ h=>h);have hWY:=Nat.le_trans hWZ kY.size;have hjY2:J ((List.range (j+1)).map D) F' Y:=by
   rw [List.range_succ,List.map_append];exact hjY
  clear hjY hpre fZ fxZ hqZ hjZ hWZ hgZ hgF hbF kY;refine⟨((sizes.length:Nat):Int)-1,zai (by omega),?_⟩;have hgn:W.heap.size<=g:=by omega
  have hbg:bx≠g:=by omega
  refine⟨Nat,fun t=>⟨[(0,.func (.yield yl) #[] #[]),(1,At0 bx),(3,.slice (some ⟨g,0,none⟩) sizes.length sizes.length),(4,i64 (((sizes.length:Nat):Int)-1-(t:Nat)))],[]⟩,
   fun t V=>t<=sizes.length/\zjL rs j t/\RowI V g ((List.replicate t 0++(digL rs j).drop t).reverse)/\J ((List.range (j+1)).map D) F' V/\W.heap.size<=V.heap.size/\V.heap[bx]?=some (.cells #[.slice q sizes.length c] 149 (0,0))/\RowF natE W.heap.size F' V q sizes,fun t=>sizes.length-t,0,
   ⟨.cons rfl (.cons rfl (.cons rfl (.cons (by rw [Int.ofNat_zero,Int.sub_zero];rfl) .nil))),rfl⟩,⟨Nat.zero_le _,zlq _ _,by rw [hD] at fY;exact fY,hjY2,hWY,fxY,hqY⟩,?_⟩
  clear fY fxY hqY hjY2 hWY;rintro t V ⟨ht,hc,fV,hjV,hWV,fxV,hqV⟩;dsimp only at ht hc fV hjV ⊢;have hLl:(digL rs j).length=sizes.length:=by rw [zfB,hlen]
  refine DrawE.ord [] [0,1,2,3,4,5,6,7,8,9,10,11,12,13] (by kernel_rfl) ?_;refine biE (fun hi=>?_) fun hi=>?_
  ·have hi:(0:Int)<=((sizes.length:Nat):Int)-1-(t:Nat):=dT hi;have htl:t<sizes.length:=by omega
   obtain⟨i,hit⟩:∃ i,i+t+1=sizes.length:=⟨sizes.length-1-t,by omega⟩;have hii:((sizes.length:Nat):Int)-1-(t:Nat)=(i:Nat):=by omega
   rw [hii];obtain⟨d,hd⟩:∃ d,(digL rs j)[t]?=some d:=⟨_,gE (by omega)⟩;obtain⟨n,hn⟩:∃ n,rs[t]?=some n:=⟨_,gE (by omega)⟩;have hil:i<sizes.length:=by omega
   have hsn:sizes[i]=n:=by
    have:=List.getElem?_reverse (l:=sizes) (i:=t) htl;rw [<- hrs,hn,show sizes.length-1-t=i by omega,gE hil] at this;exact (Option.some.inj this).symm
   have hnm:n∈sizes:=by rw [<- hsn];exact gM hil
   have hn1:=hm n hnm;have hn0:n≠0:=hr0 n (by rw [hrs];simpa using hnm);have hrow:=zrB hd (i:=i) (by omega);have hdn:d<n:=by
    obtain⟨A,ns,k,c1,c2,c3,c4,c5⟩:=hc
    cases ns with
    | nil=>rw [c1,List.append_nil,List.getElem?_eq_none (by omega)] at hn;cases hn
    | cons m ns =>
     have hm':m=n:=by
      rw [c1,List.getElem?_append_right (by omega),c2,Nat.sub_self] at hn;exact Option.some.inj hn
     have:=congrArg (fun l=>l[0]?) c4;simp only [List.getElem?_drop,Nat.add_zero] at this;rw [hd] at this;have:d=k%m:=Option.some.inj this;rw [this,hm'];exact Nat.mod_lt _ (by omega)
   have hrl:((List.replicate t 0++(digL rs j).drop t).reverse).length=sizes.length:=by simp;omega
   refine⟨i,rfl,hil,?_⟩;have hrc:(rowI (List.replicate t 0++(digL rs j).drop t).reverse)[i*1]?=some (i64 d):=by
    rw [Nat.mul_one,List.getElem?_map,hrow];rfl
   refine⟨i64 d,zac (zaa (hdr fV)) hrc,?_⟩;refine⟨_,zac (zaa (hdr fxV)) (i:=0) rfl,?_⟩;obtain⟨bq,oq,hqe,hlq,hatq⟩:=hqV.row.at hil;subst hqe;refine⟨i,rfl,hil,?_⟩;refine⟨i64 n,by rw [<- hsn];exact zac (zar (Below.refl _ V).drew (hatq i hil)) (i:=0) rfl,?_⟩;refine⟨((n:Nat):Int)-1,zai (by omega),?_⟩;refine biE (fun he=>?_) fun he=>?_
   ·have he:(d:Int)=(n:Int)-1:=dT he;have hrs2:=zmj hd (i:=i) (by omega) 0;refine⟨i,rfl,hil,?_⟩;refine zaq k3 (hdr fV) (o:=0+i*1) (v:=i64 0) rfl rfl (by rw [List.length_map,hrl];omega) rfl fun V1 fV1 gV1 sV1=>?_;refine⟨((sizes.length:Nat):Int)-1-((t+1:Nat):Int),(zai (by omega)).trans (by omega),?_⟩;have gV2:V.grownBy V1 (some g):=zaf (zag (Below.refl _ V).drew) gV1;have kV:KeepsG (fun k=>k=g) (fun _=>False) V V1:=⟨gV2.os,gV2.tape,gV2.output,gV2.size,fun k hk hf=>gV2.block k hk (fun e=>hf (by cases e;rfl)),fun k h=>h.elim⟩;have hsV:=gV2.size;refine⟨t+1,(cvE rfl rfl),⟨htl,zls hr0 hc hn hd (by omega),?_,hJ.step _ _ _ _ hjV (StepG.grown gV2 (.inl hgn) hgF'),by omega,(gV2.block bx (hlt fxV) (by simpa using hbg)).trans fxV,⟨zbf hqV.row fun a ha=>gV2.block _ (by have:=(hqV.out a ha).1;omega) (by have:=(hqV.out a ha).1;simp;omega),hqV.out⟩⟩,zdc (by omega)⟩;show RowI V1 g _;rw [<- zom,<- hrs2];rw [Nat.mul_one,Nat.zero_add] at fV1;refine fV1.trans ?_;unfold rowI;rw [List.map_set];rfl
   ·have he:¬ (d:Int)=(n:Int)-1:=dF he;have hstop:=zlr hr0 hc hn hd (by omega);have hmore:=zlt hr0 hc hn hd (by omega) hj;have hrs2:=zmj hd (i:=i) (by omega) (d+1);refine brN (decide_eq_false (by omega)) ?_;refine⟨i,rfl,hil,?_⟩;refine⟨i64 d,zac (zaa (hdr fV)) hrc,?_⟩;refine nxI (by omega) ?_;refine⟨i,rfl,hil,?_⟩;refine zaq k3 (hdr fV) (o:=0+i*1) (v:=i64 ((d+1:Nat):Int)) rfl rfl (by rw [List.length_map,hrl];omega) rfl fun V1 fV1 gV1 sV1=>?_;have gV2:V.grownBy V1 (some g):=zaf (zag (Below.refl _ V).drew) gV1;have hsV:=gV2.size;refine⟨(j+1,F'),(cvE rfl rfl),⟨hmore,hJ.step _ _ _ _ hjV (StepG.grown gV2 (.inl hgn) hgF'),?_,hgF',by omega,(gV2.block bx (hlt fxV) (by simpa using hbg)).trans fxV,hbF',⟨zbf hqV.row fun a ha=>gV2.block _ (by have:=(hqV.out a ha).1;omega) (by have:=(hqV.out a ha).1;simp;omega),hqV.out⟩⟩,zdc (by omega)⟩;show RowI V1 g (D (j+1));rw [hD];show RowI V1 g (digL rs (j+1)).reverse;rw [hstop,<- hrs2];rw [Nat.mul_one,Nat.zero_add] at fV1;refine fV1.trans ?_;unfold rowI;rw [List.map_set]
  ·have hi:¬ (0:Int)<=((sizes.length:Nat):Int)-1-(t:Nat):=dF hi;have hte:t=rs.length:=by omega
   rw [hte] at hc;have he:=znA hc hj;refine brF ?_;refine brE (decide_eq_true (by omega)) ?_;rw [he] at hjV;exact⟨⟨_,rfl⟩,.inl ⟨F',hJ.step _ _ _ _ hjV (.below (Below.refl _ V).drew)⟩⟩
 ·refine brF ?_;exact⟨⟨_,rfl⟩,.inr ⟨_,F',hpre,hjY⟩⟩
end
def poG (ev:List Ev) (k:Nat):Nat->Nat:=fun i=>if i<k then zfk ev i else 0
theorem zmv (ev:List Ev) (k:Nat):upd (poG ev k) k (zfk ev k)=poG ev (k+1):=by
 funext i;unfold upd poG;by_cases h:i=k
 ·rw [if_pos h,if_pos (by omega),h]
 ·rw [if_neg h];by_cases h2:i<k
  ·rw [if_pos h2,if_pos (by omega)]
  ·rw [if_neg h2,if_neg (by omega)]
theorem zke (ev:List Ev) (k:Nat):upd (poG ev k) k 0=poG ev k:=by
 funext i;unfold upd poG;by_cases h:i=k
 ·rw [if_pos h,if_neg (by omega)]
 ·rw [if_neg h]
theorem zp5 (ev:List Ev):poG ev ev.length=zfk ev:=by
 funext i;unfold poG
 split
 ·rfl
 ·unfold zfk;rw [List.getElem?_eq_none (by omega)]
section
variable {p:Option Addr} {cap:Nat} {ev:List Ev} {w:World}
theorem zd8 (hl:SlR evE w p ev) (hn:ev.length<=48):CB 69 #[.slice p ev.length cap] w (.agg (relC (poR ev)).toArray):=by
 refine cofM 47 [.slice p ev.length cap] (.s .p (.c .p .p)) Tryz.func69 ?_;obtain⟨L,hL⟩:=nm (w.heap.size);have hbL:=hnew w (.cells (relC zax).toArray 40 (0,0));have hbb:Bw w (w.alloc (.cells (relC zax).toArray 40 (0,0))):=zba w _;have hbs:=wz w (.cells (relC zax).toArray 40 (0,0));refine⟨Unit,fun _=>⟨[(0,.slice p ev.length cap),(2,At0 L),(3,At0 (L+1))],[]⟩,fun _ X=>RelH X L zax/\RelH X (L+1) ⟨ev.length,fun _=>0⟩/\X.heap.size=L+2/\Bw w X,?_,?_⟩
 ·refine⟨relC ⟨ev.length,fun _=>0⟩,rfl,?_⟩;refine zal (X:=w.alloc (.cells (relC zax).toArray 40 (0,0))) (v := .agg (relC ⟨ev.length,fun _=>0⟩).toArray) k40 (zae _) rfl (zaD _) fun V hbV fV sV=>?_;rw [hbs] at fV sV;exact⟨(),⟨.cons rfl (.cons (by rw [hL];rfl) (.cons (by rw [hL,<- hbs];rfl) .nil)),rfl⟩,by rw [hL];exact zab hbV hbL,by rw [hL];exact fV,by rw [hL];exact sV,(zst hbb hbV)⟩
 rintro _ X ⟨f0,f1,sX,hbX⟩;refine⟨Nat,fun k=>⟨[(0,.slice p ev.length cap),(2,At0 L),(3,At0 (L+1)),(10,.slice p ev.length cap),(11,i64 ev.length),(12,i64 (k:Nat))],[]⟩,
  fun k V=>k<=ev.length/\RelH V (L+1) ⟨ev.length,poG ev k⟩/\RelH V L zax/\L+1<V.heap.size/\Bw w V,fun k=>ev.length-k,0,
  (cvE rfl rfl),⟨Nat.zero_le _,f1,f0,by omega,hbX⟩,?_⟩
 rintro k V ⟨hk,fV,f0V,sV,hbV⟩;dsimp only at hk fV ⊢;refine biE (fun hc=>?_) fun hc=>?_
 ·have hc:(k:Int)<(ev.length:Int):=dT hc;have hkl:k<ev.length:=by omega
  obtain⟨e,he⟩:∃ e,ev[k]=e:=⟨_,rfl⟩;have hek:ev[k]?=some e:=by rw [<- he];exact gE hkl
  obtain⟨bp,op,rfl,hlp,hat⟩:=hl.at hkl;refine⟨k,rfl,hkl,?_⟩;refine⟨evE.enc e,rfl,by rw [<- he];exact zar hbV (hat k hkl),nL hlp hbV.size,?_⟩;refine zal (X:=V) (v := .agg (evE.enc e).toArray) k208 rfl rfl (List.all_eq_true.2 fun u hu=>evE.one e u hu) fun Y hbY fY sY=>?_;obtain⟨b,hb⟩:=nm (V.heap.size);rw [<- hb] at fY;have eb:some (Value.pointer (some ⟨V.heap.size,0,none⟩))=some (At0 b):=by rw [hb]
  have hwY:=zst hbV hbY;have hMb:L+1<b:=by omega
  have fYM:=zab hbY fV;have fYL:=zab hbY f0V;refine⟨i64 e.th,by rw [<- hb];exact zac (zaa fY) (i:=0) rfl,?_⟩;refine biE (fun h=>?_) fun h=>?_
  ·have h:e.th = -1:=dT h;have hr:zfk ev k=0:=by
    unfold zfk;rw [hek];exact if_pos h
   refine nxI (by omega) ?_;refine⟨k+1,(cvE rfl rfl),⟨hkl,?_,fYL,by omega,hwY⟩,zdc (by omega)⟩;rw [<- zmv,hr,zke];exact fYM
  have h:¬ e.th = -1:=dF h;have hr:zfk ev k=zmw e.th (k+1) (ev.drop (k+1)) 0:=by
   unfold zfk;rw [hek];exact if_neg h
  refine nxI (by omega) ?_;refine⟨Nat×Nat,fun s=>⟨[(0,.slice (some ⟨bp,op,none⟩) ev.length cap),(2,At0 L),(3,At0 (L+1)),(4,i64 (k:Nat)),(5,At0 b),(6,i64 (s.1:Nat)),(10,.slice (some ⟨bp,op,none⟩) ev.length cap),(11,i64 ev.length),(12,i64 (k:Nat))],[]⟩,
   fun s Z=>s.1<=ev.length/\zfk ev k=zmw e.th s.1 (ev.drop s.1) s.2/\s.2<2^64/\RelH Z (L+1) ⟨ev.length,upd (poG ev k) k s.2⟩/\RelH Z L zax/\Z.heap[b]?=some (.cells (evE.enc e).toArray 208 (0,0))/\Bw w Z,fun s=>ev.length-s.1,(k+1,0),
   ⟨.cons rfl (.cons rfl (.cons rfl (.cons rfl (.cons eb (.cons rfl (.cons rfl (.cons rfl (.cons rfl .nil)))))))),rfl⟩,⟨hkl,hr,(by decide:0<2^64),by rw [zke];exact fYM,fYL,fY,hwY⟩,?_⟩
  clear fY fYM fYL hwY hbY sY f0V fV hbV sV;rintro⟨j,s⟩ Z ⟨hj,hacc,hs,fM,fL,fb,hbZ⟩;dsimp only at hj hacc hs fM ⊢;refine biE (fun hc=>?_) fun hc=>?_
  ·have hc:(j:Int)<(ev.length:Int):=dT hc;have hjl:j<ev.length:=by omega
   have hdrop:ev.drop j=ev[j]::ev.drop (j+1):=(List.getElem_cons_drop hjl).symm;rw [hdrop] at hacc;have hacc:zfk ev k=zmw e.th (j+1) (ev.drop (j+1)) (if ev[j].th=e.th then s|||2^j else s):=hacc;refine DrawE.ord [] [0,1,2,3,4,5,6,7] (by kernel_rfl) ?_;refine⟨j,rfl,hjl,?_⟩;refine⟨i64 ev[j].th,zac (zar hbZ (hat j hjl)) (i:=0) rfl,?_⟩;refine⟨i64 e.th,zac (zaa (hdr fb)) (i:=0) rfl,?_⟩;have hslot:(relC ⟨(ev.length:Int),upd (poG ev k) k s⟩)[1+k]?=some (s64 s):=by
    have:=zhl ⟨(ev.length:Int),upd (poG ev k) k s⟩ (i:=k) (by omega);rw [this];show some (s64 (upd (poG ev k) k s k))=_;rw [zbo]
   have hdZ:Bw Z Z.drew:=(Below.refl _ Z).drew;refine biE (fun he=>?_) fun he=>?_
   ·have he:ev[j].th=e.th:=dT he;rw [if_pos he] at hacc;refine DrawE.ord [9] [0,1,2,3,4,5,6,7,8,9] (by kernel_rfl) ?_;refine⟨k,rfl,by omega,?_⟩;refine⟨s64 s,by rw [Nat.mul_one,Nat.add_assoc];exact zac (zaa (hdr (hdr fM))) hslot,?_⟩;refine⟨by omega,_,zbX (e:=j) (by omega),?_⟩;refine⟨_,zcA hs (zaN (by omega)),?_⟩;refine⟨k,rfl,by omega,?_⟩;refine zaq k37 (hdr (hdr fM)) (o:=0+1+k*1) (v:=s64 (s|||2^j)) rfl rfl (by rw [zae];omega) rfl fun S fS gS sS=>?_;rw [Nat.zero_add,Nat.mul_one,zfs _ (show k<48 by omega)] at fS;have gS2:Z.grownBy S (some (L+1)):=zaf (zag (Below.refl _ Z).drew) (zaf (zag (Below.refl _ _).drew) gS);refine nxI (by omega) ?_;refine⟨(j+1,s|||2^j),(cvE rfl rfl),⟨hjl,hacc,Nat.or_lt_two_pow hs (zaN (by omega)),?_,(gS2.block L (hlt fL) (by simp)).trans fL,(gS2.block b (hlt fb) (by simp;omega)).trans fb,hbZ.trans (zak gS2 hbZ.size (by omega))⟩,zdc (by omega)⟩;have:upd (upd (poG ev k) k s) k (s|||2^j)=upd (poG ev k) k (s|||2^j):=by
     funext i;unfold upd
     split <;> rfl
    rw [this] at fS;exact fS
   ·have he:¬ ev[j].th=e.th:=dF he;rw [if_neg he] at hacc;refine nxI (by omega) ?_;exact⟨(j+1,s),(cvE rfl rfl),⟨hjl,hacc,hs,fM,fL,fb,(zst hbZ hdZ)⟩,zdc (by omega)⟩
  ·have hc:¬ (j:Int)<(ev.length:Int):=dF hc;have:j=ev.length:=by omega
   subst this;rw [List.drop_length] at hacc;have hacc:zfk ev k=s:=hacc;refine nxI (by omega) ?_;refine⟨k+1,(cvE rfl rfl),⟨hkl,?_,fL,hlt fM,hbZ⟩,zdc (by omega)⟩;rw [<- zmv,hacc];exact fM
 ·have hc:¬ (k:Int)<(ev.length:Int):=dF hc;obtain rfl:k=ev.length:=by omega
  rw [zp5] at fV;refine⟨relC (poR ev),zae _,zaa fV,hlt fV,?_⟩;refine zas (v := .agg (relC (poR ev)).toArray) k40 f0V rfl rfl (zaD _) ?_;exact⟨relC (poR ev),zae _,zaa (zan f0V),rfl,zaj hbV (by omega) _⟩
end
def dedG:UInt8->List UInt8->List UInt8
 | _,[]=>[]
 | p,y::r=>if y=p then dedG p r else y::dedG y r
def ded:List UInt8->List UInt8
 | []=>[]
 | x::r=>x::dedG x r
theorem zgl:∀ (A:List UInt8) (p x:UInt8),dedG p (A++[x])=if x=(p::A).getLast (by simp) then dedG p A else dedG p A++[x]
 | [],p,x=>by
  show (if x=p then [] else [x])=_;rfl
 | y::A,p,x=>by
  show (if y=p then dedG p (A++[x]) else y::dedG y (A++[x]))=_;have hl:(p::y::A).getLast (by simp)=(y::A).getLast (by simp):=List.getLast_cons (by simp);rw [hl];show _=if x=(y::A).getLast _ then (if y=p then dedG p A else y::dedG y A) else (if y=p then dedG p A else y::dedG y A)++[x]
  by_cases h:y=p
  ·subst h;rw [if_pos rfl,if_pos rfl,zgl A y x]
  ·rw [if_neg h,if_neg h,zgl A y x]
   split <;> rfl
theorem zoS {A:List UInt8} (h:A≠[]) (x:UInt8):ded (A++[x])=if x=A.getLast h then ded A else ded A++[x]:=by
 cases A with
 | nil=>exact absurd rfl h
 | cons y A =>
  show y::dedG y (A++[x])=_;rw [zgl];show _=if x=(y::A).getLast h then y::dedG y A else y::dedG y A++[x]
  split <;> rfl
theorem zkx {l:List UInt8} {i:Nat} (h0:0<i) (hi:i<l.length):ded (l.take (i+1))=if l[i]=l[i-1] then ded (l.take i) else ded (l.take i)++[l[i]]:=by
 rw [tsg hi];have hne:l.take i≠[]:=by
  intro e;have:=congrArg List.length e;rw [List.length_take,List.length_nil] at this;omega
 rw [zoS hne];have:(l.take i).getLast hne=l[i-1]:=by
  have hlen:(l.take i).length-1=i-1:=by rw [List.length_take];omega
  simp only [List.getLast_eq_getElem,List.getElem_take,hlen]
 rw [this]
section
variable {B g cap:Nat} {l:List UInt8} {w:World}
theorem zfD {X:World} {sp:List Value} {M:List UInt8} (h:RowS zaM 5 X g sp M) {i:Nat} (hi:i<M.length):X.cell? ⟨g,0+i*1,none⟩=some (u8 M[i]):=by
 have:=zac (h.at hi) (i:=0) (v:=u8 M[i]) rfl;exact this
theorem zkB {M:List UInt8} {i:Nat} {x:UInt8} (h:M[i]?=some x):∃ hi:i<M.length,M[i]=x:=by
 obtain⟨hi,e⟩:=List.getElem?_eq_some_iff.1 h;exact⟨hi,e⟩
theorem zlA (ho:OwnS zaM 5 B w (some ⟨g,0,none⟩) cap l) (hn:l.length<=1000000) :
  Calls Tryz.prog 230 #[.slice (some ⟨g,0,none⟩) l.length cap] w fun e w'=>e = .returned (.slice (some ⟨g,0,none⟩) (ded l).length cap)/\OwnS zaM 5 B w' (some ⟨g,0,none⟩) cap (ded l)/\w.grownBy w' (some g):=by
 refine cofE 61 [.slice (some ⟨g,0,none⟩) l.length cap] Tryz.func230 ?_;rcases ho.inv with ⟨h,_⟩ | ⟨g',cur,hg,hB,hcur,hlc,hcm,hcs,hct⟩
 ·cases h
 simp only [Option.some.injEq,Addr.mk.injEq,and_true] at hg;subst hg;have hcs:cur.size=cap:=by rw [hcs];exact Nat.mul_one _
 obtain⟨sp,hsp⟩:=nm (cur.toList.drop l.length);have hct:cur.toList.take l.length=l.flatMap zaM.enc:=by rw [<- hct];congr 1;exact (Nat.mul_one _).symm
 have hR:RowS zaM 5 w g sp l:=by
  unfold RowS;rw [hcur,<- hct,hsp,List.take_append_drop]
 have hspl:l.length+sp.length=cap:=by
  have h1:cur.toList.length=cap:=by rw [Array.length_toList];exact hcs
  rw [hsp,List.length_drop,h1];omega
 refine biE (fun h=>?_) fun h=>?_
 ·have h:(l.length:Int)<2:=dT h;have e:ded l=l:=by
   match l,h with
   | [],_=>rfl
   | [x],_=>rfl
   | x::y::r,h=>simp at h;omega
  rw [e];exact⟨rfl,ho,zbD w _⟩
 have h:¬ (l.length:Int)<2:=dF h;have hl2:2<=l.length:=by omega
 refine⟨Nat,fun k=>⟨[(0,.slice (some ⟨g,0,none⟩) l.length cap),(3,i64 (k:Nat))],[]⟩,fun k X=>1<=k/\k<=l.length/\ded (l.take k)=l.take k/\RowS zaM 5 X g sp l/\w.grownBy X (some g),fun k=>l.length-k,1,
  (cvE rfl rfl),⟨Nat.le_refl _,by omega,by
   cases l with
   | nil=>rfl
   | cons x r=>rfl,hR,zbD w _⟩,?_⟩
 rintro k X ⟨hk1,hkl,hdk,hRX,gX⟩;refine biE (fun hc=>?_) fun hc=>?_
 ·have hc:(k:Int)<(l.length:Int):=dT hc;have hk:k<l.length:=by omega
  refine DrawE.ord [] [0,1,2,3,4,5,6,7,8,9] (by kernel_rfl) ?_;have hRd:RowS zaM 5 X.drew g sp l:=hRX;have gd:w.grownBy X.drew (some g):=zaf gX ⟨rfl,rfl,rfl,Nat.le_refl _,fun _ _ _=>rfl⟩;refine⟨k,rfl,hk,?_⟩;refine⟨_,zfD hRd hk,?_⟩;refine⟨((k-1:Nat):Int),(zai (by omega)).trans (by omega),?_⟩;refine⟨k-1,rfl,by omega,?_⟩;refine⟨_,zfD hRd (by omega),?_⟩;have hnx:=zkx (l:=l) hk1 hk;refine biE (fun he=>?_) fun he=>?_
  ·have he:l[k]=l[k-1]:=zbM.1 (dT he);rw [if_pos he] at hnx;refine⟨k,rfl,by show k<=l.length;omega,?_⟩;have hcb:zbq (some ⟨g,0,none⟩) cap k 1=some ⟨g,k,none⟩:=by
    unfold zbq;rw [if_neg (by omega)];show some ((⟨g,0,none⟩:Addr).add (k*1))=_;rw [zcY,Nat.mul_one,Nat.zero_add]
   refine⟨Nat×Nat×List UInt8,fun s=>⟨[(0,.slice (some ⟨g,0,none⟩) l.length cap),(3,i64 (s.2.1:Nat)),(4,.slice (some ⟨g,k,none⟩) (l.length-k) (cap-k)),(5,i64 (s.1:Nat))],[]⟩,
    fun s Y=>(1<=s.1/\k+s.1<=l.length)/\(s.2.1=(ded (l.take (k+s.1))).length/\s.2.1+1<=k+s.1)/\(s.2.2.length=l.length/\s.2.2.take s.2.1=ded (l.take (k+s.1))/\∀ j,s.2.1<=j->s.2.2[j]?=l[j]?)/\RowS zaM 5 Y g sp s.2.2/\w.grownBy Y (some g),fun s=>l.length-s.1,(1,k,l),
    ⟨.cons rfl (.cons rfl (.cons (by rw [<- hcb];rfl) (.cons rfl .nil))),rfl⟩,⟨⟨Nat.le_refl _,by show k+1<=_;omega⟩,⟨by show k=_;rw [hnx,hdk,List.length_take];omega,Nat.le_refl _⟩,⟨rfl,by show l.take k=_;rw [hnx,hdk],fun j _=>rfl⟩,hRd,gd⟩,?_⟩
   rintro⟨m,q,M⟩ Y ⟨⟨hm1,hml⟩,⟨hq,hqm⟩,⟨hM,hMt,hMj⟩,hRY,gY⟩;dsimp only at hm1 hml hq hqm hM hMt hMj hRY ⊢;refine biE (fun hc=>?_) fun hc=>?_
   ·have hc:(m:Int)<((l.length-k:Nat):Int):=dT hc;have hi:k+m<l.length:=(by omega);have g1:M[k+m]?=some l[k+m]:=(by rw [hMj _ (by omega),gE hi]);have g0:M[k+m-1]?=some l[k+m-1]:=(by rw [hMj _ (by omega),gE (by omega)]);obtain⟨i1,e1⟩:=zkB g1;obtain⟨i0,e0⟩:=zkB g0;have nx:=zkx (l:=l) (i:=k+m) (by omega) hi;refine DrawE.ord [] [0,1,2,3,4,5,6,7,8,9] (by kernel_rfl) ?_;have hRYd:RowS zaM 5 Y.drew g sp M:=hRY;have gYd:w.grownBy Y.drew (some g):=zaf gY ⟨rfl,rfl,rfl,Nat.le_refl _,fun _ _ _=>rfl⟩;have a1:Y.drew.cell? ⟨g,k+m*1,none⟩=some (u8 l[k+m]):=by
     have:=zfD hRYd i1;rw [e1,Nat.mul_one,Nat.zero_add] at this;rw [Nat.mul_one];exact this
    have a0:Y.drew.cell? ⟨g,k+(m-1)*1,none⟩=some (u8 l[k+m-1]):=by
     have:=zfD hRYd i0;rw [e0,Nat.mul_one,Nat.zero_add] at this;rw [Nat.mul_one,<- Nat.add_sub_assoc hm1];exact this
    refine⟨m,rfl,by omega,?_⟩;refine⟨_,a1,?_⟩;refine⟨((m-1:Nat):Int),(zai (by omega)).trans (by omega),?_⟩;refine⟨m-1,rfl,by omega,?_⟩;refine⟨_,a0,?_⟩;refine biE (fun hne=>?_) fun hne=>?_
    ·have hne:¬ l[k+m]=l[k+m-1]:=fun e=>by
      have hne:(!decide (((l[k+m]).toNat:Int)=((l[k+m-1]).toNat:Int)))=true:=hne;rw [e,decide_eq_true rfl] at hne;cases hne
     rw [if_neg hne] at nx;refine⟨m,rfl,by omega,?_⟩;refine⟨_,a1,?_⟩;refine⟨q,rfl,by omega,?_⟩;refine zlT k5 rfl hRYd (i:=q) (by omega) l[k+m] fun Z hRZ gZ sZ=>?_;refine nxI (by omega) ?_;refine nxI (by omega) ?_;refine⟨(m+1,q+1,M.set q l[k+m]),(cvE rfl rfl),⟨⟨by omega,by show k+(m+1)<=_;omega⟩,⟨?_,by show q+1+1<=k+(m+1);omega⟩,⟨by rw [List.length_set];exact hM,?_,fun j hj=>?_⟩,hRZ,zaf gYd gZ⟩,zdc (by omega)⟩
     ·show q+1=(ded (l.take (k+(m+1)))).length;rw [<- Nat.add_assoc,nx,lap,<- hq];rfl
     ·show (M.set q l[k+m]).take (q+1)=ded (l.take (k+(m+1)));rw [<- Nat.add_assoc,nx,<- hMt];rw [tsg (by rw [List.length_set];omega),List.take_set_of_le (Nat.le_refl _),List.getElem_set_self]
     ·show (M.set q l[k+m])[j]?=l[j]?;have hj:q+1<=j:=hj;rw [List.getElem?_set_ne (by omega)];exact hMj j (by omega)
    ·have heq:l[k+m]=l[k+m-1]:=by
      have hne:(!decide (((l[k+m]).toNat:Int)=((l[k+m-1]).toNat:Int)))=false:=hne;have h2:decide (((l[k+m]).toNat:Int)=((l[k+m-1]).toNat:Int))=true:=(by simpa using hne);exact zbM.1 (dT h2)
     rw [if_pos heq] at nx;refine nxI (by omega) ?_;exact⟨(m+1,q,M),(cvE rfl rfl),⟨⟨by omega,by show k+(m+1)<=_;omega⟩,⟨by show q=(ded (l.take (k+(m+1)))).length;rw [<- Nat.add_assoc,nx];exact hq,by show q+1<=k+(m+1);omega⟩,⟨hM,by show M.take q=ded (l.take (k+(m+1)));rw [<- Nat.add_assoc,nx];exact hMt,hMj⟩,hRYd,gYd⟩,zdc (by omega)⟩
   ·have hc:¬ (m:Int)<((l.length-k:Nat):Int):=dF hc;have hkm:k+m=l.length:=(by omega);rw [hkm,List.take_length] at hq hMt;refine⟨q,rfl,by show q<=l.length;omega,?_⟩;have hcb2:zbq (some ⟨g,0,none⟩) cap q 1=some ⟨g,q,none⟩:=by
     unfold zbq;rw [if_neg (by omega)];show some ((⟨g,0,none⟩:Addr).add (q*1))=_;rw [zcY,Nat.mul_one,Nat.zero_add]
    have hfl:(M.flatMap zaM.enc++sp).length=cap:=by
     rw [lap,za8,hM];show l.length*1+_=_;omega
    have hcl:SatR ((Builtin.clear_ #[80] 0 #[.slice (some ⟨g,q,none⟩) (l.length-q) (cap-q)]).run Tryz.prog Y) fun _ Z=>Z.heap[g]?=some (.cells ((M.flatMap zaM.enc++sp).take q++List.replicate (l.length-q) (u8 0)++(M.flatMap zaM.enc++sp).drop (q+(l.length-q))).toArray 5 (0,0))/\Y.grownBy Z (some g) :=
     znv Tryz.underlying80 k5 rfl rfl (by omega) hRY (by show q+(l.length-q)<=(M.flatMap zaM.enc++sp).length;rw [hfl];omega) fun Z fZ gZ sZ=>⟨fZ,gZ⟩
    obtain⟨v,Z,hrun,fZ,gZ⟩:=hcl;refine⟨v,Z,by rw [hcb2];exact hrun,?_⟩;refine⟨q,rfl,by show q<=cap;omega,?_⟩;rw [<- hq];refine⟨by show Ending.returned (Value.slice (zbq (some ⟨g,0,none⟩) cap 0 1) (q-0) (cap-0))=_;rw [zdP];rfl,?_,zaf gY gZ⟩;unfold OwnS World.ownsRow;refine⟨by rw [za8],.inr ⟨g,cap,_,rfl,hB,fZ,by omega,hcm,?_,?_⟩⟩
    ·show (List.length _)=cap*1;rw [lap,lap,List.length_take,List.length_replicate,List.length_drop,hfl];omega
    ·rw [<- hq];show ((M.flatMap zaM.enc++sp).take q++List.replicate (l.length-q) (u8 0)++(M.flatMap zaM.enc++sp).drop (q+(l.length-q))).take (q*1)=_;rw [Nat.mul_one,List.append_assoc,List.take_append_of_le_length (by rw [List.length_take,hfl];omega),List.take_take,Nat.min_self,List.take_append_of_le_length (by rw [za8,hM];show q<=l.length*1;omega),<- hMt];have:=List.take_append_drop q M;have e2:M.flatMap zaM.enc=(M.take q).flatMap zaM.enc++(M.drop q).flatMap zaM.enc:=(by rw [<- List.flatMap_append,List.take_append_drop]);rw [e2,List.take_left' (by rw [za8,List.length_take];show min q M.length*1=q;omega)]
  ·have he:¬ l[k]=l[k-1]:=fun e=>(dF he) (by rw [e]);rw [if_neg he,hdk] at hnx;refine nxI (by omega) ?_;exact⟨k+1,(cvE rfl rfl),⟨by omega,hk,by rw [hnx,tsg hk],hRd,gd⟩,zdc (by omega)⟩
 ·have hc:¬ (k:Int)<(l.length:Int):=dF hc;obtain rfl:k=l.length:=by omega
  rw [List.take_length] at hdk;rw [hdk];refine⟨rfl,?_,gX⟩;unfold OwnS World.ownsRow;refine⟨by rw [za8],.inr ⟨g,cap,_,rfl,hB,hRX,by omega,hcm,?_,?_⟩⟩
  ·show (l.flatMap zaM.enc++sp).length=cap*1;rw [lap,za8];show l.length*1+_=_;omega
  ·exact List.take_left' (za8 l)
end
def prE:Enc (Nat×Nat):=⟨fun x=>[u8 (UInt8.ofNat x.1),u8 (UInt8.ofNat x.2)],2,fun _=>rfl,by decide,fun a u hu=>by
 simp only [List.mem_cons,List.not_mem_nil,or_false] at hu;rcases hu with rfl | rfl <;> rfl⟩
def zh8:Enc Nat:=⟨fun x=>[s32 x],1,fun _=>rfl,by decide,fun a u hu=>by
 simp only [List.mem_cons,List.not_mem_nil,or_false] at hu;subst hu;rfl⟩
theorem zrt {s:Nat} {w:World} (hT:Tz32M w) (h0:s≠0) (h:s<2^32):Calls Tryz.prog 302 #[s32 s] w fun e w'=>e = .returned (i64 (ctz s:Nat))/\w=w':=by
 refine cofE 14 [s32 s] Tryz.func302 ?_;obtain⟨h2,h3⟩:=zgW h0 h;obtain⟨t1,t2⟩:=znZ h3;refine brN (decide_eq_false (fun e=>h0 (by omega))) ?_;refine⟨((2^32-s:Nat):Int),by unfold IntKind.wrap;simp only [IntKind.bits,IntKind.signed,Bool.false_and,Bool.false_eq_true,if_false];omega,?_⟩;refine⟨((2^ctz s:Nat):Int),(zlL (a:=s) (b:=2^32-s) h (by omega)).trans (by rw [h2]),?_⟩;refine⟨((2^ctz s*125613361%4294967296:Nat):Int),by
  have e:(((2^ctz s:Nat):Int)*125613361)=((2^ctz s*125613361:Nat):Int):=by rw [Int.natCast_mul];rfl
  rw [e];generalize 2^ctz s*125613361=n;unfold IntKind.wrap;simp only [IntKind.bits,IntKind.signed,Bool.false_and,Bool.false_eq_true,if_false];omega,?_⟩
 refine⟨by decide,((2^ctz s*125613361%4294967296/2^27:Nat):Int),by
  generalize 2^ctz s*125613361%4294967296=n;show (n:Int).fdiv (2^(min (Int.toNat (27:Int)) IntKind.u32.bits))=_;rw [show min (Int.toNat (27:Int)) IntKind.u32.bits=27 from rfl,Int.fdiv_eq_ediv_of_nonneg _ (by decide)];omega,?_⟩
 refine⟨_,rfl,t1,?_⟩;have hv:(zkR.map u8)[2^ctz s*125613361%4294967296/2^27]?=some (u8 (UInt8.ofNat (ctz s))):=by rw [List.getElem?_map,t2];rfl
 refine⟨u8 (UInt8.ofNat (ctz s)),by rw [Nat.mul_one];exact zac hT hv,?_⟩;have e:(UInt8.ofNat (ctz s)).toNat=ctz s:=by rw [UInt8.toNat_ofNat'];omega
 exact⟨(ctz s:Int),by rw [e];exact zai (by omega),rfl,rfl⟩
def zcc:Nat->List Nat->List (Nat×Nat)
 | _,[]=>[]
 | i,s::r=>(els s).map (fun a=>(a,i))++zcc (i+1) r
theorem zgH (f:Nat->Nat):∀ (n i:Nat),zcc i ((List.range' i n).map f)=(List.range' i n).flatMap fun i=>(els (f i)).map fun a=>(a,i)
 | 0,i=>rfl
 | n+1,i=>by
  rw [List.range'_succ,List.map_cons,List.flatMap_cons];show (els (f i)).map _++zcc (i+1) _=_;rw [zgH f n (i+1)]
theorem zfQ (f:Nat->Nat) (n:Nat):zcc 0 ((List.range n).map f)=ziu f n:=by
 unfold ziu;rw [List.range_eq_range'];exact zgH f n 0
theorem zk9 (l:List Nat) (x:Nat):∀ i,zcc i (l++[x])=zcc i l++(els x).map (fun a=>(a,i+l.length)):=by
 induction l with
 | nil=>intro i;show (els x).map _++[]=_;rw [List.append_nil];rfl
 | cons y r ih =>
  intro i;show (els y).map _++zcc (i+1) (r++[x])=((els y).map _++zcc (i+1) r)++_;rw [ih,List.append_assoc,List.length_cons];congr 3;funext a;congr 1;omega
theorem zit:∀ (l:List Nat) (i:Nat),(zcc i l).length<=64*l.length
 | [],_=>Nat.zero_le _
 | x::r,i=>by
  show ((els x).map _++zcc (i+1) r).length<=_;rw [lap,List.length_map,List.length_cons];have h1:=zit r (i+1);have h2:=zgj x;omega
section
variable {p:Option Addr} {cap:Nat} {l:List Nat} {w:World}
theorem zjc (hl:SlR zh8 w p l) (hn:l.length<=24) (hb:∀ x∈l,x<2^32) (hT:Tz32M w) :
  Calls Tryz.prog 267 #[.slice p l.length cap] w fun e w'=>(∃ q c,e = .returned (.slice q (zcc 0 l).length c)/\OwnS prE 350 w.heap.size w' q c (zcc 0 l))/\Bw w w':=by
 refine cofE 30 [.slice p l.length cap] Tryz.func267 ?_;refine⟨Nat×Option Addr×Nat,fun s=>⟨[(3,.slice s.2.1 (zcc 0 (l.take s.1)).length s.2.2),(6,.slice p l.length cap),(7,i64 l.length),(8,i64 (s.1:Nat))],[]⟩,
  fun s X=>s.1<=l.length/\OwnS prE 350 w.heap.size X s.2.1 s.2.2 (zcc 0 (l.take s.1))/\Bw w X,fun s=>l.length-s.1,(0,none,0),
  (cvE rfl rfl),⟨Nat.zero_le _,OwnS.nil,Below.refl _ _⟩,?_⟩
 rintro⟨k,q,c⟩ X ⟨hk,ho,hbX⟩;dsimp only at hk ho ⊢;refine biE (fun hc=>?_) fun hc=>?_
 ·have hc:(k:Int)<(l.length:Int):=dT hc;have hkl:k<l.length:=by omega
  obtain⟨b,o,hp,hlt',hat⟩:=(hl.below hbX).at hkl;have ep:some (Value.slice p l.length cap)=some (Value.slice (some ⟨b,o,none⟩) l.length cap):=by rw [hp]
  subst hp;refine⟨k,rfl,hkl,?_⟩;refine⟨s32 l[k],by have:=zac (hat k hkl) (i:=0) (v:=s32 l[k]) rfl;exact this,?_⟩;have hlk:=hb _ (gM hkl);have htl:(l.take k).length=k:=by rw [List.length_take];omega
  have hpl:=zit (l.take k) 0;have tk:l.take (k+1)=l.take k++[l[k]]:=tsg hkl;refine⟨Nat×List (Nat×Nat)×Option Addr×Nat,fun s=>⟨[(3,.slice s.2.2.1 s.2.1.length s.2.2.2),(4,i64 (k:Nat)),(5,s32 s.1),(6,.slice (some ⟨b,o,none⟩) l.length cap),(7,i64 l.length),(8,i64 (k:Nat))],[]⟩,
   fun s Y=>(zcc 0 (l.take (k+1))=s.2.1++(els s.1).map (fun a=>(a,k))/\s.1<2^32/\s.2.1.length+(els s.1).length<=64*(k+1))/\OwnS prE 350 w.heap.size Y s.2.2.1 s.2.2.2 s.2.1/\Bw w Y,fun s=>s.1,(l[k],zcc 0 (l.take k),q,c),
   (cvE rfl rfl),⟨⟨by rw [tk,zk9,htl,Nat.zero_add],hlk,by have:=zgj l[k];show (zcc 0 (l.take k)).length+(els l[k]).length<=_;omega⟩,ho,hbX⟩,?_⟩
  rintro⟨s,m,q,c⟩ Y ⟨⟨he,hs,hlen⟩,ho,hbY⟩;dsimp only at he hs hlen ho ⊢;refine biE (fun hc=>?_) fun hc=>?_
  ·have hc:(!decide ((s:Int)=0))=true:=hc;have h0:s≠0:=fun e=>by
    subst e;exact absurd hc (by decide)
   have hs64:s<2^64:=nL hs (by decide);obtain⟨e1,e2,_,_⟩:=zbE h0 hs64;obtain⟨_,hc32⟩:=zgW h0 hs;rw [e1] at hlen;refine cmo (zrt (hT.below hbY) h0 hs) ?_;rintro e _ ⟨rfl,rfl⟩;refine⟨_,w8N _,?_⟩;refine⟨_,w8N _,?_⟩;refine⟨prE.enc (ctz s,k),rfl,?_⟩;refine⟨⟨by decide,by decide,rfl⟩,prE.enc (ctz s,k),zcV rfl rfl,?_⟩;have hba:Bw Y (Y.alloc (.cells (prE.enc (ctz s,k)).toArray 350)):=zba _ _;simp only [List.length_cons] at hlen;refine zbA (E:=prE) (T:=350) (B:=w.heap.size) (l:=m) (news:=[(ctz s,k)]) (cap:=c) (m:=1) Tryz.underlying257 k350 rfl rfl rfl (ho.below hba) rfl (zbi prE (ctz s,k)) (by have:=hbY.size;have:=hba.size;omega) (by omega) (by show (m.length+1)*2<=_;omega) ?_;intro p2 c2 Z oZ gZ hbZ hat2;refine⟨((s-1:Nat):Int),(w32 (a:=(s:Int)-1) (by omega)).trans (by omega),?_⟩;refine⟨((rest s:Nat):Int),zlL (a:=s) (b:=s-1) hs (by omega),?_⟩;refine⟨(rest s,m++[(ctz s,k)],p2,c2),(cvE rfl rfl),⟨⟨?_,by show rest s<_;omega,?_⟩,oZ,((zst hbY hba)).trans hbZ⟩,e2⟩
   ·rw [he,e1,List.map_cons,List.append_assoc];rfl
   ·simp only [lap,List.length_cons,List.length_nil];omega
  ·have hc:(!decide ((s:Int)=0))=false:=hc;have h0:s=0:=by
    have h1:decide ((s:Int)=0)=true:=(by simpa using hc);exact Int.ofNat.inj (dT h1)
   subst h0;rw [zdu,List.map_nil,List.append_nil] at he;refine nxI (by omega) ?_;exact⟨(k+1,q,c),⟨.cons (by rw [he];rfl) (.cons rfl (.cons rfl (.cons rfl .nil))),rfl⟩,⟨hkl,by show OwnS prE _ _ _ _ _ (zcc 0 (l.take (k+1)));rw [he];exact ho,hbY⟩,zdc (by omega)⟩
 ·have hc:¬ (k:Int)<(l.length:Int):=dF hc;obtain rfl:k=l.length:=by omega
  rw [List.take_length] at ho;refine⟨⟨q,c,by rw [List.take_length];rfl,ho⟩,hbX⟩
theorem ziZ {p:Option Addr} {cap:Nat} {l:List Ev} {w:World} (hl:SlR evE w p l) (hn:l.length<=100000) (hc:p=none->cap=0) :
  Calls Tryz.prog 173 #[.slice p l.length cap] w fun e w'=>(∃ q c,e = .returned (.slice q l.length c)/\OwnS evE 208 w.heap.size w' q c l)/\Bw w w':=by
 refine cofE 8 [.slice p l.length cap] Tryz.func173 ?_;refine⟨_,fun w=>eqlS Tryz.underlying35 _ _ p l.length cap w,?_⟩
 cases p with
 | none =>
  refine brT ?_;have e:=hl.none;subst e;exact⟨⟨none,0,rfl,OwnS.nil⟩,Below.refl _ _⟩
 | some a =>
  refine brF ?_;refine⟨⟨by decide,by decide,rfl⟩,[],rfl,?_⟩;have hb0:Bw w (w.alloc (.cells #[] 208)):=zba w _;refine zhW (E:=evE) (T:=208) (B:=w.heap.size) (l:=[]) (news:=l) (cap:=0) Tryz.underlying35 k208 rfl rfl rfl zho rfl (hl.below hb0) (fun h=>by cases h) hb0.size (by simp;omega) (by show (0+l.length)*16<=_;omega) ?_;intro p' cap' w' ho hg hbw;exact⟨⟨p',cap',rfl,ho⟩,hb0.trans hbw⟩
end
theorem ze9 {p:Option Addr} {cap:Nat} {l:List UInt8} {w:World} (hl:SlR zaM w p l) (h1:1<=l.length) (h12:l.length<=12) (hs:srt8 l=true) :
  Calls Tryz.prog 165 #[.slice p l.length cap] w fun e w'=>(∃ q c,e = .returned (.slice q (ded l).length c)/\OwnS zaM 5 w.heap.size w' q c (ded l))/\Bw w w':=by
 refine cofE 9 [.slice p l.length cap] Tryz.func165 ?_;refine cmo (zkL hl (by omega) (fun e=>by subst e;have:=hl.none;subst this;simp at h1)) ?_;rintro e X ⟨⟨q,c,rfl,ho⟩,hbX⟩;rcases ho.inv with ⟨_,_,h0⟩ | ⟨g,cur,rfl,hB,_⟩
 ·rw [h0] at h1;simp at h1
 refine cmo (zrg ho.row h12 hs) ?_;rintro e Y ⟨rfl,hbY⟩;have hbY':Bw X Y:=⟨hbY.os,hbY.tape,hbY.output,hbY.size,hbY.block⟩;refine cmo (zlA (ho.below hbY) (by omega)) ?_;rintro e Z ⟨rfl,oZ,gZ⟩;have hwX:=hbX.size;exact⟨⟨_,_,rfl,oZ⟩,(hbX.trans (hbY.mono hwX)).trans (zak gZ (Nat.le_trans hwX hbY.size) hB)⟩
def pthC (P:PathD) (q1:Option Addr) (c1:Nat) (q2:Option Addr) (c2:Nat) (q3:Option Addr) (c3:Nat) (q4:Option Addr) (c4:Nat):List Value :=
 [.slice q1 P.ev.length c1,.slice q2 P.data.length c2,.slice q3 P.ctrl.length c3,.slice q4 P.rmw.length c4]++seg 8 (fun i=>u8 (P.regs i))
theorem zkb (P:PathD) (q1 c1 q2 c2 q3 c3 q4 c4):(pthC P q1 c1 q2 c2 q3 c3 q4 c4).all Value.oneCell'=true:=by
 unfold pthC;rw [List.all_append,zde fun _=>rfl];rfl
theorem zkc (P:PathD) (q1 c1 q2 c2 q3 c3 q4 c4):(pthC P q1 c1 q2 c2 q3 c3 q4 c4).length=12:=by
 unfold pthC;rw [lap,zaz];rfl
def RunB (R:RunD):Prop:=∀ i,i<R.many->R.data i<2^32/\R.ctrl i<2^32/\R.att i<2^32
section
variable {R:RunD} {b:Nat} {w:World}
theorem zl7 {X:World} {o n m:Nat} {f:Nat->Nat} (hb:b<X.heap.size) (h:∀ i,i<n->X.cell? ⟨b,o+i,none⟩=some (s32 (f i))) (hm:m<=n):SlR zh8 X (some ⟨b,o,none⟩) ((List.range m).map f):=by
 refine .inr ⟨b,o,rfl,hb,fun i hi=>?_⟩;have hi:i<m:=by simpa using hi
 rw [List.getElem_map,List.getElem_range];refine zbg fun j v hv=>?_
 cases j with
 | zero =>
  have hv:s32 (f i)=v:=by simpa [zh8] using hv
  rw [<- hv];show X.cell? ⟨b,o+i*1+0,none⟩=_;rw [Nat.mul_one,Nat.add_zero];exact h i (by omega)
 | succ j=>simp [zh8] at hv
theorem zqL {X:World} {m:Nat} (f:RunH X b R) (hm:m<=24):SlR evE X (some ⟨b,19,none⟩) ((List.range m).map R.ev):=by
 have hc:=zl9 f;refine .inr ⟨b,19,rfl,hlt f,fun i hi=>?_⟩;have hi:i<m:=by simpa using hi
 rw [List.getElem_map,List.getElem_range,<- zpt R.ev (show i<24 by omega)];exact zaF hc
theorem zrL (f:RunH w b R) (hm:R.many<=24) (hB:RunB R) (hT:Tz32M w) :
  Calls Tryz.prog 233 #[AtR b] w fun e w'=>(∃ q1 c1 q2 c2 q3 c3 q4 c4,e = .returned (.agg (pthC (zeY R) q1 c1 q2 c2 q3 c3 q4 c4).toArray)/\OwnS evE 208 w.heap.size w' q1 c1 (zeY R).ev/\OwnS prE 350 w.heap.size w' q2 c2 (zeY R).data/\OwnS prE 350 w.heap.size w' q3 c3 (zeY R).ctrl/\OwnS prE 350 w.heap.size w' q4 c4 (zeY R).rmw)/\Bw w w':=by
 refine cofE 44 [AtR b] Tryz.func233 ?_;obtain⟨Z0,hZ0⟩:∃ Z0:List Value,Z0=pthC ⟨[],[],[],[],fun _=>0⟩ none 0 none 0 none 0 none 0:=⟨_,rfl⟩;have f0:=hnew w (.cells Z0.toArray 259);have hb0:Bw w (w.alloc (.cells Z0.toArray 259)):=zba w _;obtain⟨X,hX⟩:=nm ((w.alloc (.cells Z0.toArray 259)).drew);have hbX:Bw w X:=by rw [hX];exact hb0.drew
 have f0X:X.heap[w.heap.size]?=some (.cells Z0.toArray 259 (0,0)):=by rw [hX];exact f0
 have fX:=zab hbX f;have hX':(w.alloc (.cells (#[.slice none 0 0,.slice none 0 0,.slice none 0 0,.slice none 0 0,.int .u8 0,.int .u8 0,.int .u8 0,.int .u8 0,.int .u8 0,.int .u8 0,.int .u8 0,.int .u8 0]:Array Value) 259)).drew=X:=by rw [hX,hZ0];rfl
 refine DrawE.ord [41] [0,1,2,3,4,5,6,7,9,10,11,12,13,14,15,16,18,19,20,21,22,23,24,25,27,28,29,30,31,32,33,34,36,37,38,39,8,17,26,35,40,41] (by kernel_rfl) ?_;have cut:∀ (o e:Nat),Value.slice (zbq (some ⟨b,0+o,none⟩) 24 0 e) (R.many-0) (24-0) = .slice (some ⟨b,o,none⟩) R.many 24:=fun o e=>by rw [zdP,Nat.zero_add];rfl
 have lm:∀ {α:Type} (g:Nat->α),((List.range R.many).map g).length=R.many:=fun g=>by rw [List.length_map,List.length_range]
 have hbx:=hlt fX;have sd:∀ {o:Nat} {g:Nat->Nat},(∀ i,i<24->(runC R)[o+i]?=some (s32 (g i)))->SlR zh8 X (some ⟨b,o,none⟩) ((List.range R.many).map g):=fun {o g} h=>zl7 hbx (fun i hi=>by
  have:=zac (zaa fX) (h i hi);rw [Nat.zero_add] at this;exact this) hm
 rw [hX'];refine⟨_,zac (zaa fX) (i:=18) (zdg R),?_⟩;refine⟨R.many,rfl,hm,?_⟩;refine⟨_,zac (zaa fX) (i:=18) (zdg R),?_⟩;refine⟨R.many,rfl,hm,?_⟩;refine⟨_,zac (zaa fX) (i:=18) (zdg R),?_⟩;refine⟨R.many,rfl,hm,?_⟩;refine⟨_,zac (zaa fX) (i:=18) (zdg R),?_⟩;refine⟨R.many,rfl,hm,?_⟩;refine⟨seg 8 (fun i=>u8 (R.regs i)),zaz _ _,?_,hbx,?_⟩
 ·have:=zaF (n:=1) (m:=8) (zaa fX);have e:((runC R).toArray.toList.drop 1).take 8=seg 8 (fun i=>u8 (R.regs i)):=by
   show (seg 8 (fun i=>u8 (R.regs i))++_).take 8=_;exact List.take_left' (zaz _ _)
  rw [e] at this;exact this
 have c1:=ziZ (w:=X) (cap:=24) (zqL fX hm) (by rw [lm];omega) (fun h=>by cases h);rw [lm,<- cut 19 7] at c1;refine cmo c1 ?_;rintro e Y1 ⟨⟨q1,k1,rfl,o1⟩,hb1⟩;refine⟨hb1,?_⟩;have hw1:=zst hbX hb1;have c2:=zjc (w:=Y1) (cap:=24) ((sd (o:=187) (g:=R.data) fun i hi=>zoh R hi).below hb1) (by rw [lm];exact hm) (fun x hx=>by
  obtain⟨i,hi,rfl⟩:=List.mem_map.1 hx;exact (hB i (List.mem_range.1 hi)).1) (hT.below hw1)
 rw [lm,<- cut 187 1,zfQ] at c2;refine cmo c2 ?_;rintro e Y2 ⟨⟨q2,k2,rfl,o2⟩,hb2⟩;refine⟨hb2,?_⟩;have hx2:=zst hb1 hb2;have hw2:=zst hbX hx2;have c3:=zjc (w:=Y2) (cap:=24) ((sd (o:=211) (g:=R.ctrl) fun i hi=>zoi R hi).below hx2) (by rw [lm];exact hm) (fun x hx=>by
  obtain⟨i,hi,rfl⟩:=List.mem_map.1 hx;exact (hB i (List.mem_range.1 hi)).2.1) (hT.below hw2)
 rw [lm,<- cut 211 1,zfQ] at c3;refine cmo c3 ?_;rintro e Y3 ⟨⟨q3,k3,rfl,o3⟩,hb3⟩;refine⟨hb3,?_⟩;have hx3:=zst hx2 hb3;have hw3:=zst hbX hx3;have c4:=zjc (w:=Y3) (cap:=24) ((sd (o:=235) (g:=R.att) fun i hi=>zpX R hi).below hx3) (by rw [lm];exact hm) (fun x hx=>by
  obtain⟨i,hi,rfl⟩:=List.mem_map.1 hx;exact (hB i (List.mem_range.1 hi)).2.2) (hT.below hw3)
 rw [lm,<- cut 235 1,zfQ] at c4;refine cmo c4 ?_;rintro e Y4 ⟨⟨q4,k4,rfl,o4⟩,hb4⟩;refine⟨hb4,?_⟩;have hx4:=zst hx3 hb4;have hw4:=zst hbX hx4;have le1:(zeY R).ev.length=R.many:=lm _;obtain⟨cs,hcs⟩:=nm (pthC (zeY R) q1 k1 q2 k2 q3 k3 q4 k4);refine⟨cs,by rw [hcs];unfold pthC;rw [le1];rfl,?_⟩;have f4:=zab hx4 f0X;have hone:cs.all Value.oneCell'=true:=by rw [hcs];exact zkb ..
 have hlen:cs.length=12:=by rw [hcs];exact zkc ..
 refine zas (v := .agg cs.toArray) k259 f4 hlen (by rw [hZ0];rfl) hone ?_;have f5:=zan (cs':=(Value.agg cs.toArray).cells) f4;have hs:w.heap.size<=X.heap.size:=hbX.size;have keep:∀ {α:Type} {E:Enc α} {T B c:Nat} {p:Option Addr} {l:List α},X.heap.size<=B->OwnS E T B Y4 p c l->OwnS E T w.heap.size (Y4.setRow w.heap.size (Value.agg cs.toArray).cells) p c l:=fun {α E T B c p l} hB o=>by
  refine OwnS.lower (o.kept (zaU Y4 w.heap.size _) fun g hg e=>?_) (Nat.le_trans hs hB);rcases o.inv with ⟨h,_⟩ | ⟨g',cur,h,h2,_⟩
  ·rw [h] at hg;cases hg
  ·rw [h] at hg;simp only [Option.some.injEq,Addr.mk.injEq,and_true] at hg e;have:=hlt f0X;omega
 have n1:=hb1.size;have n2:=hb2.size;have n3:=hb3.size;refine⟨cs,hlen,zaa f5,⟨q1,k1,q2,k2,q3,k3,q4,k4,by rw [hcs];rfl,keep (Nat.le_refl _) (((o1.below hb2).below hb3).below hb4),keep (by omega) ((o2.below hb3).below hb4),keep (by omega) (o3.below hb4),keep (by omega) o4⟩,zaj hw4 (Nat.le_refl _) _⟩
end
theorem zbN (c : UInt8) (w : World) : Calls Tryz.prog 274 #[u8 c] w fun e w' => e = .returned (i64 (clsL c)) ∧ w = w' := by
  refine zg0 (S := sg 47) (sgOk _) (args := [u8 c]) (.s .p (.c .p .p)) Tryz.func274 rfl rfl (Nat.le_of_ble_eq_true rfl) rfl ?_
  refine ⟨Unit, fun _ => ⟨[(0, u8 c)], []⟩, fun _ X => ziM c = false ∧ zjq c = false ∧ w = X, ?_, ?_⟩
  · repeat first
      | exact ⟨(), ⟨.cons rfl .nil, rfl⟩, by unfold ziM; simp only [*]; rfl, by unfold zjq; simp only [*]; rfl, rfl⟩
      | exact ⟨by
          first
          | (have e : ziM c = true := by unfold ziM; simp only [*]; rfl
             unfold clsL; rw [e]; rfl)
          | (have e1 : ziM c = false := by unfold ziM; simp only [*]; rfl
             have e2 : zjq c = true := by unfold zjq; simp only [*]; rfl
             unfold clsL; rw [e1, e2]; rfl), rfl⟩
      | refine brT ?_
      | refine brF ?_
      | refine brE (by assumption) ?_
      | refine brN (by assumption) ?_
      | refine And.intro (fun h => ?_) (fun h => ?_)
  rintro _ _ ⟨h1, h2, rfl⟩
  have key : clsL c = (bif eqB c 32 || eqB c 9 then 1 else bif eqB c 10 then 2 else bif eqB c 95 then 5 else bif eqB c 35 then 7 else bif zoB c then 6 else 0) := by unfold clsL; rw [h1, h2]; rfl
  rw [key]
  clear key h1 h2
  unfold zoB
  refine And.intro (fun h => ?_) (fun h => ?_)
  · have h : eqB c 32 = true := h
    refine brE h ?_
    exact ⟨by rw [h]; rfl, rfl⟩
  have h32 : eqB c 32 = false := h
  refine And.intro (fun h => ?_) (fun h => ?_)
  · have h : eqB c 9 = true := h
    exact ⟨by rw [h32, h]; rfl, rfl⟩
  have h9 : eqB c 9 = false := h
  refine And.intro (fun h => ?_) (fun h => ?_)
  · have h : eqB c 10 = true := h
    exact ⟨by rw [h32, h9, h]; rfl, rfl⟩
  have h10 : eqB c 10 = false := h
  refine And.intro (fun h => ?_) (fun h => ?_)
  · have h : eqB c 95 = true := h
    exact ⟨by rw [h32, h9, h10, h]; rfl, rfl⟩
  have h95 : eqB c 95 = false := h
  refine And.intro (fun h => ?_) (fun h => ?_)
  · have h : eqB c 35 = true := h
    exact ⟨by rw [h32, h9, h10, h95, h]; rfl, rfl⟩
  have h35 : eqB c 35 = false := h
  rw [h32, h9, h10, h95, h35]
  refine And.intro (fun h => ?_) (fun h => ?_)
  · have h : eqB c 61 = true := h
    refine brE h ?_
    exact ⟨by rw [h]; rfl, rfl⟩
  have h61 : eqB c 61 = false := h
  refine And.intro (fun h => ?_) (fun h => ?_)
  · have h : eqB c 43 = true := h
    refine brE h ?_
    exact ⟨by rw [h61, h]; rfl, rfl⟩
  have h43 : eqB c 43 = false := h
  refine And.intro (fun h => ?_) (fun h => ?_)
  · have h : eqB c 45 = true := h
    refine brE h ?_
    exact ⟨by rw [h61, h43, h]; rfl, rfl⟩
  have h45 : eqB c 45 = false := h
  refine And.intro (fun h => ?_) (fun h => ?_)
  · have h : eqB c 94 = true := h
    refine brE h ?_
    exact ⟨by rw [h61, h43, h45, h]; rfl, rfl⟩
  have h94 : eqB c 94 = false := h
  refine And.intro (fun h => ?_) (fun h => ?_)
  · have h : eqB c 38 = true := h
    refine brE h ?_
    exact ⟨by rw [h61, h43, h45, h94, h]; rfl, rfl⟩
  have h38 : eqB c 38 = false := h
  refine And.intro (fun h => ?_) (fun h => ?_)
  · have h : eqB c 124 = true := h
    refine brE h ?_
    exact ⟨by rw [h61, h43, h45, h94, h38, h]; rfl, rfl⟩
  have h124 : eqB c 124 = false := h
  refine And.intro (fun h => ?_) (fun h => ?_)
  · have h : eqB c 33 = true := h
    refine brE h ?_
    exact ⟨by rw [h61, h43, h45, h94, h38, h124, h]; rfl, rfl⟩
  have h33 : eqB c 33 = false := h
  refine And.intro (fun h => ?_) (fun h => ?_)
  · have h : eqB c 40 = true := h
    refine brE h ?_
    exact ⟨by rw [h61, h43, h45, h94, h38, h124, h33, h]; rfl, rfl⟩
  have h40 : eqB c 40 = false := h
  refine And.intro (fun h => ?_) (fun h => ?_)
  · have h : eqB c 41 = true := h
    refine brE h ?_
    exact ⟨by rw [h61, h43, h45, h94, h38, h124, h33, h40, h]; rfl, rfl⟩
  have h41 : eqB c 41 = false := h
  refine And.intro (fun h => ?_) (fun h => ?_)
  · have h : eqB c 58 = true := h
    refine brE h ?_
    exact ⟨by rw [h61, h43, h45, h94, h38, h124, h33, h40, h41, h]; rfl, rfl⟩
  have h58 : eqB c 58 = false := h
  refine And.intro (fun h => ?_) (fun h => ?_)
  · have h : eqB c 60 = true := h
    exact ⟨by rw [h61, h43, h45, h94, h38, h124, h33, h40, h41, h58, h]; rfl, rfl⟩
  have h60 : eqB c 60 = false := h
  exact ⟨by rw [h61, h43, h45, h94, h38, h124, h33, h40, h41, h58, h60]; rfl, rfl⟩
theorem zkr (c : UInt8) (w : World) : Calls Tryz.prog 276 #[u8 c] w fun e w' => e = .returned (.bool (za0 c)) ∧ w = w' := by
  refine za4 (S := sg 16) (sgOk _) (args := [u8 c]) Tryz.func276 rfl rfl (Nat.le_of_ble_eq_true rfl) rfl ?_
  refine Calls.mono (zbN c w) ?_
  rintro e _ ⟨rfl, rfl⟩
  have e3 : ∀ k : Nat, decide ((clsL c : Int) = (k : Int)) = decide (clsL c = k) := fun k => by rw [decide_eq_decide]; omega
  refine And.intro (fun h => ?_) (fun h => ?_)
  · have h : decide (clsL c = 3) = true := (e3 3).symm.trans h
    refine And.intro (fun _ => ?_) (fun h => by cases h)
    exact ⟨rb (by unfold za0; rw [h]; rfl), rfl⟩
  have h3 : decide (clsL c = 3) = false := (e3 3).symm.trans h
  refine And.intro (fun h => ?_) (fun h => ?_)
  · have h : decide (clsL c = 4) = true := (e3 4).symm.trans h
    exact ⟨rb (by unfold za0; rw [h3, h]; rfl), rfl⟩
  have h4 : decide (clsL c = 4) = false := (e3 4).symm.trans h
  exact ⟨rb (by unfold za0; rw [h3, h4]; exact e3 5), rfl⟩
theorem zdf {p:UInt8->Bool} {s:List UInt8} {k:Nat} (h:k<s.length):zcn p (s.drop k)=if p s[k] then zcn p (s.drop (k+1))+1 else 0:=by
 rw [List.drop_eq_getElem_cons h];rfl
theorem zhi {p:UInt8->Bool} {s:List UInt8} {k:Nat} (h:s.length<=k):zcn p (s.drop k)=0:=by
 rw [List.drop_of_length_le h];rfl
theorem zmZ {p:UInt8->Bool} (s:List UInt8) (k:Nat) (h:k<=s.length):k+zcn p (s.drop k)<=s.length:=by
 have:=zj3 p (s.drop k);rw [List.length_drop] at this;omega
theorem zdJ {a b:Nat}:decide ((a:Int)=(b:Int))=decide (a=b):=by rw [decide_eq_decide];omega
theorem zfb {s:List UInt8} {k:Nat} (h:k<s.length):(bs s).data.toList[k]?=some s[k]:=by
 show s[k]?=_;exact gE h
theorem zkh {g a:Nat} {s:List UInt8} {w:World} (h:zav w ⟨g,0,none⟩ [strV s,i64 a]) :
  CB 319 #[At0 g] w (.bool (decide (s.length<=a))):=by
 refine cofE 13 [At0 g] Tryz.func319 ?_;refine DrawE.ord [] [0,1,2,3,4,5,6,7,8,9,10] (by kernel_rfl) ?_;have h:zav w.drew ⟨g,0,none⟩ [strV s,i64 a]:=zaA rfl h;refine⟨_,zac h (i:=1) rfl,?_⟩;refine⟨_,zac h (i:=0) rfl,?_⟩;refine⟨rb ?_,(Below.refl _ _).drew⟩;show decide ((s.length:Int)<=(a:Int))=_;rw [decide_eq_decide];omega
theorem znG {g a:Nat} {s:List UInt8} {w:World} (h:zav w ⟨g,0,none⟩ [strV s,i64 a]) (hg:g<w.heap.size) :
  CB 317 #[At0 g] w (.bool (zce s a)):=by
 refine cofE 18 [At0 g] Tryz.func317 ?_;refine DrawE.ord [] [0,1,2,3,4,5,6,7,8,9,10,11,12,13,14,15] (by kernel_rfl) ?_;have h:zav w.drew ⟨g,0,none⟩ [strV s,i64 a]:=zaA rfl h;refine cmo (zkh h) ?_;rintro e V ⟨rfl,hb⟩;refine⟨hb,?_⟩;have hw:=(Below.refl w.heap.size w).drew.trans hb;have hV:=zbb hb hg h;refine biE (fun ho=>?_) fun ho=>?_
 ·have ho:s.length<=a:=dT ho;have:zce s a=true:=by unfold zce;rw [List.getElem?_eq_none ho]
  exact⟨rb this.symm,hw⟩
 ·have ho:¬ s.length<=a:=dF ho;have hl:a<s.length:=by omega
  refine⟨_,zac hV (i:=0) rfl,?_⟩;refine⟨_,zac hV (i:=1) rfl,?_⟩;refine⟨a,rfl,hl,s[a],zfb hl,?_⟩;refine cmo (zbN _ _) ?_;rintro e _ ⟨rfl,rfl⟩;refine⟨Below.refl _ _,?_⟩;have:zce s a=decide (clsL s[a]=2):=by unfold zce;rw [gE hl]
  exact⟨rb (by rw [this];exact zdJ),hw⟩
theorem zlJ {g a:Nat} {s:List UInt8} {w:World} (h:zav w ⟨g,0,none⟩ [strV s,i64 a]) (ha:a<s.length) (hs:s.length<=140737488351232) :
  Calls Tryz.prog 331 #[At0 g] w fun e w'=>e = .returned (i64 (a+1+zcn za0 (s.drop (a+1)):Nat))/\w=w':=by
 refine cofE 28 [At0 g] Tryz.func331 ?_;refine⟨_,zac h (i:=1) rfl,?_⟩;refine⟨(a+1:Nat),(zai (by omega)).trans (by omega),?_⟩;refine⟨Nat,fun k=>⟨[(0,At0 g),(3,.int .i64 (k:Nat))],[]⟩,fun k X=>k<=s.length/\k+zcn za0 (s.drop k)=a+1+zcn za0 (s.drop (a+1))/\w=X,fun k=>s.length-k,a+1,(cvE rfl rfl),⟨ha,rfl,rfl⟩,?_⟩;rintro k _ ⟨hk,he,rfl⟩;dsimp only at hk he ⊢;refine⟨_,zac h (i:=0) rfl,?_⟩;refine biE (fun hc=>?_) fun hc=>?_
 ·have hc:(k:Int)<(s.length:Int):=dT hc;have hl:k<s.length:=by omega
  refine⟨_,zac h (i:=0) rfl,?_⟩;refine⟨k,rfl,hl,s[k],zfb hl,?_⟩;refine cmo (zkr _ _) ?_;rintro e _ ⟨rfl,rfl⟩;refine biE (fun hi=>?_) fun hi=>?_
  ·refine⟨(k+1:Nat),(zai (by omega)).trans (by omega),?_⟩;refine⟨k+1,(cvE rfl rfl),⟨hl,?_,rfl⟩,zdc (by omega)⟩;rw [zdf hl,if_pos hi] at he;omega
  ·have hi:¬ za0 s[k]=true:=by rw [Bool.not_eq_true];exact hi
   rw [zdf hl,if_neg hi] at he;exact⟨by rw [<- he];rfl,rfl⟩
 ·have hc:¬ (k:Int)<(s.length:Int):=dF hc;refine And.intro (fun h=>by cases h) (fun _=>?_);rw [zhi (by omega)] at he;exact⟨by rw [<- he];rfl,rfl⟩
theorem zjh {g a:Nat} {s:List UInt8} {w:World} (h:zav w ⟨g,0,none⟩ [strV s,i64 a]) (ha:a<s.length) (hs:s.length<=140737488351232) :
  Calls Tryz.prog 332 #[At0 g] w fun e w'=>e = .returned (i64 (a+1+zcn digB (s.drop (a+1)):Nat))/\w=w':=by
 refine cofE 29 [At0 g] Tryz.func332 ?_;refine⟨_,zac h (i:=1) rfl,?_⟩;refine⟨(a+1:Nat),(zai (by omega)).trans (by omega),?_⟩;refine⟨Nat,fun k=>⟨[(0,At0 g),(3,.int .i64 (k:Nat))],[]⟩,fun k X=>k<=s.length/\k+zcn digB (s.drop k)=a+1+zcn digB (s.drop (a+1))/\w=X,fun k=>s.length-k,a+1,(cvE rfl rfl),⟨ha,rfl,rfl⟩,?_⟩;rintro k _ ⟨hk,he,rfl⟩;dsimp only at hk he ⊢;refine⟨_,zac h (i:=0) rfl,?_⟩;refine biE (fun hc=>?_) fun hc=>?_
 ·have hc:(k:Int)<(s.length:Int):=dT hc;have hl:k<s.length:=by omega
  refine⟨_,zac h (i:=0) rfl,?_⟩;refine⟨k,rfl,hl,s[k],zfb hl,?_⟩;refine cmo (zbN _ _) ?_;rintro e _ ⟨rfl,rfl⟩;have hd:decide ((clsL s[k]:Int)=4)=digB s[k]:=zdJ (b:=4);refine biE (fun hi=>?_) fun hi=>?_
  ·refine⟨(k+1:Nat),(zai (by omega)).trans (by omega),?_⟩;refine⟨k+1,(cvE rfl rfl),⟨hl,?_,rfl⟩,zdc (by omega)⟩;rw [zdf hl,if_pos (hd.symm.trans hi)] at he;omega
  ·have hi:¬ digB s[k]=true:=by rw [Bool.not_eq_true];exact hd.symm.trans hi
   rw [zdf hl,if_neg hi] at he;exact⟨by rw [<- he];rfl,rfl⟩
 ·have hc:¬ (k:Int)<(s.length:Int):=dF hc;refine And.intro (fun h=>by cases h) (fun _=>?_);rw [zhi (by omega)] at he;exact⟨by rw [<- he];rfl,rfl⟩
def zi4 (s:List UInt8) (a:Nat) (c:UInt8):Nat:=if (eqB c 61||eqB c 33)&&decide (s[a+1]?=some 61) then a+2 else a+1
theorem zl5 {g a:Nat} {s:List UInt8} {w:World} (h:zav w ⟨g,0,none⟩ [strV s,i64 a]) (ha:a<s.length) (hs:s.length<=140737488351232) :
  CB 330 #[At0 g] w (i64 (zi4 s a s[a])):=by
 refine cofM 46 [At0 g] (.s .p (.s .p (.s .p (.c .p .p)))) Tryz.func330 ?_;refine⟨_,zac h (i:=1) rfl,?_⟩;refine⟨(a+1:Nat),(zai (by omega)).trans (by omega),?_⟩;refine DrawE.ord [] [0,1,2,3,4,5,6,7,8,9] (by kernel_rfl) ?_;have hd:zav w.drew ⟨g,0,none⟩ [strV s,i64 a]:=zaA rfl h;refine⟨_,zac hd (i:=0) rfl,?_⟩;refine⟨_,zac hd (i:=1) rfl,?_⟩;refine⟨a,rfl,ha,s[a],zfb ha,?_⟩;refine⟨Unit,fun _=>⟨[(3,i64 (zi4 s a s[a]))],[]⟩,fun _ X=>X=w.drew,?_,?_⟩
 ·have no:((eqB s[a] 61||eqB s[a] 33)&&decide (s[a+1]?=some 61))=false->∃ _:Unit,some (Value.int .i64 ((a+1:Nat):Int))=some (i64 (zi4 s a s[a])):=fun hf=>⟨(),by unfold zi4;rw [hf];rfl⟩;refine biE (fun h1=>?_) fun h1=>?_
  ·have he:(eqB s[a] 61||eqB s[a] 33)=true:=by
    have:eqB s[a] 61=true:=h1;rw [this];rfl
   refine brT ?_;refine⟨_,zac hd (i:=0) rfl,?_⟩;refine biE (fun h2=>?_) fun h2=>?_
   ·have h2:((a+1:Nat):Int)<(s.length:Int):=dT h2;have hl:a+1<s.length:=(by omega);refine⟨_,zac hd (i:=0) rfl,?_⟩;refine⟨a+1,rfl,hl,s[a+1],zfb hl,?_⟩;refine biE (fun h3=>?_) fun h3=>?_
    ·refine⟨(a+2:Nat),(zai (by omega)).trans (by omega),?_⟩;refine⟨(),⟨.cons ?_ .nil,rfl⟩,rfl⟩;have h61:s[a+1]=61:=by
      apply UInt8.toNat_inj.1;have:((s[a+1].toNat:Nat):Int)=61:=dT h3;have h6:(61:UInt8).toNat=61:=rfl;omega
     unfold zi4;rw [he,gE hl,h61];rfl
    ·obtain⟨_,e⟩:=no (by
      have h61:¬ s[a+1]=61:=fun e=>by rw [e] at h3;cases h3
      rw [gE hl,decide_eq_false (by simpa using h61),Bool.and_false])
     exact⟨(),⟨.cons e .nil,rfl⟩,rfl⟩
   ·have h2:¬ ((a+1:Nat):Int)<(s.length:Int):=dF h2;refine brF ?_;obtain⟨_,e⟩:=no (by rw [List.getElem?_eq_none (by omega)];simp);exact⟨(),⟨.cons e .nil,rfl⟩,rfl⟩
  ·have h1:eqB s[a] 61=false:=h1;refine biE (fun h1b=>?_) fun h1b=>?_
   ·have he:(eqB s[a] 61||eqB s[a] 33)=true:=by
     have:eqB s[a] 33=true:=h1b;rw [this,Bool.or_true]
    refine⟨_,zac hd (i:=0) rfl,?_⟩;refine biE (fun h2=>?_) fun h2=>?_
    ·have h2:((a+1:Nat):Int)<(s.length:Int):=dT h2;have hl:a+1<s.length:=(by omega);refine⟨_,zac hd (i:=0) rfl,?_⟩;refine⟨a+1,rfl,hl,s[a+1],zfb hl,?_⟩;refine biE (fun h3=>?_) fun h3=>?_
     ·refine⟨(a+2:Nat),(zai (by omega)).trans (by omega),?_⟩;refine⟨(),⟨.cons ?_ .nil,rfl⟩,rfl⟩;have h61:s[a+1]=61:=by
       apply UInt8.toNat_inj.1;have:((s[a+1].toNat:Nat):Int)=61:=dT h3;have h6:(61:UInt8).toNat=61:=rfl;omega
      unfold zi4;rw [he,gE hl,h61];rfl
     ·obtain⟨_,e⟩:=no (by
       have h61:¬ s[a+1]=61:=fun e=>by rw [e] at h3;cases h3
       rw [gE hl,decide_eq_false (by simpa using h61),Bool.and_false])
      exact⟨(),⟨.cons e .nil,rfl⟩,rfl⟩
    ·have h2:¬ ((a+1:Nat):Int)<(s.length:Int):=dF h2;refine brF ?_;obtain⟨_,e⟩:=no (by rw [List.getElem?_eq_none (by omega)];simp);exact⟨(),⟨.cons e .nil,rfl⟩,rfl⟩
   ·have h1b:eqB s[a] 33=false:=h1b;refine brF ?_;refine brF ?_;obtain⟨_,e⟩:=no (by rw [h1,h1b];rfl);exact⟨(),⟨.cons e .nil,rfl⟩,rfl⟩
 rintro _ _ rfl;exact⟨rfl,(Below.refl _ _).drew⟩
def ScV (X:World) (g:Nat) (s:List UInt8) (a:Nat) (op:Bool):Prop:=X.heap[g]?=some (.cells #[strV s,i64 a,.bool op] 357 (0,0))
theorem ScV.cells {X:World} {g a:Nat} {s:List UInt8} {op:Bool} (h:ScV X g s a op):zav X ⟨g,0,none⟩ [strV s,i64 a]:=by
 have:=zbn (o:=0) (n:=2) h;exact this
theorem ScV.below {X Y:World} {g a:Nat} {s:List UInt8} {op:Bool} (h:ScV X g s a op) (hb:Bw X Y):ScV Y g s a op:=zab hb h
theorem zhJ {a b c:World} {g:Nat} (h:a.grownBy b (some g)) (k:Bw b c):a.grownBy c (some g):=zaf h (zag k)
theorem zgD {X:World} {g a:Nat} {s:List UInt8} {op:Bool} (h:ScV X g s a op) (v:Nat) {K:World->Prop} (k:∀ Y,ScV Y g s v op->X.grownBy Y (some g)->Y.heap.size=X.heap.size->K Y) :
  SatR ((storeVar 3 ⟨g,1,none⟩ (i64 v)).run Tryz.prog X) fun _ w'=>K w' :=
 zcg k3 rfl h (o:=1) (by show 1<3;omega) (v:=i64 v) rfl rfl fun Y fY gY sY=>k Y fY gY sY
theorem zj9 {X:World} {g a:Nat} {s:List UInt8} {op:Bool} (h:ScV X g s a op) (v:Bool) {K:World->Prop} (k:∀ Y,ScV Y g s a v->X.grownBy Y (some g)->Y.heap.size=X.heap.size->K Y) :
  SatR ((storeVar 4 ⟨g,2,none⟩ (.bool v)).run Tryz.prog X) fun _ w'=>K w' :=
 zcg k4 rfl h (o:=2) (by show 2<3;omega) (v := .bool v) rfl rfl fun Y fY gY sY=>k Y fY gY sY
theorem zd1 {s:List UInt8} {k:Nat} (h:k<s.length):zce s k=decide (clsL s[k]=2):=by unfold zce;rw [gE h]
theorem zhV {s:List UInt8} {k:Nat} (h:s.length<=k):zce s k=true:=by unfold zce;rw [List.getElem?_eq_none h]
theorem zrM {g a:Nat} {s:List UInt8} {op:Bool} {w:World} (h:ScV w g s a op) (ha:a<=s.length) (hs:s.length<=140737488351232) :
  Calls Tryz.prog 316 #[At0 g] w fun e w'=>(∃ v,e = .returned v)/\ScV w' g s (zaI s a) op/\w.grownBy w' (some g):=by
 refine cofM 50 [At0 g] (.c .p (.c .p .p)) Tryz.func316 ?_;obtain⟨b,hb⟩:=nm (zdR s a);have hbl:b<=s.length:=by rw [hb];exact zmZ s a ha
 refine⟨Unit,fun _=>⟨[(0,At0 g)],[]⟩,fun _ X=>ScV X g s b op/\w.grownBy X (some g),?_,?_⟩
 ·refine⟨Nat,fun k=>⟨[(0,At0 g)],[]⟩,fun k X=>k<=s.length/\k+zcn zkD (s.drop k)=b/\ScV X g s k op/\w.grownBy X (some g),fun k=>s.length-k,a,(cvE rfl rfl),⟨ha,hb.symm,h,zbD _ _⟩,?_⟩;rintro k X ⟨hk,he,hX,hg⟩;dsimp only at hk he ⊢;refine DrawE.ord [] [0,1,2,3,4,5,6,7,8,9,10,11,12,13,14,15] (by kernel_rfl) ?_;have hXd:ScV X.drew g s k op:=hX;refine cmo (zkh hXd.cells) ?_;rintro e Y ⟨rfl,hbY⟩;refine⟨hbY,?_⟩;have hY:=hXd.below hbY;have gY:w.grownBy Y (some g):=zaf hg (zag ((Below.refl _ X).drew.trans hbY));refine biE (fun ho=>?_) fun ho=>?_
  ·have ho:s.length > k:=by
    have:(!decide (s.length<=k))=true:=ho;simpa using this
   refine⟨_,zac hY.cells (i:=0) rfl,?_⟩;refine⟨_,zac hY.cells (i:=1) rfl,?_⟩;refine⟨k,rfl,ho,s[k],zfb ho,?_⟩;refine cmo (zbN _ _) ?_;rintro e _ ⟨rfl,rfl⟩;refine⟨Below.refl _ _,?_⟩;have hd:decide ((clsL s[k]:Int)=1)=zkD s[k]:=zdJ (b:=1);rw [zdf ho] at he;refine biE (fun hi=>?_) fun hi=>?_
   ·rw [if_pos (hd.symm.trans hi)] at he;refine⟨_,zac hY.cells (i:=1) rfl,?_⟩;refine⟨(k+1:Nat),(zai (by omega)).trans (by omega),?_⟩;refine zgD hY (k+1) fun Z hZ gZ sZ=>?_;exact⟨k+1,(cvE rfl rfl),⟨ho,by omega,hZ,zaf gY gZ⟩,zdc (by omega)⟩
   ·have hi:¬ zkD s[k]=true:=(by rw [Bool.not_eq_true];exact hd.symm.trans hi);rw [if_neg hi] at he;exact⟨(),(cvE rfl rfl),by rw [<- he];exact hY,gY⟩
  ·have ho:s.length<=k:=by
    have:(!decide (s.length<=k))=false:=ho;simpa using this
   refine brF ?_;rw [zhi ho] at he;exact⟨(),(cvE rfl rfl),by rw [<- he];exact hY,gY⟩
 clear h;rintro _ X ⟨hX,hg⟩;have hp:zaI s a=match s[b]? with
   | some c=>if clsL c=7 then b+zcn zgx (s.drop b) else b
   | none=>b:=by rw [hb];rfl
 refine⟨Unit,fun _=>⟨[(0,At0 g)],[]⟩,fun _ X=>(∃ hl:b<s.length,clsL s[b]=7)/\ScV X g s b op/\w.grownBy X (some g),?_,?_⟩
 ·refine DrawE.ord [] [0,1,2,3,4,5,6,7,8,9,10,11,12,13,14] (by kernel_rfl) ?_;have hXd:ScV X.drew g s b op:=hX;refine cmo (zkh hXd.cells) ?_;rintro e Y ⟨rfl,hbY⟩;refine⟨hbY,?_⟩;have hY:=hXd.below hbY;have gY:w.grownBy Y (some g):=zaf hg (zag ((Below.refl _ X).drew.trans hbY));refine biE (fun ho=>?_) fun ho=>?_
  ·have ho:s.length<=b:=dT ho;refine brT ?_;have:zaI s a=b:=by rw [hp,List.getElem?_eq_none ho]
   rw [this];exact⟨⟨_,rfl⟩,hY,gY⟩
  ·have ho:¬ s.length<=b:=dF ho;have hl:b<s.length:=by omega
   refine⟨_,zac hY.cells (i:=0) rfl,?_⟩;refine⟨_,zac hY.cells (i:=1) rfl,?_⟩;refine⟨b,rfl,hl,s[b],zfb hl,?_⟩;refine cmo (zbN _ _) ?_;rintro e _ ⟨rfl,rfl⟩;refine⟨Below.refl _ _,?_⟩;refine biE (fun hi=>?_) fun hi=>?_
   ·have hi:¬ clsL s[b]=7:=by
     have h1:(!decide ((clsL s[b]:Int)=7))=true:=hi;simp at h1;omega
    have:zaI s a=b:=(by rw [hp,gE hl];simp only [if_neg hi]);rw [this];exact⟨⟨_,rfl⟩,hY,gY⟩
   ·have hi:clsL s[b]=7:=by
     have h1:(!decide ((clsL s[b]:Int)=7))=false:=hi;simp at h1;omega
    exact⟨(),(cvE rfl rfl),⟨hl,hi⟩,hY,gY⟩
 clear hX hg X;rintro _ X ⟨⟨hl,h7⟩,hX,hg⟩;have hp:zaI s a=b+zcn zgx (s.drop b):=by rw [hp,gE hl];simp only [if_pos h7]
 rw [hp];refine⟨Nat,fun k=>⟨[(0,At0 g)],[]⟩,fun k X=>k<=s.length/\k+zcn zgx (s.drop k)=b+zcn zgx (s.drop b)/\ScV X g s k op/\w.grownBy X (some g),fun k=>s.length-k,b,(cvE rfl rfl),⟨hbl,rfl,hX,hg⟩,?_⟩;clear hX hg X;rintro k X ⟨hk,he,hX,hg⟩;dsimp only at hk he ⊢;refine cmo (znG hX.cells (hlt hX)) ?_;rintro e Y ⟨rfl,hbY⟩;have hY:=hX.below hbY;have gY:=zhJ hg hbY;refine biE (fun hi=>?_) fun hi=>?_
 ·have hi:zce s k=false:=by
   have h1:(!zce s k)=true:=hi;simpa using h1
  have hkl:k<s.length:=by
   by_cases h0:k<s.length
   ·exact h0
   ·rw [zhV (by omega)] at hi;cases hi
  have hn:zgx s[k]=true:=by
   rw [zd1 hkl] at hi;unfold zgx;rw [hi];rfl
  rw [zdf hkl,if_pos hn] at he;refine⟨_,zac hY.cells (i:=1) rfl,?_⟩;refine⟨(k+1:Nat),(zai (by omega)).trans (by omega),?_⟩;refine zgD hY (k+1) fun Z hZ gZ sZ=>?_;exact⟨k+1,(cvE rfl rfl),⟨hkl,by omega,hZ,zaf gY gZ⟩,zdc (by omega)⟩
 ·have hi:zce s k=true:=by
   have h1:(!zce s k)=false:=hi;simpa using h1
  have h0:zcn zgx (s.drop k)=0:=by
   by_cases h0:k<s.length
   ·rw [zd1 h0] at hi;rw [zdf h0,if_neg];unfold zgx;rw [hi];decide
   ·exact zhi (by omega)
  rw [h0] at he;have he:k=b+zcn zgx (s.drop b):=by omega
  exact⟨⟨_,rfl⟩,by rw [<- he];exact hY,gY⟩
theorem zmz {s:List UInt8} {a:Nat} (ha:a<=s.length):zaI s a<=s.length:=by
 have h1:zdR s a<=s.length:=zmZ s a ha;unfold zaI
 split
 ·split
  ·exact zmZ s _ h1
  ·exact h1
 ·exact h1
def tokE:Enc Tok:=⟨fun t=>[u8 t.kind,strV t.text,i64 t.pos],3,fun _=>rfl,by decide,fun a u hu=>by
 simp only [List.mem_cons,List.not_mem_nil,or_false] at hu;rcases hu with rfl | rfl | rfl <;> rfl⟩
theorem znh {s:List UInt8} {a:Nat} (ha:a<s.length) (c:UInt8):a<endL s a c/\endL s a c<=s.length:=by
 unfold endL
 split
 ·have:=zmZ (p:=za0) s (a+1) ha;omega
 ·split
  ·have:=zmZ (p:=digB) s (a+1) ha;omega
  ·split
   ·rename_i h;have h2:s[a+1]?=some 61:=by
     simp only [bAT,dE] at h;exact h.2
    have:=(List.getElem?_eq_some_iff.1 h2).1;omega
   ·omega
theorem znD (s:List UInt8) (a e:Nat):(bs s).extract a e=bs ((s.drop a).take (e-a)):=by
 have h:((bs s).extract a e).data=(bs ((s.drop a).take (e-a))).data:=by
  rw [ByteArray.data_extract];apply Array.toList_inj.1;rw [Array.toList_extract];rfl
 exact ByteArray.ext h
theorem zpL {g a:Nat} {s:List UInt8} {op:Bool} {w:World} (h:ScV w g s a op) (ha:a<s.length) (hs:s.length<=140737488351232) :
  Calls Tryz.prog 318 #[At0 g] w fun e w'=>e = .returned (.agg (tokE.enc (tokL s a s[a])).toArray)/\ScV w' g s (endL s a s[a]) op/\w.grownBy w' (some g):=by
 refine cofM 51 [At0 g] (.s .p (.s .p (.c .p .p))) Tryz.func318 ?_;obtain⟨z,hz⟩:=nm (tokE.enc ⟨0,[],0⟩);obtain⟨W0,hW0⟩:=nm ((w.alloc (.cells z.toArray 335)));have hb0:Bw w W0:=by rw [hW0];exact (zba _ _)
 have f0:W0.heap[w.heap.size]?=some (.cells z.toArray 335 (0,0)):=by rw [hW0];exact hnew w _
 have h0:ScV W0 g s a op:=h.below hb0;have hgl:g<w.heap.size:=hlt h;refine⟨Nat,fun f=>⟨[(0,At0 g),(2,.pointer (some ⟨w.heap.size,0,none⟩)),(3,u8 (ziK s[a])),(4,.func (.func f) #[] #[])],[]⟩,fun f X=>Bw W0 X /\
  ((clsL s[a]=3/\f=331)\/(¬ clsL s[a]=3/\clsL s[a]=4/\f=332)\/(¬ clsL s[a]=3/\¬ clsL s[a]=4/\f=330)),?_,?_⟩
 ·subst hz;subst hW0;refine DrawE.ord [] [0,1,2,3,4,5,6,7,8,9,10,11] (by kernel_rfl) ?_;have hd:ScV (w.alloc (.cells (tokE.enc ⟨0,[],0⟩).toArray 335)).drew g s a op:=h0;refine⟨_,zac hd.cells (i:=0) rfl,?_⟩;refine⟨_,zac hd.cells (i:=1) rfl,?_⟩;refine⟨a,rfl,ha,s[a],zfb ha,?_⟩;refine cmo (zbN _ _) ?_;rintro e _ ⟨rfl,rfl⟩;refine⟨Below.refl _ _,?_⟩;refine biE (fun h3=>?_) fun h3=>?_
  ·have h3:clsL s[a]=3:=by have h3:(clsL s[a]:Int)=3:=dT h3;omega
   exact⟨_,⟨.cons rfl (.cons rfl (.cons (by unfold ziK;rw [if_pos h3];rfl) (.cons rfl .nil))),rfl⟩,(Below.refl _ _).drew,.inl ⟨h3,rfl⟩⟩
  have h3:¬ clsL s[a]=3:=by have h3:¬ (clsL s[a]:Int)=3:=dF h3;omega
  refine biE (fun h4=>?_) fun h4=>?_
  ·have h4:clsL s[a]=4:=by have h4:(clsL s[a]:Int)=4:=dT h4;omega
   exact⟨_,⟨.cons rfl (.cons rfl (.cons (by unfold ziK;rw [if_neg h3,if_pos h4];rfl) (.cons rfl .nil))),rfl⟩,(Below.refl _ _).drew,.inr (.inl ⟨h3,h4,rfl⟩)⟩
  ·have h4:¬ clsL s[a]=4:=by have h4:¬ (clsL s[a]:Int)=4:=dF h4;omega
   exact⟨_,⟨.cons rfl (.cons rfl (.cons (by unfold ziK;rw [if_neg h3,if_neg h4];rfl) (.cons rfl .nil))),rfl⟩,(Below.refl _ _).drew,.inr (.inr ⟨h3,h4,rfl⟩)⟩
 rintro f V ⟨hV,hf⟩;dsimp only at hV hf ⊢;have hVs:=h0.below hV;obtain⟨e1,e2⟩:=znh ha s[a];have fin:∀ Y,Bw V Y->∀ Z,ScV Z g s (endL s a s[a]) op->Y.grownBy Z (some g)->Bw w Y/\Z.heap[w.heap.size]?=some (.cells z.toArray 335 (0,0))/\w.grownBy Z (some g):=fun Y hY Z hZ gZ=>by
  have hwY:=((zst hb0 hV)).trans (hY.mono (by have:=hb0.size;have:=hV.size;omega));have f1:=zab hY (zab hV f0);refine⟨hwY,(gZ.block _ (hlt f1) (fun e=>by simp only [Option.some.injEq] at e;omega)).trans f1,zaf (zag hwY) gZ⟩
 have last:∀ Z,Z.heap[w.heap.size]?=some (.cells z.toArray 335 (0,0))->w.grownBy Z (some g)->∀ R,Z.grownBy R (some w.heap.size)->w.grownBy R (some g):=fun Z _ gZ R gR =>
  ⟨gR.os.trans gZ.os,gR.tape.trans gZ.tape,gR.output.trans gZ.output,Nat.le_trans gZ.size gR.size,fun k hk hne=>(gR.block k (nL hk gZ.size) (fun e=>by simp only [Option.some.injEq] at e;omega)).trans (gZ.block k hk hne)⟩
 have fill:∀ cs,cs=tokE.enc (tokL s a s[a])->∀ Z,Z.heap[w.heap.size]?=some (.cells z.toArray 335 (0,0))->∀ (K:World->Prop),(∀ R,R.heap[w.heap.size]?=some (.cells (tokE.enc (tokL s a s[a])).toArray 335 (0,0))->Z.grownBy R (some w.heap.size)->K R) ->
   SatR ((storeVar 335 ⟨w.heap.size,0,none⟩ (.agg cs.toArray)).run Tryz.prog Z) fun _ w'=>K w':=fun cs hcs Z fZ K k=>by
  subst hz hcs;exact zas (v := .agg (tokE.enc (tokL s a s[a])).toArray) k335 fZ rfl rfl rfl (k _ (zan fZ) (zaU Z _ _))
 rcases hf with ⟨h3,rfl⟩ | ⟨h3,h4,rfl⟩ | ⟨h3,h4,rfl⟩
 ·refine⟨_,zac hVs.cells (i:=1) rfl,?_⟩;refine cmo (zlJ hVs.cells ha hs) ?_;rintro e _ ⟨rfl,rfl⟩;have hbY:Bw V V:=Below.refl _ _;have hVY:=hVs;have ee:a+1+zcn za0 (s.drop (a+1))=endL s a s[a]:=by unfold endL;rw [if_pos h3]
  rw [ee];refine zgD hVY (endL s a s[a]) fun Z hZ gZ sZ=>?_;obtain⟨hwY,fZ,gwZ⟩:=fin V hbY Z hZ gZ;refine DrawE.ord [15] [0,1,2,3,4,5,6,7,8,9,10,11,12,13,14,15] (by kernel_rfl) ?_;have hZd:ScV Z.drew g s (endL s a s[a]) op:=hZ;refine⟨_,zac hZd.cells (i:=0) rfl,?_⟩;refine⟨_,zac hZd.cells (i:=1) rfl,?_⟩;refine⟨endL s a s[a],rfl,e2,a,rfl,by omega,?_⟩;refine⟨[u8 (ziK s[a]),.string ((bs s).extract a (endL s a s[a])),i64 a],rfl,?_⟩;refine fill _ (by rw [znD];rfl) Z.drew fZ _ fun R fR gR=>?_;refine⟨_,rfl,zaa fR,?_⟩;refine⟨rfl,?_,last Z.drew fZ (zaf gwZ (zag (Below.refl _ Z).drew)) R gR⟩;exact (gR.block g (hlt hZd) (fun e=>by simp only [Option.some.injEq] at e;omega)).trans hZd
 ·refine⟨_,zac hVs.cells (i:=1) rfl,?_⟩;refine cmo (zjh hVs.cells ha hs) ?_;rintro e _ ⟨rfl,rfl⟩;have hbY:Bw V V:=Below.refl _ _;have hVY:=hVs;have ee:a+1+zcn digB (s.drop (a+1))=endL s a s[a]:=by unfold endL;rw [if_neg h3,if_pos h4]
  rw [ee];refine zgD hVY (endL s a s[a]) fun Z hZ gZ sZ=>?_;obtain⟨hwY,fZ,gwZ⟩:=fin V hbY Z hZ gZ;refine DrawE.ord [15] [0,1,2,3,4,5,6,7,8,9,10,11,12,13,14,15] (by kernel_rfl) ?_;have hZd:ScV Z.drew g s (endL s a s[a]) op:=hZ;refine⟨_,zac hZd.cells (i:=0) rfl,?_⟩;refine⟨_,zac hZd.cells (i:=1) rfl,?_⟩;refine⟨endL s a s[a],rfl,e2,a,rfl,by omega,?_⟩;refine⟨[u8 (ziK s[a]),.string ((bs s).extract a (endL s a s[a])),i64 a],rfl,?_⟩;refine fill _ (by rw [znD];rfl) Z.drew fZ _ fun R fR gR=>?_;refine⟨_,rfl,zaa fR,?_⟩;refine⟨rfl,?_,last Z.drew fZ (zaf gwZ (zag (Below.refl _ Z).drew)) R gR⟩;exact (gR.block g (hlt hZd) (fun e=>by simp only [Option.some.injEq] at e;omega)).trans hZd
 ·refine⟨_,zac hVs.cells (i:=1) rfl,?_⟩;refine cmo (zl5 hVs.cells ha hs) ?_;rintro e Y ⟨rfl,hbY⟩;have hVY:=hVs.below hbY;have ee:zi4 s a s[a]=endL s a s[a]:=by unfold endL;rw [if_neg h3,if_neg h4];rfl
  rw [ee];refine zgD hVY (endL s a s[a]) fun Z hZ gZ sZ=>?_;obtain⟨hwY,fZ,gwZ⟩:=fin Y hbY Z hZ gZ;refine DrawE.ord [15] [0,1,2,3,4,5,6,7,8,9,10,11,12,13,14,15] (by kernel_rfl) ?_;have hZd:ScV Z.drew g s (endL s a s[a]) op:=hZ;refine⟨_,zac hZd.cells (i:=0) rfl,?_⟩;refine⟨_,zac hZd.cells (i:=1) rfl,?_⟩;refine⟨endL s a s[a],rfl,e2,a,rfl,by omega,?_⟩;refine⟨[u8 (ziK s[a]),.string ((bs s).extract a (endL s a s[a])),i64 a],rfl,?_⟩;refine fill _ (by rw [znD];rfl) Z.drew fZ _ fun R fR gR=>?_;refine⟨_,rfl,zaa fR,?_⟩;refine⟨rfl,?_,last Z.drew fZ (zaf gwZ (zag (Below.refl _ Z).drew)) R gR⟩;exact (gR.block g (hlt hZd) (fun e=>by simp only [Option.some.injEq] at e;omega)).trans hZd
def numV (l:List UInt8):Nat:=l.foldl (fun v c=>10*v+(c.toNat-48)) 0
theorem zmI {s:List UInt8} {k:Nat} (h:k<s.length):numV (s.take (k+1))=10*numV (s.take k)+(s[k].toNat-48):=by
 unfold numV;rw [tsg h,List.foldl_append];rfl
theorem zq2 {c:UInt8} (h:digB c=true):48<=c.toNat/\c.toNat<=57:=by
 unfold digB at h;have h:clsL c=4:=dT h;unfold clsL at h
 cases h1:ziM c with
 | true=>rw [h1] at h;cases h
 | false =>
  rw [h1] at h
  cases h2:zjq c with
  | true=>unfold zjq at h2;simp at h2;omega
  | false =>
   rw [h2] at h
   revert h
   cases eqB c 32||eqB c 9 <;> cases eqB c 10 <;> cases eqB c 95 <;> cases eqB c 35 <;> cases zoB c <;> (intro h;cases h)
theorem ztL (s:List UInt8) (hs:s.length<=140737488351232) (w:World):Calls Tryz.prog 320 #[strV s] w fun e w'=>∃ v,e = .returned (.tuple #[u8 v,.bool (numL s)])/\w=w':=by
 refine cofM 47 [strV s] (.s .p (.c .p .p)) Tryz.func320 ?_;have hnl:numL s=(decide (1<=s.length)&&(decide (s.length<=3)&&(!(decide (s.head?=some 48)&&decide (1<s.length))&&(s.all digB&&decide (numV s<=255))))):=rfl;refine⟨Unit,fun _=>⟨[(0,strV s)],[]⟩,fun _ X=>(1<=s.length/\s.length<=3/\(decide (s.head?=some 48)&&decide (1<s.length))=false)/\w=X,?_,?_⟩
 ·refine biE (fun h1=>?_) fun h1=>?_
  ·have h1:(s.length:Int)<1:=dT h1;refine brT ?_;refine brT ?_;exact⟨0,by rw [hnl,decide_eq_false (by omega)];rfl,rfl⟩
  have h1:¬ (s.length:Int)<1:=dF h1;refine biE (fun h2=>?_) fun h2=>?_
  ·have h2:(3:Int)<(s.length:Int):=dT h2;refine brT ?_;exact⟨0,by rw [hnl,decide_eq_false (p:=s.length<=3) (by omega)];simp;rfl,rfl⟩
  have h2:¬ (3:Int)<(s.length:Int):=dF h2;have h0:0<s.length:=by omega
  have hh:s.head?=some s[0]:=by rw [List.head?_eq_getElem?,gE h0]
  refine⟨0,rfl,h0,s[0],zfb h0,?_⟩;refine biE (fun h3=>?_) fun h3=>?_
  ·have h3:s[0]=48:=by
    apply UInt8.toNat_inj.1;have h3:((s[0].toNat:Nat):Int)=48:=dT h3;have:(48:UInt8).toNat=48:=rfl;omega
   refine biE (fun h4=>?_) fun h4=>?_
   ·have h4:(1:Int)<(s.length:Int):=dT h4;exact⟨0,by rw [hnl,hh,h3,decide_eq_true (p:=1<s.length) (by omega)];simp;rfl,rfl⟩
   ·have h4:¬ (1:Int)<(s.length:Int):=dF h4;exact⟨(),(cvE rfl rfl),⟨by omega,by omega,by rw [decide_eq_false (p:=1<s.length) (by omega),Bool.and_false]⟩,rfl⟩
  ·refine brF ?_;exact⟨(),(cvE rfl rfl),⟨by omega,by omega,by
    have:¬ s[0]=48:=fun e=>by rw [e] at h3;cases h3
    rw [hh,decide_eq_false (by simpa using this),Bool.false_and]⟩,rfl⟩
 rintro _ _ ⟨⟨h1,h2,h3⟩,rfl⟩;have hnl:numL s=(s.all digB&&decide (numV s<=255)):=by rw [hnl,decide_eq_true h1,decide_eq_true h2,h3];rfl
 rw [hnl];refine⟨Nat,fun k=>⟨[(0,strV s),(4,i64 (numV (s.take k):Nat)),(25,i64 s.length),(26,i64 (k:Nat))],[]⟩,fun k X=>k<=s.length/\(∀ c∈s.take k,digB c=true)/\numV (s.take k)<10^k/\w=X,fun k=>s.length-k,0,(cvE rfl rfl),⟨Nat.zero_le _,by simp,Nat.one_pos,rfl⟩,?_⟩;rintro k _ ⟨hk,hdg,hv,rfl⟩;dsimp only at hk hdg hv ⊢;refine biE (fun hc=>?_) fun hc=>?_
 ·have hc:(k:Int)<(s.length:Int):=dT hc;have hl:k<s.length:=by omega
  refine⟨k,rfl,hl,s[k],zfb hl,?_⟩;refine cmo (zbN _ _) ?_;rintro e _ ⟨rfl,rfl⟩;have hd:decide ((clsL s[k]:Int)=4)=digB s[k]:=zdJ (b:=4);refine biE (fun hi=>?_) fun hi=>?_
  ·have hi:digB s[k]=false:=by
    have h1:(!decide ((clsL s[k]:Int)=4))=true:=hi;rw [hd] at h1;simpa using h1
   have:s.all digB=false:=by
    rw [List.all_eq_false];exact⟨s[k],gM _,by rw [hi];simp⟩
   exact⟨0,by rw [this];rfl,rfl⟩
  ·have hi:digB s[k]=true:=by
    have h1:(!decide ((clsL s[k]:Int)=4))=false:=hi;rw [hd] at h1;simpa using h1
   obtain⟨d1,d2⟩:=zq2 hi;have hv3:numV (s.take k)<1000:=nL hv (by
    have:k<=3:=(by omega);exact Nat.pow_le_pow_right (by decide) this)
   have hsn:=zmI hl;refine⟨((10*numV (s.take k):Nat):Int),(zai (by omega)).trans (by omega),?_⟩;refine⟨k,rfl,hl,s[k],zfb hl,?_⟩;refine⟨((s[k].toNat-48:Nat):Int),(zg5 (by omega)).trans (by omega),?_⟩;refine⟨((s[k].toNat-48:Nat):Int),(zai (by omega)).trans (by omega),?_⟩;refine⟨(numV (s.take (k+1)):Int),(zai (by omega)).trans (by omega),?_⟩;refine⟨(k+1:Nat),(zai (by omega)).trans (by omega),?_⟩;refine⟨k+1,(cvE rfl rfl),⟨hl,?_,?_,rfl⟩,zdc (by omega)⟩
   ·rw [tsg hl];intro c hc;rcases List.mem_append.1 hc with hc | hc
    ·exact hdg c hc
    ·simp only [List.mem_singleton] at hc;rw [hc];exact hi
   ·rw [hsn,Nat.pow_succ];omega
 ·have hc:¬ (k:Int)<(s.length:Int):=dF hc;obtain rfl:k=s.length:=by omega
  rw [List.take_length] at hdg hv;have ha:s.all digB=true:=List.all_eq_true.2 hdg;rw [ha,List.take_length];have hv3:numV s<1000:=nL hv (Nat.pow_le_pow_right (by decide) h2);refine biE (fun h5=>?_) fun h5=>?_
  ·have h5:(255:Int)<(numV s:Int):=dT h5;exact⟨0,by rw [decide_eq_false (by omega)];rfl,rfl⟩
  ·have h5:¬ (255:Int)<(numV s:Int):=dF h5;refine⟨((UInt8.ofNat (numV s)).toNat:Int),(zg5 (by omega)).trans (by rw [UInt8.toNat_ofNat'];omega),?_⟩;exact⟨UInt8.ofNat (numV s),by rw [decide_eq_true (by omega)];rfl,rfl⟩
theorem zr3 {t:Tok} (h:t.kind=3) (hl:0<t.text.length):zbG t=if clsL t.text[0]=6 then 0 else 40:=by
 obtain⟨k,x,p⟩:=t;have h:k=3:=h;subst h
 cases x with
 | nil=>exact absurd hl (Nat.lt_irrefl 0)
 | cons a r=>rfl
theorem zqw (t:Tok) (ht:t.kind=3->t.text≠[]) (hs:t.text.length<=140737488351232) (w:World):CB 308 #[.agg (tokE.enc t).toArray] w (i64 (zbG t)):=by
 refine cofE 30 [.agg (tokE.enc t).toArray] Tryz.func308 ?_;have hb0:Bw w (w.alloc (.cells (tokE.enc t).toArray 335)):=zba _ _;have f0:=hnew w (.cells (tokE.enc t).toArray 335);have c0:zav (w.alloc (.cells (tokE.enc t).toArray 335)) ⟨w.heap.size,0,none⟩ [u8 t.kind,strV t.text,i64 t.pos]:=zaa f0;have kd:∀ k:UInt8,decide ((t.kind.toNat:Int)=(k.toNat:Int))=decide (t.kind=k):=fun k=>by
  rw [decide_eq_decide];exact zbM
 refine⟨_,zac c0 (i:=0) rfl,?_⟩;refine biE (fun h1=>?_) fun h1=>?_
 ·have h1:t.kind=1:=dT ((kd 1).symm.trans h1);have e:zbG t=if 16<t.text.length then 42 else 0:=by unfold zbG;rw [if_pos h1]
  rw [e];refine⟨_,zac c0 (i:=1) rfl,?_⟩;refine biE (fun h2=>?_) fun h2=>?_
  ·have h2:(16:Int)<(t.text.length:Int):=dT h2;exact⟨by rw [if_pos (by omega)];rfl,hb0⟩
  ·have h2:¬ (16:Int)<(t.text.length:Int):=dF h2;exact⟨by rw [if_neg (by omega)];rfl,hb0⟩
 have h1:¬ t.kind=1:=dF ((kd 1).symm.trans h1);refine biE (fun h2=>?_) fun h2=>?_
 ·have h2:t.kind=2:=dT ((kd 2).symm.trans h2);have e:zbG t=if numL t.text then 0 else 41:=by unfold zbG;rw [if_neg h1,if_pos h2]
  rw [e];refine⟨_,zac c0 (i:=1) rfl,?_⟩;refine cmo (ztL t.text hs _) ?_;rintro e _ ⟨v,rfl,rfl⟩;refine biE (fun h3=>?_) fun h3=>?_
  ·have h3:(!numL t.text)=true:=h3;have h3:numL t.text=false:=by simpa using h3
   exact⟨by rw [h3];rfl,hb0⟩
  ·have h3:(!numL t.text)=false:=h3;have h3:numL t.text=true:=by simpa using h3
   exact⟨by rw [h3];rfl,hb0⟩
 have h2:¬ t.kind=2:=dF ((kd 2).symm.trans h2);refine biE (fun h3=>?_) fun h3=>?_
 ·have h3:t.kind=3:=dT ((kd 3).symm.trans h3);have hne:=ht h3;have hl:0<t.text.length:=List.length_pos_iff.2 hne;have e:zbG t=if clsL t.text[0]=6 then 0 else 40:=zr3 h3 hl
  rw [e];refine⟨_,zac c0 (i:=1) rfl,?_⟩;refine⟨0,rfl,hl,t.text[0],zfb hl,?_⟩;refine cmo (zbN _ _) ?_;rintro e _ ⟨rfl,rfl⟩;refine biE (fun h4=>?_) fun h4=>?_
  ·have h4:(!decide ((clsL t.text[0]:Int)=6))=true:=h4;have h4:¬ clsL t.text[0]=6:=by simp at h4;omega
   exact⟨by rw [if_neg h4];rfl,hb0⟩
  ·have h4:(!decide ((clsL t.text[0]:Int)=6))=false:=h4;have h4:clsL t.text[0]=6:=by simp at h4;omega
   exact⟨by rw [if_pos h4];rfl,hb0⟩
 have h3:¬ t.kind=3:=dF ((kd 3).symm.trans h3);exact⟨by unfold zbG;rw [if_neg h1,if_neg h2,if_neg h3];rfl,hb0⟩
theorem zgf {a b c:World} {g r:Nat} (h:a.grownBy b (some g)) (k:b.grownBy c (some r)) (hr:a.heap.size<=r):a.grownBy c (some g) :=
 ⟨k.os.trans h.os,k.tape.trans h.tape,k.output.trans h.output,Nat.le_trans h.size k.size,fun i hi hne=>(k.block i (nL hi h.size) (fun e=>by simp only [Option.some.injEq] at e;omega)).trans (h.block i hi hne)⟩
theorem zqi {x y:Int} {T:Array TypeId} {t:TypeId} {w:World} {K:Value->World->Prop} (k:K (.int .i64 (if y<x then y else x)) w):SatR ((Builtin.min_ T t [Value.int .i64 x,.int .i64 y].toArray).run Tryz.prog w) K :=
 SatR.mk (v := .int .i64 (if y<x then y else x)) (w':=w) (by simp [Builtin.min_,Builtin.min2]) k
section
variable {s:List UInt8} {f a:Nat} {op:Bool}
theorem zkk (h:zaI s a<s.length) (h2:¬ clsL s[zaI s a]=2):zcK s (f+1) a op=some (tokL s (zaI s a) s[zaI s a],endL s (zaI s a) s[zaI s a],true):=by
 unfold zcK;rw [gE h];simp only [if_neg h2]
theorem zhq (h:zce s (zaI s a)=true):zcK s (f+1) a true=some (⟨4,[],zaI s a⟩,min (zaI s a+1) s.length,false):=by
 unfold zcK;by_cases hp:zaI s a<s.length
 ·rw [zd1 hp] at h;have h:=dT h;rw [gE hp];simp only [if_pos h];rfl
 ·rw [List.getElem?_eq_none (by omega)];rfl
theorem ziB (h:s.length<=zaI s a):zcK s (f+1) a false=none:=by
 unfold zcK;rw [List.getElem?_eq_none h];rfl
theorem ziC (h:zaI s a<s.length) (h2:clsL s[zaI s a]=2):zcK s (f+1) a false=zcK s f (min (zaI s a+1) s.length) false:=by
 conv=>lhs;unfold zcK
 rw [gE h];simp only [if_pos h2];rfl
theorem zmA:a<=zaI s a:=by
 have h1:a<=zdR s a:=Nat.le_add_right _ _;unfold zaI
 split
 ·split
  ·omega
  ·exact h1
 ·exact h1
end
def zTok:Tok:=⟨0,[],0⟩
theorem zpi {g a:Nat} {s:List UInt8} {op:Bool} {w:World} (h:ScV w g s a op) (ha:a<=s.length) (hs:s.length<=140737488351232) :
  Calls Tryz.prog 307 #[At0 g] w fun e w'=>∃ t a' op' ok,e = .returned (.tuple #[.agg (tokE.enc t).toArray,.bool ok])/\(ok=true->zcK s (s.length+2) a op=some (t,a',op'))/\(ok=false->zcK s (s.length+2) a op=none) /\
   a'<=s.length/\ScV w' g s a' op'/\w.grownBy w' (some g):=by
 refine cofE 57 [At0 g] Tryz.func307 ?_;obtain⟨r,hr⟩:=nm (w.heap.size);have hgl:g<r:=by rw [hr];exact hlt h
 obtain⟨W0,hW0⟩:=nm (w.alloc (.cells (tokE.enc zTok).toArray 335));have hb0:Bw w W0:=by rw [hW0];exact (zba _ _)
 have f0:W0.heap[r]?=some (.cells (tokE.enc zTok).toArray 335 (0,0)):=by rw [hW0,hr];exact hnew w _
 have h0:ScV W0 g s a op:=h.below hb0;refine⟨Nat×Nat×Bool,fun k=>⟨[(0,At0 g),(2,At0 r)],[]⟩,fun k X=>s.length+1<=k.1+k.2.1/\k.2.1<=s.length/\zcK s (k.1+1) k.2.1 k.2.2=zcK s (s.length+2) a op/\ScV X g s k.2.1 k.2.2/\w.grownBy X (some g)/\X.heap[r]?=some (.cells (tokE.enc zTok).toArray 335 (0,0)),
  fun k=>s.length-k.2.1,(s.length+1,a,op),⟨.cons rfl (.cons (by rw [hr];rfl) .nil),rfl⟩,⟨by omega,ha,rfl,by subst hW0;exact h0,by subst hW0;exact zag hb0,by subst hW0;exact f0⟩,?_⟩
 clear hW0 hb0 f0 h0 W0;rintro⟨f,k,o⟩ X ⟨hf,hk,hn,hX,gX,fX⟩;dsimp only at hf hk hn hX gX fX ⊢;have fillR:∀ (t:Tok) (Y:World),Y.heap[r]?=some (.cells (tokE.enc zTok).toArray 335 (0,0))->∀ (K:World->Prop),(∀ R,R.heap[r]?=some (.cells (tokE.enc t).toArray 335 (0,0))->Y.grownBy R (some r)->K R) ->
   SatR ((storeVar 335 ⟨r,0,none⟩ (.agg (tokE.enc t).toArray)).run Tryz.prog Y) fun _ w'=>K w':=fun t Y fY K q =>
  zas (v := .agg (tokE.enc t).toArray) k335 fY rfl rfl rfl (q _ (zan fY) (zaU Y _ _))
 have keepR:∀ {A B:World},A.grownBy B (some g)->A.heap[r]?=some (.cells (tokE.enc zTok).toArray 335 (0,0))->B.heap[r]?=some (.cells (tokE.enc zTok).toArray 335 (0,0)):=fun hg hA=>(hg.block _ (hlt hA) (fun e=>by simp only [Option.some.injEq] at e;omega)).trans hA;have keepS:∀ {A B:World} {a:Nat} {o:Bool} {q:Nat},A.grownBy B (some q)->g≠q->ScV A g s a o->ScV B g s a o:=fun hg hq hA=>(hg.block _ (hlt hA) (fun e=>hq (by simpa using e))).trans hA;refine cmo (zrM hX hk hs) ?_;rintro e Y ⟨⟨v,rfl⟩,hY,gY⟩;have hp:=zmz (s:=s) hk;have hpk:=zmA (s:=s) (a:=k);have fY:=keepR gY fX;have gwY:=zaf gX gY;refine cmo (znG hY.cells (hlt hY)) ?_;rintro e Z ⟨rfl,hbZ⟩;have hZ:=hY.below hbZ;have gwZ:=zhJ gwY hbZ;have fZ:=zab hbZ fY;refine biE (fun hc=>?_) fun hc=>?_
 ·have hc:zce s (zaI s k)=false:=by
   have h1:(!zce s (zaI s k))=true:=hc;simpa using h1
  have hl:zaI s k<s.length:=by
   by_cases h1:zaI s k<s.length
   ·exact h1
   ·rw [zhV (by omega)] at hc;cases hc
  rw [zd1 hl] at hc;have hc:=dF hc;rw [zkk hl hc] at hn;refine zj9 hZ true fun U hU gU sU=>?_;have gwU:=zaf gwZ gU;have fU:=keepR gU fZ;refine cmo (zpL hU hl hs) ?_;rintro e V ⟨rfl,hV,gV⟩;have gwV:=zaf gwU gV;refine fillR _ V (keepR gV fU) _ fun R fR gR=>?_;refine⟨_,rfl,zaa fR,?_⟩;exact⟨_,_,_,true,rfl,fun _=>hn.symm,fun h=>(by cases h),(znh hl _).2,keepS gR (by omega) hV,zgf gwV gR (by omega)⟩
 have hc:zce s (zaI s k)=true:=by
  have h1:(!zce s (zaI s k))=false:=hc;simpa using h1
 refine⟨_,zac hZ.cells (i:=1) rfl,?_⟩;refine⟨tokE.enc ⟨4,[],zaI s k⟩,rfl,?_⟩;refine zal (X:=Z) (v := .agg (tokE.enc ⟨4,[],zaI s k⟩).toArray) k335 rfl rfl rfl fun U hbU fU4 sU=>?_;have fU4:U.heap[Z.heap.size]?=some (.cells (tokE.enc ⟨4,[],zaI s k⟩).toArray 335 (0,0)):=fU4;have hU:=hZ.below hbU;have gwU:=zhJ gwZ hbU;have fU:=zab hbU fZ;have hzs:r<Z.heap.size:=hlt fZ;refine cmo (zkh hU.cells) ?_;rintro e V ⟨rfl,hbV⟩;have hV:=hU.below hbV;have gwV:=zhJ gwU hbV;have fV:=zab hbV fU;have fV4:=zab hbV fU4;refine DrawE.ord [17] [0,1,2,3,4,5,6,7,8,9,10,11,12,13,14,15,16,17] (by kernel_rfl) ?_;have hVd:ScV V.drew g s (zaI s k) o:=hV;refine⟨_,zac hVd.cells (i:=1) rfl,?_⟩;refine⟨(zaI s k+1:Nat),(zai (by omega)).trans (by omega),?_⟩;refine⟨_,zac hVd.cells (i:=0) rfl,?_⟩;refine zqi ?_;refine⟨Below.refl _ _,?_⟩;have hmin:(if ((s.length:Nat):Int)<((zaI s k+1:Nat):Int) then ((s.length:Nat):Int) else ((zaI s k+1:Nat):Int))=((min (zaI s k+1) s.length:Nat):Int):=by
  split <;> omega
 have e5:Value.int .i64 (if (((bs s).size:Nat):Int)<((zaI s k+1:Nat):Int) then (((bs s).size:Nat):Int) else ((zaI s k+1:Nat):Int))=i64 (min (zaI s k+1) s.length:Nat):=by
  rw [show (bs s).size=s.length from rfl,hmin];rfl
 rw [e5];refine zgD hVd (min (zaI s k+1) s.length) fun R hR gR sR=>?_;have gwR:=zaf (zaf gwV (zag (Below.refl _ V).drew)) gR;have fR:=keepR gR (hdr fV);have fR4:R.heap[Z.heap.size]?=some (.cells (tokE.enc ⟨4,[],zaI s k⟩).toArray 335 (0,0)):=(gR.block _ (hlt (hdr fV4)) (fun e=>by simp only [Option.some.injEq] at e;omega)).trans (hdr fV4);refine⟨_,zac (zaa hR) (i:=2) rfl,?_⟩;refine biE (fun ho=>?_) fun ho=>?_
 ·have ho:o=true:=ho;subst ho;rw [zhq hc] at hn;refine zj9 hR false fun T hT gT sT=>?_;have gwT:=zaf gwR gT;have fT:=keepR gT fR;have fT4:T.heap[Z.heap.size]?=some (.cells (tokE.enc ⟨4,[],zaI s k⟩).toArray 335 (0,0)):=(gT.block _ (hlt fR4) (fun e=>by simp only [Option.some.injEq] at e;omega)).trans fR4;refine⟨_,rfl,zaa fT4,hlt fT4,?_⟩;refine fillR ⟨4,[],zaI s k⟩ T fT _ fun L fL gL=>?_;refine⟨_,rfl,zaa fL,?_⟩;exact⟨_,_,_,true,rfl,fun _=>hn.symm,fun h=>(by cases h),Nat.min_le_right _ _,keepS gL (by omega) hT,zgf gwT gL (by omega)⟩
 ·have ho:o=false:=ho;subst ho;refine biE (fun h5=>?_) fun h5=>?_
  ·have h5:s.length<=zaI s k:=dT h5;rw [ziB h5] at hn;refine⟨tokE.enc zTok,rfl,?_⟩;refine fillR zTok R fR _ fun L fL gL=>?_;refine⟨_,rfl,zaa fL,?_⟩;exact⟨_,_,_,false,rfl,fun h=>(by cases h),fun _=>hn.symm,Nat.min_le_right _ _,keepS gL (by omega) hR,zgf gwR gL (by omega)⟩
  ·have h5:¬ s.length<=zaI s k:=dF h5;have hl:zaI s k<s.length:=by omega
   have h2:clsL s[zaI s k]=2:=by rw [zd1 hl] at hc;exact dT hc
   rw [ziC hl h2] at hn;have hmn:min (zaI s k+1) s.length=zaI s k+1:=Nat.min_eq_left (by omega);obtain⟨f',rfl⟩:∃ f',f=f'+1:=⟨f-1,by omega⟩;exact⟨(f',min (zaI s k+1) s.length,false),(cvE rfl rfl),⟨by show _<=f'+min _ _;omega,Nat.min_le_right _ _,hn,hR,gwR,fR⟩,by show s.length-min _ _<s.length-k;omega⟩
def bOp (op:Bool):Nat:=if op then 1 else 0
theorem zle {s:List UInt8} {f a a':Nat} {op op':Bool} {t:Tok} (h:zcK s (f+1) a op=some (t,a',op')) :
  (∃ hl:zaI s a<s.length,t=tokL s (zaI s a) s[zaI s a]/\a'=endL s (zaI s a) s[zaI s a]/\op'=true)\/(op=true/\t=⟨4,[],zaI s a⟩/\a'=min (zaI s a+1) s.length/\op'=false) \/
   (op=false/\zaI s a<s.length/\zcK s f (min (zaI s a+1) s.length) false=some (t,a',op')):=by
 by_cases hp:zaI s a<s.length
 ·by_cases h2:clsL s[zaI s a]=2
  ·cases op with
   | true =>
    rw [zhq (by rw [zd1 hp];exact decide_eq_true h2)] at h;simp only [Option.some.injEq,Prod.mk.injEq] at h;exact .inr (.inl ⟨rfl,h.1.symm,h.2.1.symm,h.2.2.symm⟩)
   | false =>
    rw [ziC hp h2] at h;exact .inr (.inr ⟨rfl,hp,h⟩)
  ·rw [zkk hp h2] at h;simp only [Option.some.injEq,Prod.mk.injEq] at h;exact .inl ⟨hp,h.1.symm,h.2.1.symm,h.2.2.symm⟩
 ·cases op with
  | true =>
   rw [zhq (zhV (by omega))] at h;simp only [Option.some.injEq,Prod.mk.injEq] at h;exact .inr (.inl ⟨rfl,h.1.symm,h.2.1.symm,h.2.2.symm⟩)
  | false=>rw [ziB (by omega)] at h;cases h
theorem zeB {s:List UInt8} {t:Tok} {a':Nat} {op':Bool}:∀ {f a:Nat} {op:Bool},zcK s f a op=some (t,a',op')->a<=s.length ->
  a'<=s.length/\2*(s.length-a')+bOp op'<2*(s.length-a)+bOp op/\(t.kind=3->t.text≠[])/\t.text.length<=s.length
 | 0,_,_,h,_=>by cases h
 | f+1,a,op,h,ha=>by
  have hpa:=zmA (s:=s) (a:=a);have hpl:=zmz ha;rcases zle h with ⟨hl,rfl,rfl,rfl⟩ | ⟨rfl,rfl,rfl,rfl⟩ | ⟨rfl,hl,h'⟩
  ·obtain⟨e1,e2⟩:=znh hl s[zaI s a];refine⟨e2,?_,fun _=>?_,?_⟩
   ·have:bOp true=1:=rfl;omega
   ·intro he;have h1:((s.drop (zaI s a)).take (endL s (zaI s a) s[zaI s a]-zaI s a)).length=0:=by
     have:(tokL s (zaI s a) s[zaI s a]).text=[]:=he;exact congrArg List.length this
    rw [List.length_take,List.length_drop] at h1;omega
   ·show ((s.drop (zaI s a)).take _).length<=_;rw [List.length_take,List.length_drop];omega
  ·refine⟨Nat.min_le_right _ _,?_,fun h=>(by cases h),Nat.zero_le _⟩;have h1:bOp true=1:=rfl;have h0:bOp false=0:=rfl;omega
  ·obtain⟨h1,h2,h3⟩:=zeB h' (Nat.min_le_right _ _);refine⟨h1,?_,h3⟩;omega
theorem zh2 {s:List UInt8} {f a a':Nat} {op op':Bool} {t:Tok} (h:zcK s (s.length+2) a op=some (t,a',op')):zeS s (f+1) a op=t::zeS s f a' op':=by
 show (match zcK s (s.length+2) a op with
  | some (t,a',op')=>t::zeS s f a' op'
  | none=>[])=_
 rw [h]
theorem zh1 {s:List UInt8} {f a:Nat} {op:Bool} (h:zcK s (s.length+2) a op=none):zeS s (f+1) a op=[]:=by
 show (match zcK s (s.length+2) a op with
  | some (t,a',op')=>t::zeS s f a' op'
  | none=>[])=_
 rw [h]
def StT (pre:List Tok) (vs:List Value) (_:World):Prop:=∃ t,pre.getLast?=some t/\vs=[.agg (tokE.enc t).toArray,i64 (zbG t)]
theorem zn1 {g:Nat} {w:World}:Calls Tryz.prog 273 #[At0 g] w fun e w'=>e = .returned (.func (.func 306) #[] #[.pointer (some ⟨w.heap.size,0,none⟩)])/\w'=w.alloc (.cells #[At0 g] 377):=by
 refine cofE 4 [At0 g] Tryz.func273 ?_;exact⟨rfl,rfl⟩
theorem zlP {g bx:Nat} {s:List UInt8} {W0:World} (h:ScV W0 g s 0 false) (hbx:W0.heap[bx]?=some (.cells #[At0 g] 377 (0,0))) (hne:bx≠g) (hs:s.length<=140737488351232) :
  zsJ Tryz.prog 306 [At0 bx] (zbr s) W0 (fun k=>k=bx) (fun k=>k=g) StT:=by
 intro yl Fp J Jx W hsz hrd hrf hJ hJx hy h0;have hbW:W.heap[bx]?=some (.cells #[At0 g] 377 (0,0)):=(hrd bx (.inl rfl)).trans hbx;have hgW:ScV W g s 0 false:=(hrd g (.inr rfl)).trans h;have hbs:bx<W0.heap.size:=hlt hbx;have hgs:g<W0.heap.size:=hlt h;refine cofE 23 [.func (.yield yl) #[] #[],At0 bx] Tryz.func306 ?_
 let Inv:List Tok->World->Prop:=fun pre X=>J pre X/\W.heap.size<=X.heap.size/\X.heap[bx]?=some (.cells #[At0 g] 377 (0,0))/\¬ Fp X bx
 have stepG:∀ pre X Y,Inv pre X->X.grownBy Y (some g)->Inv pre Y/\∀ k,Fp Y k->Fp X k:=fun pre X Y ⟨h1,h2,h3,h4⟩ hg=>by
  have hst:StepO W.heap.size (fun k=>k=g) Fp X Y:=⟨hg.os,hg.tape,hg.output,hg.size,fun k hk hf=>hg.block k hk (fun e=>by
   have e:g=k:=(by simpa using e:k=g).symm;rcases hf with hf | hf
   ·exact hf.2 e.symm
   ·exact (hJ.lt _ _ _ h1 hf).2 e.symm)⟩
  obtain⟨j1,j2⟩:=hJ.step _ _ _ h1 hst;refine⟨⟨j1,Nat.le_trans h2 hg.size,(hg.block _ (hlt h3) (fun e=>hne (by simpa using e))).trans h3,fun hf=>h4 (j2 _ hf)⟩,j2⟩
 have stepB:∀ pre X Y,Inv pre X->Bw X Y->Inv pre Y/\∀ k,Fp Y k->Fp X k:=fun pre X Y hI hb=>stepG pre X Y hI (zag hb);have I0:Inv [] W:=⟨h0,Nat.le_refl _,hbW,hrf bx rfl⟩;refine⟨_,zac (zaa hbW) (i:=0) rfl,?_⟩;refine cmo (zpi hgW (Nat.zero_le _) hs) ?_;rintro e Y ⟨t,a,op,ok,rfl,hok,hno,ha,hY,gY⟩;obtain⟨I1,_⟩:=stepG [] W Y I0 gY;refine zal (X:=Y) (v := .agg (tokE.enc t).toArray) k335 rfl rfl rfl fun Z hbZ fZ sZ=>?_;have fZ:Z.heap[Y.heap.size]?=some (.cells (tokE.enc t).toArray 335 (0,0)):=fZ;obtain⟨I2,q2⟩:=stepB [] Y Z I1 hbZ;refine⟨List Tok×Nat×Nat×Bool×Bool×Tok×Nat,fun q=>⟨[(0,.func (.yield yl) #[] #[]),(1,At0 bx),(3,.pointer (some ⟨q.2.2.2.2.2.2,0,none⟩)),(4,.bool q.2.2.2.2.1)],[]⟩,
  fun q X=>Inv q.1 X/\(q.2.2.2.2.1=true->zbr s=q.1++q.2.2.2.2.2.1::zeS s q.2.1 q.2.2.1 q.2.2.2.1)/\(q.2.2.2.2.1=false->zbr s=q.1)/\(q.2.2.2.2.1=true->2*(s.length-q.2.2.1)+bOp q.2.2.2.1<q.2.1)/\q.2.2.1<=s.length/\ScV X g s q.2.2.1 q.2.2.2.1 /\
   X.heap[q.2.2.2.2.2.2]?=some (.cells (tokE.enc q.2.2.2.2.2.1).toArray 335 (0,0))/\W.heap.size<=q.2.2.2.2.2.2/\¬ Fp X q.2.2.2.2.2.2/\(q.2.2.2.2.1=true->(q.2.2.2.2.2.1.kind=3->q.2.2.2.2.2.1.text≠[])/\q.2.2.2.2.2.1.text.length<=s.length),
  fun q=>q.2.1,([],2*s.length+2,a,op,ok,t,Y.heap.size),(cvE rfl rfl),⟨I2,?_,?_,?_,ha,hY.below hbZ,fZ,gY.size,?_,?_⟩,?_⟩
 ·intro h1;exact zh2 (hok h1)
 ·intro h1;exact zh1 (hno h1)
 ·intro h3;have:=(zeB (hok h3) (Nat.zero_le _)).2.1;have h0:bOp false=0:=rfl;dsimp only;omega
 ·intro hf;have h9:Y.heap.size<Y.heap.size:=(hJ.lt _ _ _ I1.1 (q2 _ hf)).1;omega
 ·intro h1;exact (zeB (hok h1) (Nat.zero_le _)).2.2
 clear I2 q2 fZ hbZ sZ I1 gY hY hok hno ha;rintro⟨pre,f,a,op,ok,t,tb⟩ X ⟨hI,h1,h2,hf,ha,hX,ft,htb,hft,hgd⟩;dsimp only at hI h1 h2 hf ha hX ft htb hft hgd ⊢;refine biE (fun hok=>?_) fun hok=>?_
 ·have hok:ok=true:=hok;subst hok;have h1:=h1 rfl;have hf:=hf rfl;obtain⟨g1,g2⟩:=hgd rfl;have hpre:(pre++[t]) <+: zbr s:=⟨zeS s f a op,by rw [h1];simp⟩;refine DrawE.ord [4] [0,1,2,3,4,5] (by kernel_rfl) ?_;refine⟨_,rfl,zaa (hdr ft),hlt (hdr ft),?_⟩;refine⟨_,rfl,zaa (hdr ft),hlt (hdr ft),?_⟩;refine cmo (zqw t g1 (by omega) X.drew) ?_;rintro e U ⟨rfl,hbU⟩;refine⟨hbU,?_⟩;have hXU:Bw X U:=(Below.refl _ X).drew.trans hbU;obtain⟨IU,qU⟩:=stepB pre X U hI hXU;have fU:=zab hXU ft;have hU:=hX.below hXU;have hftU:¬ Fp U tb:=fun h=>hft (qU _ h);refine YieldR.mono (hy pre t _ U IU.1 ⟨t,by simp,rfl⟩ hpre) ?_;rintro v V (⟨rfl,hJV,hKV⟩ | ⟨rfl,hJV⟩)
  ·refine And.intro (fun h=>by cases h) (fun _=>?_);have IU':=IU;obtain⟨_,iu2,iu3,iu4⟩:=IU';have hUs:=hKV.size;have hgF:¬ Fp U g:=fun h=>(hJ.lt _ _ _ IU.1 h).2 rfl;have hbV:V.heap[bx]?=_:=(hKV.same bx (hlt iu3) iu4).trans iu3;have hV:ScV V g s a op:=(hKV.same g (hlt hU) hgF).trans hU;have fV:=(hKV.same tb (hlt fU) hftU).trans fU;have nF:∀ k,k<U.heap.size->¬ Fp U k->¬ Fp V k:=fun k hk h1 h2=>by
    rcases hKV.fp k h2 with h3 | h3
    ·exact h1 h3
    ·omega
   have IV:Inv (pre++[t]) V:=⟨hJV,by omega,hbV,nF bx (hlt iu3) iu4⟩;refine⟨_,rfl,zaa fV,hlt fV,?_⟩;refine zal (X:=V) (v := .agg (tokE.enc t).toArray) k335 rfl rfl rfl fun R hbR fR sR=>?_;have fR:R.heap[V.heap.size]?=some (.cells (tokE.enc t).toArray 335 (0,0)):=fR;obtain⟨IR,qR⟩:=stepB (pre++[t]) V R IV hbR;have hnR:¬ Fp R V.heap.size:=fun h=>by have:=(hJ.lt _ _ _ IV.1 (qR _ h)).1;omega
   refine⟨_,zac (zaa IR.2.2.1) (i:=0) rfl,?_⟩;refine cmo (zpi (hV.below hbR) ha hs) ?_;rintro e L ⟨t',a',op',ok',rfl,hok',hno',ha',hL,gL⟩;obtain⟨IL,qL⟩:=stepG (pre++[t]) R L IR gL;have hVs:W.heap.size<=V.heap.size:=IV.2.1;have hgV:g≠V.heap.size:=by omega
   have hbV2:bx≠V.heap.size:=by omega
   have fL:L.heap[V.heap.size]?=some (.cells (tokE.enc t).toArray 335 (0,0)):=(gL.block _ (hlt fR) (fun e=>hgV (by simpa using e.symm))).trans fR;refine zas (v := .agg (tokE.enc t').toArray) k335 fL rfl rfl rfl ?_;obtain⟨f',rfl⟩:∃ f',f=f'+1:=⟨f-1,by omega⟩;have hnL:¬ Fp L V.heap.size:=fun h=>hnR (qL _ h);have hst:StepO W.heap.size (fun k=>k=g) Fp L (L.setRow V.heap.size (Value.agg (tokE.enc t').toArray).cells):=⟨rfl,rfl,rfl,by simp,fun k hk hf=>zap (fun e=>by
    subst e;rcases hf with hf | hf
    ·omega
    ·exact hnL hf)⟩
   obtain⟨j1,j2⟩:=hJ.step _ _ _ IL.1 hst;refine⟨(pre++[t],f',a',op',ok',t',V.heap.size),(cvE rfl rfl),⟨⟨j1,by simp;exact IL.2.1,(zap hbV2).trans IL.2.2.1,fun h=>IL.2.2.2 (j2 _ h)⟩,?_,?_,?_,ha',(zap hgV).trans hL,zan fL,hVs,fun h=>hnL (j2 _ h),?_⟩,by show f'<f'+1;omega⟩
   ·intro h3;rw [h1];show pre++t::zeS s (f'+1) a op=(pre++[t])++_;rw [zh2 (hok' h3)];simp
   ·intro h3;rw [h1];show pre++t::zeS s (f'+1) a op=pre++[t];rw [zh1 (hno' h3)]
   ·intro h3;have:=(zeB (hok' h3) ha).2.1;dsimp only;omega
   ·intro h3;exact (zeB (hok' h3) ha).2.2
  ·refine And.intro (fun _=>?_) (fun h=>by cases h);exact And.intro ⟨_,rfl⟩ (.inr ⟨_,hpre,hJV⟩)
 ·have hok:ok=false:=hok;subst hok;have h2:=h2 rfl;exact⟨⟨_,rfl⟩,.inl (by rw [h2];exact hI.1)⟩
def zf9 (s:List UInt8):Bool:=decide (s.length<=16384)&&(zbr s).all (fun t=>decide (zbG t=0))
theorem zjW {s:List UInt8}:∀ {f a:Nat} {op:Bool},(zeS s f a op).length<=f
 | 0,_,_=>Nat.le_refl _
 | f+1,a,op=>by
  unfold zeS
  split
  ·exact Nat.succ_le_succ zjW
  ·exact Nat.zero_le _
def FpX (L:Nat) (X:World) (k:Nat):Prop:=k=L\/k=L+1\/k=L+2\/∃ a n cap,X.heap[L]?=some (.cells #[.slice (some a) n cap] 330 (0,0))/\k=a.block
structure ResX (L:Nat) (X:World) (v:Value) (pl er:Int):Prop where
 l:X.heap[L]?=some (.cells #[v] 330 (0,0))
 p:X.heap[L+1]?=some (.cells #[i64 pl] 3 (0,0))
 e:X.heap[L+2]?=some (.cells #[i64 er] 27 (0,0))
def JX (w:World) (L B:Nat) (pre:List Tok) (X:World):Prop:=Bw w X/\(∀ t∈pre,zbG t=0)/\∃ p cap,ResX L X (.slice p pre.length cap) 0 0/\OwnS tokE 335 B X p cap pre
def JxX (w:World) (L:Nat) (pre:List Tok) (X:World):Prop:=Bw w X/\(∃ t∈pre,zbG t≠0)/\∃ pl er,ResX L X (.slice none 0 0) pl er/\er≠0
theorem FpX.row {L:Nat} {X:World} {p:Option Addr} {n cap:Nat} {pl er:Int} (h:ResX L X (.slice p n cap) pl er) {k:Nat} (hf:FpX L X k):k=L\/k=L+1\/k=L+2\/∃ a,p=some a/\k=a.block:=by
 rcases hf with hf | hf | hf | ⟨a,n',cap',h1,h2⟩
 ·exact .inl hf
 ·exact .inr (.inl hf)
 ·exact .inr (.inr (.inl hf))
 ·have:=h.l;rw [h1] at this;simp at this;exact .inr (.inr (.inr ⟨a,this.1.symm,h2⟩))
theorem ResX.same {L:Nat} {A B:World} {v:Value} {pl er:Int} (h:ResX L A v pl er) (hs:∀ k,k=L\/k=L+1\/k=L+2->B.heap[k]?=A.heap[k]?):ResX L B v pl er :=
 ⟨(hs L (.inl rfl)).trans h.l,(hs _ (.inr (.inl rfl))).trans h.p,(hs _ (.inr (.inr rfl))).trans h.e⟩
theorem JX.iter {w:World} {L B n0 g:Nat} (hw:w.heap.size<=L) (hL:L+2<g) (hg:g<n0) (hB:B=n0):IterJO n0 (fun k=>k=g) (FpX L) (JX w L B):=by
 subst hB;refine⟨fun pre A C ⟨hb,hf,p,cap,hr,ho⟩ hs=>?_,fun pre A k ⟨hb,hf,p,cap,hr,ho⟩ hk=>?_⟩
 ·have hr':ResX L C (.slice p pre.length cap) 0 0:=hr.same fun k hk=>hs.same k (by rcases hk with rfl | rfl | rfl;exact hlt hr.l;exact hlt hr.p;exact hlt hr.e) (.inl ⟨by omega,by omega⟩);have hrow:∀ a,p=some a->C.heap[a.block]?=A.heap[a.block]?:=fun a ha=>by
   rcases ho.inv with ⟨rfl,_⟩ | ⟨g',cur,rfl,_,hg',_⟩
   ·cases ha
   ·cases ha
    exact hs.same _ (hlt hg') (.inr (.inr (.inr (.inr ⟨_,_,_,hr.l,rfl⟩))))
  refine⟨⟨⟨hs.os.trans hb.os,hs.tape.trans hb.tape,hs.output.trans hb.output,Nat.le_trans hb.size hs.size,fun k hk=>(hs.same k (nL hk hb.size) (.inl ⟨by omega,by omega⟩)).trans (hb.block k hk)⟩,hf,p,cap,hr',ho.same hrow⟩,fun k hk=>?_⟩;rcases FpX.row hr' hk with rfl | rfl | rfl | ⟨a,rfl,rfl⟩
  ·exact .inl rfl
  ·exact .inr (.inl rfl)
  ·exact .inr (.inr (.inl rfl))
  ·exact .inr (.inr (.inr ⟨_,_,_,hr.l,rfl⟩))
 ·rcases FpX.row hr hk with rfl | rfl | rfl | ⟨a,rfl,rfl⟩
  ·exact⟨hlt hr.l,by omega⟩
  ·exact⟨hlt hr.p,by omega⟩
  ·exact⟨hlt hr.e,by omega⟩
  ·rcases ho.inv with ⟨h,_⟩ | ⟨g',cur,h,hB,hg',_⟩
   ·cases h
   ·cases h
    exact⟨hlt hg',by show ¬ g'=g;omega⟩
theorem JxX.iter {w:World} {L n0 g:Nat} (hw:w.heap.size<=L) (hL:L+2<g) (hg:g<n0):IterJO n0 (fun k=>k=g) (FpX L) (JxX w L):=by
 refine⟨fun pre A C ⟨hb,hf,pl,er,hr,he⟩ hs=>?_,fun pre A k ⟨hb,hf,pl,er,hr,he⟩ hk=>?_⟩
 ·have hr':ResX L C (.slice none 0 0) pl er:=hr.same fun k hk=>hs.same k (by rcases hk with rfl | rfl | rfl;exact hlt hr.l;exact hlt hr.p;exact hlt hr.e) (.inl ⟨by omega,by omega⟩);refine⟨⟨⟨hs.os.trans hb.os,hs.tape.trans hb.tape,hs.output.trans hb.output,Nat.le_trans hb.size hs.size,fun k hk=>(hs.same k (nL hk hb.size) (.inl ⟨by omega,by omega⟩)).trans (hb.block k hk)⟩,hf,pl,er,hr',he⟩,fun k hk=>?_⟩;rcases FpX.row hr' hk with rfl | rfl | rfl | ⟨a,h,_⟩
  ·exact .inl rfl
  ·exact .inr (.inl rfl)
  ·exact .inr (.inr (.inl rfl))
  ·cases h
 ·rcases FpX.row hr hk with rfl | rfl | rfl | ⟨a,h,_⟩
  ·exact⟨hlt hr.l,by omega⟩
  ·exact⟨hlt hr.p,by omega⟩
  ·exact⟨hlt hr.e,by omega⟩
  ·cases h
abbrev nl0:Value := .slice none 0 0
theorem ztM (s:List UInt8) (hs:s.length<=140737488351232) (w:World) :
  Calls Tryz.prog 258 #[strV s] w fun e w'=>∃ p cap n pl er,e = .returned (.tuple #[.slice p n cap,i64 pl,i64 er])/\(zf9 s=true->er=0/\n=(zbr s).length/\SlR tokE w' p (zbr s))/\(zf9 s=false->er≠0)/\Bw w w':=by
 refine cofM 27 [strV s] (.c .p (.c .p .p)) Tryz.func258 ?_;obtain⟨L,hL⟩:=nm (w.heap.size);have z1:(w.alloc (.cells #[nl0] 330)).heap.size=L+1:=by rw [wz,hL]
 have z2:((w.alloc (.cells #[nl0] 330)).alloc (.cells #[i64 0] 3)).heap.size=L+2:=by rw [wz,z1]
 obtain⟨W0,hW0⟩:=nm (((w.alloc (.cells #[nl0] 330)).alloc (.cells #[i64 0] 3)).alloc (.cells #[i64 0] 27));have hb0:Bw w W0:=by rw [hW0];exact (((zba _ _)).alloc (by simp) _).alloc (by rw [z2];omega) _
 have hs0:W0.heap.size=L+3:=by rw [hW0,wz,z2]
 have r0:ResX L W0 nl0 0 0:=by
  rw [hW0];refine⟨?_,?_,?_⟩
  ·rw [hL];exact hold _ (hold _ (hnew w _))
  ·rw [<- z1];exact hold _ (hnew _ _)
  ·rw [<- z2];exact hnew _ _
 have p1:some (Value.pointer (some ⟨(w.alloc (.cells #[nl0] 330)).heap.size,0,none⟩))=some (At0 (L+1)):=by rw [z1]
 have p2:some (Value.pointer (some ⟨((w.alloc (.cells #[nl0] 330)).alloc (.cells #[i64 0] 3)).heap.size,0,none⟩))=some (At0 (L+2)):=by rw [z2]
 have put3:∀ (X:World) (v0:Value) (a0 b0:Int),ResX L X v0 a0 b0->∀ (pl er:Int) (K:World->Prop),(∀ Y,ResX L Y (.slice none 0 0) pl er->Below w.heap.size X Y->X.heap.size=Y.heap.size->(∀ k,k≠L->k≠L+1->k≠L+2->Y.heap[k]?=X.heap[k]?)->K Y) ->
   SatR ((storeVar 330 ⟨L,0,none⟩ (.slice none 0 0)).run Tryz.prog X) fun _ Y1=>SatR ((storeVar 3 ⟨L+1,0,none⟩ (i64 pl)).run Tryz.prog Y1) fun _ Y2=>SatR ((storeVar 27 ⟨L+2,0,none⟩ (i64 er)).run Tryz.prog Y2) fun _ Y3=>K Y3:=by
  intro X v0 a0 b0 hr pl er K k;refine zas (v := .slice none 0 0) k330 hr.l rfl rfl rfl ?_;have q1:(X.setRow L (Value.slice none 0 0).cells).heap[L+1]?=some (.cells #[i64 a0] 3 (0,0)):=(zap (by omega)).trans hr.p;refine zas (v:=i64 pl) k3 q1 rfl rfl rfl ?_;have q2:((X.setRow L (Value.slice none 0 0).cells).setRow (L+1) (i64 pl).cells).heap[L+2]?=some (.cells #[i64 b0] 27 (0,0)):=(zap (by omega)).trans ((zap (by omega)).trans hr.e);refine zas (v:=i64 er) k27 q2 rfl rfl rfl ?_;refine k _ ⟨?_,?_,zan q2⟩ ?_ (by simp) ?_
  ·exact (zap (by omega)).trans ((zap (by omega)).trans (zan hr.l))
  ·exact (zap (by omega)).trans (zan q1)
  ·exact zaj (zaj (zaj (Below.refl _ X) (by omega) _) (by omega) _) (by omega) _
  ·intro k h1 h2 h3;exact (zap h3).trans ((zap h2).trans (zap h1))
 refine⟨Unit,fun _=>⟨[(0,strV s),(2,At0 L),(3,At0 (L+1)),(4,At0 (L+2))],[]⟩,fun _ X=>W0=X,?_,?_⟩
 ·exact⟨(),⟨.cons rfl (.cons (by rw [hL];rfl) (.cons p1 (.cons p2 .nil))),rfl⟩,hW0⟩
 clear hW0 p1 p2 z1 z2;rintro _ _ rfl;refine⟨Unit,fun _=>⟨[(0,strV s),(2,At0 L),(3,At0 (L+1)),(4,At0 (L+2))],[]⟩,fun _ X=>s.length<=16384/\W0=X,?_,?_⟩
 ·refine biE (fun h=>?_) fun h=>?_
  ·have h:(16384:Int)<(s.length:Int):=dT h;have hno:zf9 s=false:=by unfold zf9;rw [decide_eq_false (by omega)];rfl
   refine put3 W0 _ _ _ r0 0 3 _ fun Y hY hb hsz _=>?_;refine⟨_,zac (zaa hY.l) (i:=0) rfl,?_⟩;refine⟨_,zac (zaa hY.p) (i:=0) rfl,?_⟩;refine⟨_,zac (zaa hY.e) (i:=0) rfl,?_⟩;exact⟨none,0,0,0,3,rfl,fun h=>(by rw [hno] at h;cases h),fun _=>by decide,hb0.trans hb⟩
  ·have h:¬ (16384:Int)<(s.length:Int):=dF h;exact⟨(),(cvE rfl rfl),by omega,rfl⟩
 rintro _ _ ⟨hln,rfl⟩;refine⟨[strV s,i64 0],rfl,?_⟩;refine⟨[strV s,i64 0,.bool false],rfl,?_⟩;refine zal (X:=W0) (v := .agg #[strV s,i64 0,.bool false]) k357 rfl rfl rfl fun V hbV fV sV=>?_;have hV:ScV V W0.heap.size s 0 false:=fV;refine cmo zn1 ?_;rintro e W1 ⟨rfl,hW1⟩;have sW1:W1.heap.size=W0.heap.size+2:=by rw [hW1,wz,sV]
 have hb1:Bw V W1:=by rw [hW1];exact (zba _ _)
 have hbx:W1.heap[W0.heap.size+1]?=some (.cells #[.pointer (some ⟨W0.heap.size,0,none⟩)] 377 (0,0)):=by
  rw [hW1,<- sV];exact hnew V _
 have hg1:ScV W1 W0.heap.size s 0 false:=hV.below hb1;have hb01:Bw W0 W1:=zst hbV hb1;have hbw1:Bw w W1:=zst hb0 hb01;have r1:ResX L W1 nl0 0 0:=r0.same fun k hk=>hb01.block k (by omega);have hlen:(zbr s).length<=40000:=Nat.le_trans zjW (by omega);have hok1:(∀ t∈zbr s,zbG t=0)->zf9 s=true:=fun h=>by
  unfold zf9;rw [decide_eq_true hln,Bool.true_and,List.all_eq_true];exact fun t ht=>decide_eq_true (h t ht)
 have hok2:(∃ t∈zbr s,zbG t≠0)->zf9 s=false:=fun ⟨t,ht,hf⟩=>by
  unfold zf9;rw [decide_eq_true hln,Bool.true_and,List.all_eq_false];exact⟨t,ht,by simpa using hf⟩
 rw [sV];refine zrD (sgOk _) rfl (lb := #[.pointer (some ⟨W0.heap.size+1,0,none⟩)]) rfl rfl (zlP hg1 hbx (by omega) hs) (Nat.le_refl _) (fun k hk=>⟨by rcases hk with rfl | rfl <;> omega,rfl⟩) (fun pre vs W ⟨t,_,h⟩=>by rw [h];rfl) (by decide)
  (FpX L) (JX w L W1.heap.size) (fun ex pre X=>ex = .ret/\JxX w L pre X) ?_ (JX.iter (by omega) (by omega) (by omega) rfl) (fun ex=>?_) ?_ ?_ ?_ ?_
 ·intro k hk hf;rcases FpX.row r1 hf with h | h | h | ⟨a,h,_⟩
  ·omega
  ·omega
  ·omega
  ·cases h
 ·have hJ:=JxX.iter (w:=w) (L:=L) (n0:=W1.heap.size) (g:=W0.heap.size) (by omega) (by omega) (by omega);exact⟨fun pre A C ⟨h1,h2⟩ hs=>⟨⟨h1,(hJ.step _ _ _ h2 hs).1⟩,(hJ.step _ _ _ h2 hs).2⟩,fun pre A k ⟨_,h2⟩ hf=>hJ.lt _ _ _ h2 hf⟩
 ·exact⟨hbw1,fun t ht=>(by cases ht),none,0,r1,.nil⟩
 ·intro yl pre x vs W hyl hpre hJ hst hfy hly;obtain⟨t,ht,rfl⟩:=hst;have ht:t=x:=by simpa using ht.symm
  subst ht;have hIt:=JX.iter (w:=w) (L:=L) (B:=W1.heap.size) (n0:=W1.heap.size) (g:=W0.heap.size) (by omega) (by omega) (by omega) rfl;refine zal (X:=W) (v := .agg (tokE.enc t).toArray) k335 rfl rfl rfl fun R hbR fR sR=>?_;have fR:R.heap[W.heap.size]?=some (.cells (tokE.enc t).toArray 335 (0,0)):=fR;obtain⟨jR,qR⟩:=hIt.step pre W R hJ (Step.of_below hbR).o;refine⟨rfl,Keeps.of_below hbR (fun k hk => .inl (qR k hk)),jR,?_⟩;rintro o W2 hW2 ⟨hbW,hfl,p,cap,hr,ho⟩ hF2;have f2:W2.heap[W.heap.size]?=some (.cells (tokE.enc t).toArray 335 (0,0)):=by rw [hW2,zah (by omega)];exact fR
  have s2:W2.heap.size=R.heap.size:=by rw [hW2];simp [World.putObj]
  have hLW:W1.heap.size<=W.heap.size:=by
   have:=hlt hr.l;obtain⟨hbW',_⟩:=hJ;omega
  refine biE (fun h=>?_) fun h=>?_
  ·have h:zbG t≠0:=by
    have h1:(!decide (zbG t=0))=true:=h;simpa using h1
   have hrd:ResX L W2.drew (.slice p pre.length cap) 0 0:=⟨hr.l,hr.p,hr.e⟩;have hd:W2.drew.heap.size=W2.heap.size:=rfl;have fin:∀ Y,ResX L Y (.slice none 0 0) t.pos (zbG t)->Below w.heap.size W2.drew Y->W2.drew.heap.size=Y.heap.size->(∀ k,k≠L->k≠L+1->k≠L+2->Y.heap[k]?=W2.drew.heap[k]?)->(Exit.ret=Exit.ret/\JxX w L (pre++[t]) Y)/\Keeps (FpX L) W2 Y:=fun Y hY hbY hsY hoY=>by
    have hbY2:Bw w Y:=hbW.trans ((Below.refl w.heap.size W2).drew.trans hbY);refine⟨⟨rfl,hbY2,⟨t,by simp,h⟩,_,_,hY,h⟩,?_⟩;refine⟨hbY.os,hbY.tape,hbY.output,by rw [<- hsY,hd];exact Nat.le_refl _,fun k hk hf=>hoY k (fun e=>hf (.inl e)) (fun e=>hf (.inr (.inl e))) (fun e=>hf (.inr (.inr (.inl e)))),fun k hk=>?_⟩;rcases FpX.row hY hk with h1 | h1 | h1 | ⟨a,h1,_⟩
    ·exact .inl (.inl h1)
    ·exact .inl (.inr (.inl h1))
    ·exact .inl (.inr (.inr (.inl h1)))
    ·cases h1
   refine DrawE.treeQ [3,4,5] (.op 0 (.op 2 (.alt (.op 3 (.op 1 (.op 4 (.op 5 .nil)))) (.op 1 (.op 3 (.op 4 (.op 5 .nil))))))) (by kernel_rfl) ?_;refine And.intro ?_ ?_
   ·refine zas (v := .slice none 0 0) k330 hrd.l rfl rfl rfl ?_;have q0:(W2.drew.setRow L (Value.slice none 0 0).cells).heap[W.heap.size]?=some (.cells (tokE.enc t).toArray 335 (0,0)):=(zap (by omega)).trans (hdr f2);refine⟨_,zac (zaa q0) (i:=2) rfl,?_⟩;have q1:(W2.drew.setRow L (Value.slice none 0 0).cells).heap[L+1]?=some (.cells #[i64 0] 3 (0,0)):=(zap (by omega)).trans hrd.p;refine zas (v:=i64 t.pos) k3 q1 rfl rfl rfl ?_;have q2:((W2.drew.setRow L (Value.slice none 0 0).cells).setRow (L+1) (i64 t.pos).cells).heap[L+2]?=some (.cells #[i64 0] 27 (0,0)):=(zap (by omega)).trans ((zap (by omega)).trans hrd.e);refine zas (v:=i64 (zbG t)) k27 q2 rfl rfl rfl ?_;refine fin _ ⟨?_,?_,zan q2⟩ ?_ (by simp) ?_
    ·exact (zap (by omega)).trans ((zap (by omega)).trans (zan hrd.l))
    ·exact (zap (by omega)).trans (zan q1)
    ·exact zaj (zaj (zaj (Below.refl _ W2.drew) (by omega) _) (by omega) _) (by omega) _
    ·intro k h1 h2 h3;exact (zap h3).trans ((zap h2).trans (zap h1))
   ·refine⟨_,zac (zaa (hdr f2)) (i:=2) rfl,?_⟩;exact put3 W2.drew _ _ _ hrd t.pos (zbG t) _ fin
  ·have h:zbG t=0:=by
    have h1:(!decide (zbG t=0))=false:=h;simpa using h1
   refine⟨_,zac (zaa hr.l) (i:=0) rfl,?_⟩;refine⟨_,rfl,zaa f2,hlt f2,?_⟩;refine⟨⟨by decide,by decide,rfl⟩,tokE.enc t,zcV (tokE.len t) rfl,?_⟩;have hpl:pre.length+1<=40000:=by
    have:=hpre.length_le;simp at this;omega
   refine zbA (E:=tokE) (news:=[t]) (B:=W1.heap.size) Tryz.underlying330 k335 rfl rfl rfl (ho.alloc _) rfl (zbi tokE t) (by simp;omega) (by show pre.length+1<=_;omega) (by show (pre.length+1)*32<=_;omega) ?_;intro p3 cap3 W4 ho4 hg4 hb4 hat;have hL2:L<W2.heap.size:=hlt hr.l;have hr3:ResX L (W2.alloc (.cells (tokE.enc t).toArray 335)) (.slice p pre.length cap) 0 0:=⟨hold _ hr.l,hold _ hr.p,hold _ hr.e⟩;have hr4:ResX L W4 (.slice p pre.length cap) 0 0:=hr3.same fun k hk=>hb4.block k (by omega);refine zas (v := .slice p3 (pre++[t]).length cap3) k330 hr4.l rfl rfl rfl ?_;have hr5:ResX L (W4.setRow L (Value.slice p3 (pre++[t]).length cap3).cells) (.slice p3 (pre++[t]).length cap3) 0 0:=⟨zan hr4.l,(zap (by omega)).trans hr4.p,(zap (by omega)).trans hr4.e⟩;have hbB:Below w.heap.size W2 (W4.setRow L (Value.slice p3 (pre++[t]).length cap3).cells) :=
    zaj (((Below.refl _ W2).alloc (by omega) _).trans (hb4.mono (by omega))) (by omega) _
   refine And.intro ⟨hbW.trans hbB,fun u hu=>?_,p3,cap3,hr5,ho4.same fun a ha=>?_⟩ ⟨hbB.os,hbB.tape,hbB.output,hbB.size,fun k hk hf=>?_,fun k hk=>?_⟩
   ·rcases List.mem_append.1 hu with hu | hu
    ·exact hfl u hu
    ·simp only [List.mem_singleton] at hu;rw [hu];exact h
   ·refine zap ?_;rcases ho4.inv with ⟨h1,_⟩ | ⟨g',_,h1,h2,_⟩
    ·rw [h1] at ha;cases ha
    ·rw [h1] at ha;cases ha;dsimp only;omega
   ·have h1:k≠L:=fun e=>hf (.inl e);rw [zap h1];refine (hg4.block k (by simp;omega) ?_).trans ?_
    ·intro e
     cases p with
     | none=>simp [Value.ownBlock] at e
     | some a =>
      simp only [Value.ownBlock,Option.some.injEq] at e;exact hf (.inr (.inr (.inr ⟨a,_,_,hr.l,e⟩)))
    ·show (W2.heap.push _)[k]?=_;rw [Array.getElem?_push,if_neg (Nat.ne_of_lt hk)]
   ·rcases FpX.row hr5 hk with h1 | h1 | h1 | ⟨a,ha,rfl⟩
    ·exact .inl (.inl h1)
    ·exact .inl (.inr (.inl h1))
    ·exact .inl (.inr (.inr (.inl h1)))
    ·rcases hat a ha with h1 | h1
     ·exact .inl (.inr (.inr (.inr ⟨a,_,_,h1▸hr.l,rfl⟩)))
     ·refine .inr ?_;rw [h1];simp
 ·intro D W hD hfD hJ hdef;obtain⟨hbW,hfl,p,cap,hr,ho⟩:=hJ;refine⟨_,zac (zaa hr.l) (i:=0) rfl,?_⟩;refine zas (v := .slice p (zbr s).length cap) k330 hr.l rfl rfl rfl ?_;have q1:(W.setRow L (Value.slice p (zbr s).length cap).cells).heap[L+1]?=some (.cells #[i64 0] 3 (0,0)):=(zap (by omega)).trans hr.p;refine zas (v:=i64 0) k3 q1 rfl rfl rfl ?_;have q2:((W.setRow L (Value.slice p (zbr s).length cap).cells).setRow (L+1) (i64 0).cells).heap[L+2]?=some (.cells #[i64 0] 27 (0,0)):=(zap (by omega)).trans ((zap (by omega)).trans hr.e);refine zas (v:=i64 0) k27 q2 rfl rfl rfl ?_;obtain⟨S,hS⟩:=nm (((W.setRow L (Value.slice p (zbr s).length cap).cells).setRow (L+1) (i64 0).cells).setRow (L+2) (i64 0).cells);have rS:ResX L S (.slice p (zbr s).length cap) 0 0:=by
   rw [hS];exact⟨(zap (by omega)).trans ((zap (by omega)).trans (zan hr.l)),(zap (by omega)).trans (zan q1),zan q2⟩
  have bS:Below w.heap.size W S:=by rw [hS];exact zaj (zaj (zaj (Below.refl _ W) (by omega) _) (by omega) _) (by omega) _
  have oS:∀ k,k≠L->k≠L+1->k≠L+2->S.heap[k]?=W.heap[k]?:=fun k h1 h2 h3=>by rw [hS];exact (zap h3).trans ((zap h2).trans (zap h1))
  have dS:S.heap[D]?=some (.deferred (some [])):=(oS D (by omega) (by omega) (by omega)).trans hdef;rw [<- hS];refine⟨_,rfl,dS,?_⟩;have rP:ResX L (S.putObj D (.deferred none)) (.slice p (zbr s).length cap) 0 0:=rS.same fun k hk=>zah (by omega);refine⟨_,zac (zaa rP.l) (i:=0) rfl,?_⟩;refine⟨_,zac (zaa rP.p) (i:=0) rfl,?_⟩;refine⟨_,zac (zaa rP.e) (i:=0) rfl,?_⟩;refine⟨p,cap,(zbr s).length,0,0,rfl,fun _=>⟨rfl,rfl,?_⟩,fun h=>?_,zbl (hbW.trans bS) (by omega) _⟩
  ·exact (ho.same fun a ha=>by
    have hne:a.block≠L/\a.block≠L+1/\a.block≠L+2/\a.block≠D:=by
     rcases ho.inv with ⟨h1,_⟩ | ⟨g',_,h1,h2,h3,_⟩
     ·rw [h1] at ha;cases ha
     ·rw [h1] at ha;cases ha;refine⟨by dsimp only;omega,by dsimp only;omega,by dsimp only;omega,fun e=>?_⟩;have e:g'=D:=e;rw [e,hdef] at h3;cases h3
    exact (zah hne.2.2.2).trans (oS _ hne.1 hne.2.1 hne.2.2.1)).row
  ·rw [hok1 hfl] at h;cases h
 ·rintro D ex pre W hD hfD hpre ⟨rfl,hbW,⟨t,ht,hft⟩,pl,er,hr,her⟩ hdef;refine⟨_,rfl,hdef,?_⟩;have rP:ResX L (W.putObj D (.deferred none)) (.slice none 0 0) pl er:=hr.same fun k hk=>zah (by omega);refine⟨_,zac (zaa rP.l) (i:=0) rfl,?_⟩;refine⟨_,zac (zaa rP.p) (i:=0) rfl,?_⟩;refine⟨_,zac (zaa rP.e) (i:=0) rfl,?_⟩;refine⟨none,0,0,pl,er,rfl,fun h=>?_,fun _=>her,zbl hbW (by omega) _⟩;rw [hok2 ⟨t,hpre.subset ht,hft⟩] at h;cases h
theorem zoI (s:List UInt8) (hs:s.length<=140737488351232) (w:World):CB 218 #[strV s] w (.bool (ze3 s)):=by
 refine cofE 34 [strV s] Tryz.func218 ?_;have hdef:ze3 s=(zf9 s&&twoB (zbr s) s):=by
  unfold ze3 zf9;rw [Bool.and_assoc]
 refine cmo (ztM s hs w) ?_;rintro e V ⟨p,cap,n,pl,er,rfl,h1,h2,hb⟩
 cases hk:zf9 s with
 | false =>
  have her:=h2 hk;rw [hdef,hk,Bool.false_and];refine brN (by exact decide_eq_false her) ?_;refine brF ?_;refine brF ?_;exact⟨rfl,hb⟩
 | true =>
  obtain⟨rfl,rfl,hr⟩:=h1 hk;rw [hdef,hk,Bool.true_and];refine brT ?_;refine biE (fun h=>?_) fun h=>?_
  ·have h:(zbr s).length=2:=by have h:((zbr s).length:Int)=2:=dT h;omega
   match hx:zbr s,h with
   | [t,u],_ =>
    rw [hx] at hr;obtain⟨b,o,rfl,hbb,hc⟩:=hr.at (i:=0) (by simp);have hc:=hc 0 (by simp);refine⟨0,rfl,(by show 0<2;omega),?_⟩;refine⟨_,zac hc (i:=0) rfl,?_⟩;have kd:decide ((t.kind.toNat:Int)=1)=decide (t.kind=1):=(by rw [decide_eq_decide];exact zbM (y:=1));refine biE (fun h=>?_) fun h=>?_
    ·have h:decide (t.kind=1)=true:=kd.symm.trans h;refine⟨0,rfl,(by show 0<2;omega),?_⟩;refine⟨_,zac hc (i:=1) rfl,?_⟩;refine⟨_,fun w=>zay _ _ t.text s w,?_⟩;exact⟨rb (by unfold twoB;simp only [h,Bool.true_and]),hb⟩
    ·have h:decide (t.kind=1)=false:=kd.symm.trans h;exact⟨rb (by unfold twoB;simp only [h,Bool.false_and]),hb⟩
  ·have h:¬ (zbr s).length=2:=by have h:¬ ((zbr s).length:Int)=2:=dF h;omega
   refine brF ?_;refine⟨rb ?_,hb⟩;have gen:∀ l:List Tok,¬ l.length=2->false=twoB l s:=fun l hl=>by
    match l,hl with
    | [],_=>rfl
    | [_],_=>rfl
    | [_,_],hl=>exact absurd rfl hl
    | _::_::_::_,_=>rfl
   exact gen _ h
theorem zsI (s:List UInt8) (w:World):Calls Tryz.prog 275 #[strV s] w fun e w'=>e = .returned (.bool (zjp s))/\w=w':=by
 refine cofE 22 [strV s] Tryz.func275 ?_;refine⟨_,fun w=>zay _ _ s [116,101,115,116] w,?_⟩;refine biE (fun h=>?_) fun h0=>?_
 ·refine brE h ?_;exact⟨rb (List.any_eq_true.2 ⟨[116,101,115,116],by decide,h⟩).symm,rfl⟩
 refine⟨_,fun w=>zay _ _ s [105,110,105,116] w,?_⟩;refine biE (fun h=>?_) fun h1=>?_
 ·refine brE h ?_;exact⟨rb (List.any_eq_true.2 ⟨[105,110,105,116],by decide,h⟩).symm,rfl⟩
 refine⟨_,fun w=>zay _ _ s [116,104,114,101,97,100] w,?_⟩;refine biE (fun h=>?_) fun h2=>?_
 ·refine brE h ?_;exact⟨rb (List.any_eq_true.2 ⟨[116,104,114,101,97,100],by decide,h⟩).symm,rfl⟩
 refine⟨_,fun w=>zay _ _ s [115,111,109,101] w,?_⟩;refine biE (fun h=>?_) fun h3=>?_
 ·refine brE h ?_;exact⟨rb (List.any_eq_true.2 ⟨[115,111,109,101],by decide,h⟩).symm,rfl⟩
 refine⟨_,fun w=>zay _ _ s [110,111,110,101] w,?_⟩;refine biE (fun h=>?_) fun h4=>?_
 ·refine brE h ?_;exact⟨rb (List.any_eq_true.2 ⟨[110,111,110,101],by decide,h⟩).symm,rfl⟩
 refine⟨_,fun w=>zay _ _ s [97,108,108] w,?_⟩;refine biE (fun h=>?_) fun h5=>?_
 ·refine brE h ?_;exact⟨rb (List.any_eq_true.2 ⟨[97,108,108],by decide,h⟩).symm,rfl⟩
 refine⟨_,fun w=>zay _ _ s [97,99,113] w,?_⟩;refine biE (fun h=>?_) fun h6=>?_
 ·refine brE h ?_;exact⟨rb (List.any_eq_true.2 ⟨[97,99,113],by decide,h⟩).symm,rfl⟩
 refine⟨_,fun w=>zay _ _ s [114,101,108] w,?_⟩;refine biE (fun h=>?_) fun h7=>?_
 ·refine brE h ?_;exact⟨rb (List.any_eq_true.2 ⟨[114,101,108],by decide,h⟩).symm,rfl⟩
 refine⟨_,fun w=>zay _ _ s [115,119,97,112] w,?_⟩;refine biE (fun h=>?_) fun h8=>?_
 ·refine brE h ?_;exact⟨rb (List.any_eq_true.2 ⟨[115,119,97,112],by decide,h⟩).symm,rfl⟩
 refine⟨_,fun w=>zay _ _ s [102,101,116,99,104] w,?_⟩;refine biE (fun h=>?_) fun h9=>?_
 ·refine brE h ?_;exact⟨rb (List.any_eq_true.2 ⟨[102,101,116,99,104],by decide,h⟩).symm,rfl⟩
 refine⟨_,fun w=>zay _ _ s [99,97,115] w,?_⟩;refine biE (fun h=>?_) fun h10=>?_
 ·refine brE h ?_;exact⟨rb (List.any_eq_true.2 ⟨[99,97,115],by decide,h⟩).symm,rfl⟩
 refine⟨_,fun w=>zay _ _ s [102,101,110,99,101] w,?_⟩;refine biE (fun h=>?_) fun h11=>?_
 ·refine brE h ?_;exact⟨rb (List.any_eq_true.2 ⟨[102,101,110,99,101],by decide,h⟩).symm,rfl⟩
 refine⟨_,fun w=>zay _ _ s [108,111,97,100,115] w,?_⟩;refine biE (fun h=>?_) fun h12=>?_
 ·refine brE h ?_;exact⟨rb (List.any_eq_true.2 ⟨[108,111,97,100,115],by decide,h⟩).symm,rfl⟩
 refine⟨_,fun w=>zay _ _ s [115,116,111,114,101,115] w,?_⟩;refine biE (fun h=>?_) fun h13=>?_
 ·refine brE h ?_;exact⟨rb (List.any_eq_true.2 ⟨[115,116,111,114,101,115],by decide,h⟩).symm,rfl⟩
 refine⟨_,fun w=>zay _ _ s [115,107,105,112] w,?_⟩;refine biE (fun h=>?_) fun h14=>?_
 ·refine brE h ?_;exact⟨rb (List.any_eq_true.2 ⟨[115,107,105,112],by decide,h⟩).symm,rfl⟩
 refine⟨_,fun w=>zay _ _ s [105,102] w,?_⟩;refine biE (fun h=>?_) fun h15=>?_
 ·refine brE h ?_;exact⟨rb (List.any_eq_true.2 ⟨[105,102],by decide,h⟩).symm,rfl⟩
 refine⟨_,fun w=>zay _ _ s [116,114,117,101] w,?_⟩;refine biE (fun h=>?_) fun h16=>?_
 ·exact⟨rb (List.any_eq_true.2 ⟨[116,114,117,101],by decide,h⟩).symm,rfl⟩
 exact⟨rb (by unfold zjp zrZ;simp only [List.any_cons,List.any_nil,h0,h1,h2,h3,h4,h5,h6,h7,h8,h9,h10,h11,h12,h13,h14,h15,h16];rfl),rfl⟩
theorem zsE (s:List UInt8) (hs:s.length<=140737488351232) (w:World):Calls Tryz.prog 259 #[strV s] w fun e w'=>e = .returned (.bool (zhv s))/\w=w':=by
 refine cofM 55 [strV s] (.s .p (.c .p (.s .p (.c .p .p)))) Tryz.func259 ?_;refine⟨Unit,fun _=>⟨[(0,strV s)],[]⟩,fun _ X=>(∃ c r,s=c::r/\r.length+1<=16/\clsL c=3/\zjp s=false)/\w=X,?_,?_⟩
 ·refine biE (fun h=>?_) fun h=>?_
  ·have h:(s.length:Int)<1:=dT h;have h0:s=[]:=List.eq_nil_of_length_eq_zero (by omega);subst h0;refine brT ?_;refine brT ?_;refine brT ?_;exact⟨rfl,rfl⟩
  have h:¬ (s.length:Int)<1:=dF h;obtain⟨c,r,rfl⟩:∃ c r,s=c::r:=by
   cases s with
   | nil=>simp at h
   | cons c r=>exact⟨c,r,rfl⟩
  have hdef:zhv (c::r)=(decide (r.length+1<=16)&&(decide (clsL c=3)&&(!zjp (c::r)&&(r.all za0&&(!decide (c=114)||(decide (zbk r=0)||decide (zbk r<r.length))))))):=rfl;have hsz:(((bs (c::r)).size:Nat):Int)=(r.length+1:Nat):=rfl;refine biE (fun h2=>?_) fun h2=>?_
  ·have h2:(16:Int)<((r.length+1:Nat):Int):=dT h2;refine brT ?_;refine brT ?_;exact⟨rb (by rw [hdef,decide_eq_false (by omega)];rfl),rfl⟩
  have h2:¬ (16:Int)<((r.length+1:Nat):Int):=dF h2;refine⟨0,rfl,Nat.succ_pos _,c,rfl,?_⟩;refine cmo (zbN c _) ?_;rintro e _ ⟨rfl,rfl⟩;refine biE (fun h3=>?_) fun h3=>?_
  ·have h3:¬ clsL c=3:=by
    have h1:(!decide ((clsL c:Int)=3))=true:=h3;simp at h1;omega
   refine brT ?_;exact⟨rb (by rw [hdef,decide_eq_false h3];simp),rfl⟩
  have h3:clsL c=3:=by
   have h1:(!decide ((clsL c:Int)=3))=false:=h3;simp at h1;omega
  refine cmo (zsI (c::r) _) ?_;rintro e _ ⟨rfl,rfl⟩;refine biE (fun h4=>?_) fun h4=>?_
  ·have h4:zjp (c::r)=true:=h4;exact⟨rb (by rw [hdef,h4];simp),rfl⟩
  ·exact⟨(),(cvE rfl rfl),⟨c,r,rfl,by omega,h3,h4⟩,rfl⟩
 rintro _ _ ⟨⟨c,r,rfl,h1,h3,h4⟩,rfl⟩;have hdef:zhv (c::r)=(r.all za0&&(!decide (c=114)||(decide (zbk r=0)||decide (zbk r<r.length)))):=by
  show (decide (r.length+1<=16)&&(decide (clsL c=3)&&(!zjp (c::r)&&(r.all za0&&(!decide (c=114)||(decide (zbk r=0)||decide (zbk r<r.length)))))))=_;rw [decide_eq_true h1,decide_eq_true h3,h4];rfl
 rw [hdef];refine⟨Unit,fun _=>⟨[(0,strV (c::r)),(3,i64 (zbk r:Nat))],[]⟩,fun _ X=>r.all za0=true/\w=X,?_,?_⟩
 ·refine⟨Nat,fun k=>⟨[(0,strV (c::r)),(3,i64 (zbk (r.take k):Nat)),(4,i64 (k+1:Nat))],[]⟩,fun k X=>k<=r.length/\(∀ d∈r.take k,za0 d=true)/\zbk (r.take k)<=k/\w=X,fun k=>r.length-k,0,(cvE rfl rfl),⟨Nat.zero_le _,by simp,Nat.le_refl _,rfl⟩,?_⟩;rintro k _ ⟨hk,hw,hdk,rfl⟩;dsimp only at hk hw hdk ⊢;refine biE (fun hc=>?_) fun hc=>?_
  ·have hc:((k+1:Nat):Int)<((r.length+1:Nat):Int):=dT hc;have hl:k<r.length:=by omega
   have hat:(bs (c::r)).data.toList[k+1]?=some r[k]:=by
    show (c::r)[k+1]?=_;rw [List.getElem?_cons_succ,gE hl]
   refine⟨k+1,rfl,(by show k+1<r.length+1;omega),r[k],hat,?_⟩;refine cmo (zkr _ _) ?_;rintro e _ ⟨rfl,rfl⟩;refine biE (fun hi=>?_) fun hi=>?_
   ·have hi:(!za0 r[k])=true:=hi;have hi:za0 r[k]=false:=(by simpa using hi);have:r.all za0=false:=by
     rw [List.all_eq_false];exact⟨r[k],gM _,by rw [hi];simp⟩
    exact⟨rb (by rw [this];rfl),rfl⟩
   have hi:(!za0 r[k])=false:=hi;have hi:za0 r[k]=true:=by simpa using hi
   have hw':∀ d∈r.take (k+1),za0 d=true:=by
    rw [tsg hl];intro d hd;rcases List.mem_append.1 hd with hd | hd
    ·exact hw d hd
    ·simp only [List.mem_singleton] at hd;rw [hd];exact hi
   have hds:zbk (r.take (k+1))=zbk (r.take k)+(if digB r[k]=true then 1 else 0):=by
    unfold zbk;rw [tsg hl,List.filter_append,lap];congr 1;by_cases h:digB r[k]=true
    ·rw [if_pos h,List.filter_cons_of_pos h];rfl
    ·rw [if_neg h,List.filter_cons_of_neg h];rfl
   refine⟨k+1,rfl,(by show k+1<r.length+1;omega),r[k],hat,?_⟩;refine cmo (zbN _ _) ?_;rintro e _ ⟨rfl,rfl⟩;have hd:decide ((clsL r[k]:Int)=4)=digB r[k]:=zdJ (b:=4);refine biE (fun hg=>?_) fun hg=>?_
   ·have hg:digB r[k]=true:=hd.symm.trans hg;rw [if_pos hg] at hds;refine⟨(zbk (r.take (k+1)):Int),(zai (by omega)).trans (by omega),?_⟩;refine⟨((k+1+1:Nat):Int),(zai (by omega)).trans (by omega),?_⟩;exact⟨k+1,(cvE rfl rfl),⟨hl,hw',by omega,rfl⟩,zdc (by omega)⟩
   ·have hg:¬ digB r[k]=true:=(by rw [Bool.not_eq_true];exact hd.symm.trans hg);rw [if_neg hg] at hds;refine⟨((k+1+1:Nat):Int),(zai (by omega)).trans (by omega),?_⟩;exact⟨k+1,⟨.cons rfl (.cons (by rw [hds];rfl) (.cons rfl .nil)),rfl⟩,⟨hl,hw',by omega,rfl⟩,zdc (by omega)⟩
  ·have hc:¬ ((k+1:Nat):Int)<((r.length+1:Nat):Int):=dF hc;obtain rfl:k=r.length:=by omega
   rw [List.take_length] at hw;exact⟨(),⟨.cons rfl (.cons (by rw [List.take_length];rfl) .nil),rfl⟩,List.all_eq_true.2 hw,rfl⟩
 rintro _ _ ⟨hall,rfl⟩;rw [hall,Bool.true_and];have hdl:zbk r<=r.length:=List.length_filter_le _ _;refine⟨0,rfl,Nat.succ_pos _,c,rfl,?_⟩;have cd:decide ((c.toNat:Int)=114)=decide (c=114):=by rw [decide_eq_decide];exact zbM (y:=114)
 refine biE (fun h=>?_) fun h=>?_
 ·have h:(!decide (c=114))=true:=by
   have h:(!decide ((c.toNat:Int)=114))=true:=h
   rwa [cd] at h
  refine brT ?_;exact⟨rb (by rw [h];rfl),rfl⟩
 have h:(!decide (c=114))=false:=by
  have h:(!decide ((c.toNat:Int)=114))=false:=h
  rwa [cd] at h
 rw [h,Bool.false_or];refine biE (fun h5=>?_) fun h5=>?_
 ·have h5:zbk r=0:=by have h5:(zbk r:Int)=0:=dT h5;omega
  exact⟨rb (by rw [decide_eq_true h5];rfl),rfl⟩
 have h5:¬ zbk r=0:=by have h5:¬ (zbk r:Int)=0:=dF h5;omega
 refine⟨(r.length:Nat),(zai (by show -9223372036854775808<=((r.length+1:Nat):Int)-1/\((r.length+1:Nat):Int)-1<=9223372036854775807;omega)).trans (by show ((r.length+1:Nat):Int)-1=_;omega),?_⟩;exact⟨rb (by rw [decide_eq_false h5,Bool.false_or,decide_eq_decide];omega),rfl⟩
theorem zrm (p:Option Addr) (cap:Nat) (l:List (List UInt8)) (s:List UInt8) (w:World) (hl:SlR namE w p l) (hn:l.length<=140737488351232) :
  Calls Tryz.prog 277 #[.slice p l.length cap,strV s] w fun e w'=>∃ n:Int,e = .returned (i64 n)/\decide (0<=n)=l.any (fun q=>decide (q=s))/\w=w':=by
 refine cofE 19 [.slice p l.length cap,strV s] Tryz.func277 ?_;refine⟨Nat,fun k=>⟨[(0,.slice p l.length cap),(1,strV s),(7,i64 l.length),(8,i64 (k:Nat))],[]⟩,fun k X=>k<=l.length/\(∀ q∈l.take k,¬ q=s)/\w=X,fun k=>l.length-k,0,(cvE rfl rfl),⟨Nat.zero_le _,by simp,rfl⟩,?_⟩;rintro k _ ⟨hk,hno,rfl⟩;dsimp only at hk hno ⊢;refine biE (fun hc=>?_) fun hc=>?_
 ·have hc:(k:Int)<(l.length:Int):=dT hc;have hkl:k<l.length:=by omega
  obtain⟨b,o,rfl,hb,hat⟩:=hl.at hkl;refine⟨k,rfl,hkl,?_⟩;refine⟨_,zac (hat k hkl) (i:=0) rfl,?_⟩;refine⟨_,fun w=>zay _ _ s l[k] w,?_⟩;refine biE (fun h=>?_) fun h=>?_
  ·have h:s=l[k]:=dT h;refine⟨k,rfl,?_,rfl⟩;rw [decide_eq_true (by omega)];symm;rw [List.any_eq_true];exact⟨l[k],gM _,decide_eq_true h.symm⟩
  ·have h:¬ s=l[k]:=dF h;refine⟨(k+1:Nat),(zai (by omega)).trans (by omega),?_⟩;refine⟨k+1,(cvE rfl rfl),⟨hkl,?_,rfl⟩,zdc (by omega)⟩;rw [tsg hkl];intro q hq;rcases List.mem_append.1 hq with hq | hq
   ·exact hno q hq
   ·simp only [List.mem_singleton] at hq;rw [hq];exact fun e=>h e.symm
 ·have hc:¬ (k:Int)<(l.length:Int):=dF hc;obtain rfl:k=l.length:=by omega
  rw [List.take_length] at hno;refine⟨-1,rfl,?_,rfl⟩;symm;show _=false;rw [List.any_eq_false];exact fun q hq=>by simpa using hno q hq
theorem zly (p:Option Addr) (cap:Nat) (l:List (List UInt8)) (s:List UInt8) (w:World) (hl:SlR namE w p l) (hn:l.length<=140737488351232) :
  Calls Tryz.prog 260 #[.slice p l.length cap,strV s] w fun e w'=>e = .returned (.bool (l.any fun q=>decide (q=s)))/\w=w':=by
 refine cofE 9 [.slice p l.length cap,strV s] Tryz.func260 ?_;refine cmo (zrm p cap l s w hl hn) ?_;rintro e _ ⟨n,rfl,h,rfl⟩;exact⟨rb h,rfl⟩
end Go.Proofs.YtkpkdmipjinoaaaGreatDoor
