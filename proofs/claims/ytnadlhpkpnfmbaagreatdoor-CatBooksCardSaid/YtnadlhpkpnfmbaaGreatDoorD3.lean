/- Contracts of functions, and plain facts, for the law that the last text of this claim proves. -/
import Derived.Test.YtnadlhpkpnfmbaaGreatDoorD2
import Derived.Test.YtnadlhpkpnfmbaaGreatDoorD1
import Derived.Laws.StructEq
import Derived.ChangeKeysEq
set_option linter.unusedSimpArgs false
set_option linter.unusedVariables false
namespace Go.Proofs.YtnadlhpkpnfmbaaGreatDoor
open Go.Vc Go.RowKit Go.Sei
theorem zuI {P:Program} {t e:TypeId} (hu:P.underlying t=some (.slice e)) (d:Nat) (a:OA) (n c:Nat) (w:Wd):(Op.equalIn (d+1) t (.slice a n c) (.slice none 0 0)).run P w = .ok a.isNone w:=by
 cases a <;> simp [Op.equalIn,Uv hu]
theorem zp8 {n m:Nat} (h:n<256) (hm:Nat.ble 256 m=true):n<m:=nL h (JS hm)
theorem ztW {s:ByteArray} {n:Nat} {K:UInt8->Prop} (h:n<s.size) (k:∀ u,K u):∃ u,s.data.toList[n]?=some u/\K u:=by
 have h:n<s.data.toList.length:=by simpa using h
 exact⟨_,gE h,k _⟩
theorem zuJ {P:Program} {t e:TypeId} (hu:P.underlying t=some (.slice e)) (x y:Operand) (a:OA) (n c:Nat) (w:Wd):(do eqGuard .eql t x y (.slice a n c) (.slice none 0 0);binOp .eql t (.slice a n c) (.slice none 0 0):Sem Value).run P w = .ok (.bool a.isNone) w:=by
 have h:(Op.equal t (.slice a n c) (.slice none 0 0)).run P w = .ok a.isNone w:=by
  exact zuI hu 9999 a n c w
 have h1:(eqGuard .eql t x y (.slice a n c) (.slice none 0 0)).run P w = .ok () w:=by
  simp only [eqGuard,Uy,Kt,Gt,Gb]
 rw [Ga,h1];simp only [Qa,binOp,Ga,h,Gb]
theorem zhf {α:Type} {E:Enc α} {T:TypeId} {w:Wd}:OwnS E T w.heap.size (w.alloc (.cells #[] T)) (some ⟨w.heap.size,0,none⟩) 0 []:=by
 unfold OwnS World.ownsRow;exact⟨by simp,.inr ⟨w.heap.size,0,#[],rfl,Ge _,zz w _,Ge _,Gg _,by simp,by simp⟩⟩
theorem zlz {p:OA} {cap:Nat} {l:List UInt8} {w:Wd} (hl:SlR zW w p l) (hn:l.length<=1000000) (hc:p=none->cap=0) :
  Calls PG 136 #[.slice p l.length cap] w fun e w'=>(∃ q c,e = .returned (.slice q l.length c)/\OwnS zW 5 w.heap.size w' q c l)/\Bw w w':=by
 refine zJ 8 [.slice p l.length cap] Tryz.func136 ?_;refine⟨_,fun w=>zuJ Tryz.underlying72 _ _ p l.length cap w,?_⟩
 cases p with
 | none =>
  refine brT ?_;have e:=hl.none;subst e;exact⟨⟨none,0,rfl,OwnS.nil⟩,Gj _ _⟩
 | some a =>
  refine brF ⟨⟨by decide,by decide,rfl⟩,[],rfl,?_⟩;have hb0:Bw w (w.alloc (.cells #[] 5)):=zba w _;refine zgX (E:=zW) (T:=5) (B:=w.heap.size) (l:=[]) (news:=l) (cap:=0) Tryz.underlying72 k5 rfl rfl rfl zhf rfl (hl.below hb0) (fun h=>by cases h) hb0.size (by simp;omega) (by simp;omega) ?_;intro p' cap' w' ho hg hbw;exact⟨⟨p',cap',rfl,ho⟩,hb0.trans hbw⟩
theorem zui {x:UInt8} {w:Wd}:Calls PG 278 #[u8 x] w fun e w'=>e = .returned (.bool false)/\w=w':=by
 refine zJ 6 [u8 x] Tryz.func278 ?_;refine⟨rb ?_,rfl⟩;rw [Uu rfl];rfl
theorem zsi {x y:UInt8} {w:Wd}:Calls PG 260 #[u8 x,u8 y] w fun e w'=>e = .returned (.bool (decide ((x.toNat:Int)<(y.toNat:Int))))/\w=w':=by
 refine zJ 17 [u8 x,u8 y] Tryz.func260 ?_;refine cmo zui ?_;rintro e _ ⟨rfl,rfl⟩;exact brF (brF ⟨rfl,rfl⟩)
def zeF:List UInt8->Bool
 | []=>true
 | [_]=>true
 | x::y::r=>decide (x.toNat<=y.toNat)&&zeF (y::r)
theorem zmS:∀ (l:List UInt8),zeF l=true->∀ (k:Nat) (h:k+1<l.length),(l[k]).toNat<=(l[k+1]).toNat
 | [],_,k,h=>by simp at h
 | [x],_,k,h=>by simp at h
 | x::y::r,hs,k,h=>by
  unfold zeF at hs;rw [bAT,dE] at hs
  cases k with
  | zero=>exact hs.1
  | succ k=>exact zmS (y::r) hs.2 k (by simpa using h)
section
variable {b o cap:Nat} {l:List UInt8} {w:Wd}
theorem zme (hl:SlR zW w (some ⟨b,o,none⟩) l) (h12:l.length<=12) (hs:zeF l=true) :
  CB 254 #[.slice (some ⟨b,o,none⟩) l.length cap,i64 0,i64 l.length] w (.tuple #[]):=by
 refine zJ 49 [.slice (some ⟨b,o,none⟩) l.length cap,i64 0,i64 l.length] Tryz.func254 ?_;refine⟨1,by decide,?_⟩;refine⟨Nat,fun k=>⟨[(0,.slice (some ⟨b,o,none⟩) l.length cap),(1,i64 0),(2,i64 l.length),(6,i64 (k+1:Nat))],[]⟩,fun k X=>Bw w X,fun k=>l.length-k,0,
  (cvE rfl rfl),Gj _ _,?_⟩
 rintro k X hb;refine biE (fun hc=>?_) fun hc=>?_
 ·have hc:((k+1:Nat):Int)<(l.length:Int):=dT hc;have hk:k+1<l.length:=by omega
  refine⟨Unit,fun _=>⟨[(0,.slice (some ⟨b,o,none⟩) l.length cap),(1,i64 0),(2,i64 l.length),(6,i64 (k+1:Nat)),(7,i64 (k+1:Nat))],[]⟩,fun _ Y=>Bw w Y,fun _=>0,(),(cvE rfl rfl),hb,?_⟩;rintro _ Y hbY;have hbD:Bw w Y.drew:=hbY.drew;refine DrawE.ord [] [0,1,2,3,4,5,6,7,8,9,10,11,12,13,14] (by kernel_rfl) (brE (Uu (by omega)) ?_);obtain⟨b',o',hp,hlt',hat⟩:=(hl.below hbD).at hk;simp only [KZ,Uw,Gr] at hp;obtain⟨rfl,rfl⟩:=hp;refine⟨k+1,rfl,hk,u8 l[k+1],by have:=zc (hat (k+1) hk) (i:=0) (v:=u8 l[k+1]) rfl;exact this,(k:Nat),(zk (by omega)).trans (by omega),k,rfl,by omega,?_⟩;refine⟨u8 l[k],by have:=zc (hat k (by omega)) (i:=0) (v:=u8 l[k]) rfl;exact this,cmo zsi ?_⟩;rintro e _ ⟨rfl,rfl⟩;refine⟨Gj _ _,?_⟩;have hle:=zmS l hs k hk;exact brN (Uj (by omega)) ⟨((k+1+1:Nat):Int),(zk (by omega)).trans (by omega),k+1,(cvE rfl rfl),hbD,zdc (by omega)⟩
 ·exact⟨rfl,hb⟩
theorem zt9 {m:Int} (hl:SlR zW w (some ⟨b,o,none⟩) l) (h12:l.length<=12) (hs:zeF l=true) :
  CB 226 #[.slice (some ⟨b,o,none⟩) l.length cap,i64 0,i64 l.length,i64 m] w (.tuple #[]):=by
 refine zJ 134 [.slice (some ⟨b,o,none⟩) l.length cap,i64 0,i64 l.length,i64 m] Tryz.func226 ?_;refine⟨Unit,fun _=>⟨[(0,.slice (some ⟨b,o,none⟩) l.length cap),(1,i64 0),(2,i64 l.length),(3,i64 m)],[]⟩,fun _ X=>w=X,fun _=>0,(),(cvE rfl rfl),rfl,?_⟩;rintro _ _ rfl;refine⟨(l.length:Nat),(zk (by omega)).trans (by omega),brE (Uu (by omega)) (cmo (zme hl h12 hs) ?_)⟩;rintro e X ⟨rfl,hb⟩;exact⟨rfl,hb⟩
theorem zti {n:Nat} (h:n<256):Calls PG 264 #[.int .u64 (n:Nat)] w fun e w'=>(∃ m:Int,e = .returned (i64 m))/\w=w':=by
 refine zJ 25 [.int .u64 (n:Nat)] Tryz.func264 ?_;exact brN (Uj (by omega)) (brN (Uj (by omega)) (brN (Uj (by omega)) ⟨(n:Nat),zgH (by omega),n,rfl,zp8 h (by kernel_rfl),ztW (zp8 h (by kernel_rfl)) fun u=>⟨_,rfl,_,rfl,⟨_,rfl⟩,rfl⟩⟩))
theorem zo0 {n:Nat} (h:n<256):Calls PG 227 #[.int .u64 (n:Nat)] w fun e w'=>(∃ m:Int,e = .returned (i64 m))/\w=w':=by
 refine zJ 8 [.int .u64 (n:Nat)] Tryz.func227 ?_;refine brF (cmo (zti h) ?_);rintro e _ ⟨⟨m,rfl⟩,rfl⟩;exact⟨⟨m,rfl⟩,rfl⟩
theorem zte (hl:SlR zW w (some ⟨b,o,none⟩) l) (h12:l.length<=12) (hs:zeF l=true) :
  CB 193 #[.slice (some ⟨b,o,none⟩) l.length cap] w (.tuple #[]):=by
 refine zJ 11 [.slice (some ⟨b,o,none⟩) l.length cap] Tryz.func193 ?_;refine⟨(l.length:Nat),zeZ (by omega),cmo (zo0 (by omega)) ?_⟩;rintro e _ ⟨⟨m,rfl⟩,rfl⟩;refine cmo (zt9 hl h12 hs) ?_;rintro e X ⟨rfl,hb⟩;exact⟨rfl,hb⟩
end
section
variable {r:RelD}
theorem zwP {bx:Nat} {W0:Wd} (hr:zG r.to) (hn:r.n<=48) (fx:zN W0 bx r) (hT:Tz64M W0) :
  ziX PG 268 [At0 bx] (zdE r) W0 (fun k=>k=bx\/k=4) (fun _=>False) StO:=by
 intro yl F0 J Jx W hsz hrd hrf hJ hJx hy h0;have fxW:zN W bx r:=(hrd bx (.inl (.inl rfl))).trans fx;have hTW:Tz64M W:=zas hT (hrd _ (.inl (.inr rfl)));refine zJ 17 [.func (.yield yl) #[] #[],At0 bx] Tryz.func268 ?_;refine⟨zd r,ze _,za fxW,hlt fxW,cmo (zc3 hr hTW) ?_⟩;rintro e X ⟨rfl,hbX⟩;refine biE (fun h=>?_) fun h=>?_
 ·have h:jg r=false:=by
   have h:(!jg r)=true:=h;simpa using h
  have hs:zdE r=[]:=by unfold zdE;rw [h];rfl
  rw [hs];exact⟨⟨_,rfl⟩,.inl ⟨F0,hJ.step _ _ _ _ h0 (.below hbX)⟩⟩
 have h:jg r=true:=by
  have h:(!jg r)=false:=h;simpa using h
 have hs:zdE r=zcX (qE r).to 64 (jx r.n) []:=by unfold zdE;rw [h];rfl
 rw [hs] at hy ⊢;refine⟨zd r,ze _,za (zb hbX fxW),hlt (zb hbX fxW),cmo (zgj hr (hTW.below hbX)) ?_⟩;rintro e Y ⟨rfl,hbY,hrB⟩;have hbXY:=zst hbX hbY;refine zn (X:=Y) (v := .agg (zd (qE r)).toArray) k30 (ze _) (by kernel_rfl) (zD _) fun V hbV fV sV=>?_;have hbV2:=zst hbXY hbV;have fxV:=zb hbV2 fxW;have hTV:=hTW.below hbV2;have hok:okR r=true:=by
  unfold jg ze3 at h
  split at h
  ·assumption
  ·simp at h
 obtain⟨p0,p48,_⟩:=qT hok;obtain⟨n,hnn⟩:∃ n:Nat,r.n=n:=⟨r.n.toNat,by omega⟩;have hn48:n<=48:=by omega
 have hal:els (zaH n)=List.range n:=zjC (by omega);have wY:=hbXY.size;have hbVF:¬ F0 Y.heap.size:=fun h=>by have:=(hJ.lt _ _ _ _ h0 h).1;omega
 have htl:=za4 hTW;have hJn:JG W.heap.size (fun _=>False) (fun pre F Z=>J pre F Z/\W.heap.size<=Z.heap.size):=⟨fun s F A B ⟨h,hn⟩ hs=>⟨hJ.step _ _ _ _ h hs,UU hn hs.size⟩,fun s F A k ⟨h,_⟩ hk=>hJ.lt _ _ _ _ h hk⟩;have hal2:jx r.n=zaH n:=by rw [zbT,hnn]
 have main:∀ Z:Wd,OwnS zE 3 V.heap.size Z (some ⟨V.heap.size,0,none⟩) n []->Bw V Z->Calls PG 269 #[At0 Y.heap.size,s64 (zaH n),.slice (some ⟨V.heap.size,0,none⟩) 0 n,.func (.yield yl) #[] #[]] Z fun e Y2=>(∃ v,e = .returned v)/\((∃ F',J (zcX (qE r).to 64 (jx r.n) []) F' Y2)\/∃ pre F',pre <+: zcX (qE r).to 64 (jx r.n) []/\Jx pre F' Y2):=by
  intro Z oZ hbZ;have hbWZ:Bw W Z:=zst hbV2 hbZ;refine cmo (zqD (l:=[]) (J:=fun pre F Z=>J pre F Z/\W.heap.size<=Z.heap.size) (Jx:=Jx) (n0:=W.heap.size) (n:=n) (bB:=Y.heap.size) (r:=qE r) (xs:=zcX (qE r).to 64 (jx r.n) []) hJn (fun _ _ _ h=>h.2) (fun pre x vs F W1 ⟨hj,hn⟩ hst hpre=>YieldR.mono (hy pre x vs F W1 hj hst hpre) fun v W2 h=>?_) hrB hn48 htl 64 (zaH n) V.heap.size [] F0 Z (zfF _) (jE _) (fun i hi=>by
   rw [hal] at hi;have:=Ur.1 hi;omega) (by rw [hal];simp) (oZ.lower hbV2.size) (fun h=>?_) ⟨hJ.step _ _ _ _ h0 (.below hbWZ),hbWZ.size⟩ (zb hbZ fV) hbVF wY (by omega) (hTV.below hbZ) (hrf _ (.inr rfl)) (by rw [hal2];exact List.prefix_refl _)) ?_
  ·rcases h with ⟨rfl,F',h1,h2⟩ | h
   ·exact .inl ⟨rfl,F',⟨h1,UU hn h2.size⟩,h2⟩
   ·exact .inr h
  ·have:=(hJ.lt _ _ _ _ h0 h).1;have:=hbV2.size;omega
  ·rintro e Y2 (⟨rfl,F',⟨hj,_⟩,_⟩ | ⟨rfl,pre',F',h1,h2⟩)
   ·rw [hal2];exact⟨⟨_,rfl⟩,.inl ⟨F',hj⟩⟩
   ·exact⟨⟨_,rfl⟩,.inr ⟨pre',F',h1,h2⟩⟩
 refine DrawE.treeQ [7] (.op 0 (.op 1 (.op 3 (.op 4 (.op 6 (.alt (.op 2 (.op 5 (.op 7 .nil))) (.op 5 (.op 2 (.op 7 .nil))))))))) (by kernel_rfl) ⟨i64 n,by rw [<- hnn];exact zc (za fxV) (i:=0) rfl,i64 n,by rw [<- hnn];exact zc (za fxV) (i:=0) rfl,Gp ?_ ?_⟩
 ·refine cmo zh4 ?_;rintro e _ ⟨rfl,rfl⟩;refine⟨Gj _ _,zdV (E:=zE) Tryz.underlying128 k3 rfl rfl rfl n (by show 8*n<=_;omega) (by unfold maxLen;omega) fun Z oZ hbZ sZ=>⟨hbZ,cmo (main Z oZ (((Gj _ V).drew).trans hbZ)) ?_⟩⟩;rintro e Y2 ⟨⟨v,rfl⟩,h⟩;exact⟨⟨_,rfl⟩,h⟩
 ·refine zdV (E:=zE) Tryz.underlying128 k3 rfl rfl rfl n (by show 8*n<=_;omega) (by unfold maxLen;omega) fun Z oZ hbZ sZ=>⟨hbZ,cmo zh4 ?_⟩;rintro e _ ⟨rfl,rfl⟩;refine⟨Gj _ _,cmo (main Z oZ (((Gj _ V).drew).trans hbZ)) ?_⟩;rintro e Y2 ⟨⟨v,rfl⟩,h⟩;exact⟨⟨_,rfl⟩,h⟩
theorem zvi {w:Wd}:Calls PG 233 #[.agg (zd r).toArray] w fun e w'=>e = .returned (.func (.func 268) #[] #[At0 w.heap.size])/\zN w' w.heap.size r/\w'.heap.size=w.heap.size+1/\Bw w w':=by
 refine zJ 4 [.agg (zd r).toArray] Tryz.func233 ?_;exact⟨rfl,zz w _,wz _ _,(zba w _)⟩
theorem zpb {b:Nat} {m:Nat} {w:Wd} (hr:zG r.to) (fb:zN w b r):CB 232 #[At0 b,i64 m] w (.bool (decide (m<=10000)&&okR r)):=by
 refine zJ 17 [At0 b,i64 m] Tryz.func232 ?_;refine biE (fun h=>?_) fun h=>?_
 ·refine biE (fun h2=>?_) fun h2=>?_
  ·have h2:(m:Int)<=10000:=dT h2;refine⟨zd r,ze _,za fb,hlt fb,cmo (jA hr) ?_⟩;rintro e Y ⟨rfl,hbY⟩;exact⟨rb (by rw [Uu (show m<=10000 by omega),UA]),hbY⟩
  ·have h2:¬ (m:Int)<=10000:=dF h2;exact⟨rb (by rw [Uj (show ¬ m<=10000 by omega),Ul]),Gj _ _⟩
 ·have h:¬ (0:Int)<=m:=dF h;omega
end
def ja:Enc (List Nat×OA×Nat) where
 sz:=1
 enc x:=[.slice x.2.1 x.1.length x.2.2]
 len x:=rfl
 one x v hv:=by
  simp at hv;subst hv;rfl
 pos:=by decide
theorem zrm {p:OA} {cap:Nat} {l:List Nat} {w:Wd} (hl:SlR zE w p l) (hn:l.length<=100000) (hc:p=none->cap=0) :
  Calls PG 234 #[.slice p l.length cap] w fun e w'=>(∃ q c,e = .returned (.slice q l.length c)/\OwnS zE 3 w.heap.size w' q c l)/\Bw w w':=by
 refine zJ 8 [.slice p l.length cap] Tryz.func234 ?_;refine⟨_,fun w=>zuJ Tryz.underlying128 _ _ p l.length cap w,?_⟩
 cases p with
 | none =>
  refine brT ?_;have e:=hl.none;subst e;exact⟨⟨none,0,rfl,OwnS.nil⟩,Gj _ _⟩
 | some a =>
  refine brF ⟨⟨by decide,by decide,rfl⟩,[],rfl,?_⟩;have hb0:Bw w (w.alloc (.cells #[] 3)):=zba w _;refine zgX (E:=zE) (T:=3) (B:=w.heap.size) (l:=[]) (news:=l) (cap:=0) Tryz.underlying128 k3 rfl rfl rfl zhf rfl (hl.below hb0) (fun h=>by cases h) hb0.size (by simp;omega) (by show (0+l.length)*8<=_;omega) ?_;intro p' cap' w' ho hg hbw;exact⟨⟨p',cap',rfl,ho⟩,hb0.trans hbw⟩
def zvo (B:Nat) (F:Nat->Prop) (Y:Wd) (x:List Nat×OA×Nat):Prop:=OwnS zE 3 B Y x.2.1 x.2.2 x.1/\∀ a,x.2.1=some a->F a.block
theorem zf0 (B:Nat):ziW 128 170 (zvo B):=by
 rintro F G Y Z x ⟨h1,h2⟩ hs hFG;refine⟨h1.same fun a ha=>?_,fun a ha=>hFG _ (h2 a ha)⟩;obtain⟨_,_,cur,hc⟩:=zA h1 ha;exact hs _ cur 3 (h2 a ha) hc (by decide) (by decide)
theorem zsE {before:Nat->Nat}:∀ (m left:Nat) (l:List Nat),∀ x∈zcX before m left l,x.length<=l.length+m:=by
 intro m
 induction m with
 | zero =>
  intro left l x hx;unfold zcX at hx
  split at hx
  ·simp only [KA] at hx;subst hx;omega
  ·cases hx
 | succ m ih =>
  intro left l x hx;unfold zcX at hx
  split at hx
  ·simp only [KA] at hx;subst hx;omega
  ·obtain⟨a,_,ha⟩:=List.mem_flatMap.1 hx
   split at ha
   ·have:=ih _ _ _ ha;simp only [lap,Qs,QR] at this;omega
   ·cases ha
theorem zm4 {r:RelD} {x:List Nat} (h:x∈zdE r):x.length<=64:=by
 unfold zdE at h
 split at h
 ·have:=zsE _ _ _ x h;simpa using this
 ·cases h
def AscB (xs:List (List Nat×OA×Nat)):Prop:=xs.Pairwise fun x y=>∀ a b,x.2.1=some a->y.2.1=some b->a.block<b.block
theorem AscB.snoc {xs:List (List Nat×OA×Nat)} {n:Nat} {y:List Nat×OA×Nat} (h:AscB xs) (h1:∀ x∈xs,∀ a,x.2.1=some a->a.block<n) (h2:∀ a,y.2.1=some a->n<=a.block):AscB (xs++[y]):=by
 unfold AscB;rw [List.pairwise_append];refine⟨h,List.pairwise_singleton _ _,fun x hx z hz a b ha hb=>?_⟩;rw [KA.1 hz] at hb;exact nL (h1 x hx a ha) (h2 b hb)
abbrev zwr:List (List Nat×OA×Nat):=[]
theorem zre {r:RelD} {m:Nat} {w:Wd} (hr:zG r.to) (hT:Tz64M w) (hm:m<=10000) (hok:okR r=true) :
  Calls PG 203 #[.agg (zd r).toArray,i64 m] w fun e w' =>
   (((zdE r).length<=m/\∃ (xs:List (List Nat×OA×Nat)) (p:OA) (c:Nat),e = .returned (.tuple #[.slice p xs.length c,i64 0])/\xs.map (·.1)=zdE r/\AscB xs/\OwnS ja 128 w.heap.size w' p c xs/\∀ x∈xs,OwnS zE 3 w.heap.size w' x.2.1 x.2.2 x.1) \/
    (m<(zdE r).length/\e = .returned (.tuple #[.slice none 0 0,i64 5])))/\Bw w w':=by
 refine qa 24 [.agg (zd r).toArray,i64 m] (.c .p (.s .p (.c .p .p))) Tryz.func203 ?_;obtain⟨L,hL⟩:=nm (w.heap.size);refine⟨Unit,fun _=>⟨[(2,At0 L),(3,At0 (L+1)),(4,At0 (L+2)),(5,At0 (L+3))],[]⟩,fun _ X=>(zN X L r/\X.heap[L+1]?=some (.cells #[i64 m] 3 (0,0))/\X.heap[L+2]?=some (.cells #[.slice none 0 0] 170 (0,0))/\X.heap[L+3]?=some (.cells #[i64 0] 42 (0,0)))/\X.heap.size=L+4/\Bw w X,?_,?_⟩
 ·have s1:=wz w (.cells (zd r).toArray 30);have h2:=zz (w.alloc (.cells (zd r).toArray 30)) (.cells #[i64 m] 3 (0,0));have s2:=wz (w.alloc (.cells (zd r).toArray 30)) (.cells #[i64 m] 3 (0,0));have h3:=zz ((w.alloc (.cells (zd r).toArray 30)).alloc (.cells #[i64 m] 3 (0,0))) (.cells #[.slice none 0 0] 170 (0,0));have s3:=wz ((w.alloc (.cells (zd r).toArray 30)).alloc (.cells #[i64 m] 3 (0,0))) (.cells #[.slice none 0 0] 170 (0,0));have h4:=zz (((w.alloc (.cells (zd r).toArray 30)).alloc (.cells #[i64 m] 3 (0,0))).alloc (.cells #[.slice none 0 0] 170 (0,0))) (.cells #[i64 0] 42 (0,0));have s4:=wz (((w.alloc (.cells (zd r).toArray 30)).alloc (.cells #[i64 m] 3 (0,0))).alloc (.cells #[.slice none 0 0] 170 (0,0))) (.cells #[i64 0] 42 (0,0));rw [s1] at h2 s2;rw [s2] at h3 s3;rw [s3] at h4 s4;rw [<- hL] at h2 s2 h3 s3 h4 s4;have f0:=qm (.cells #[i64 0] 42 (0,0)) (qm (.cells #[.slice none 0 0] 170 (0,0)) (qm (.cells #[i64 m] 3 (0,0)) (zz w (.cells (zd r).toArray 30))));rw [<- hL] at f0;exact⟨(),⟨.cons (by rw [hL];rfl) (.cons (by rw [hL,<- s1];rfl) (.cons (by rw [<- s2];rfl) (.cons (by rw [<- s3];rfl) .nil))),rfl⟩,⟨f0,qm _ (qm _ h2),qm _ h3,h4⟩,s4,((((zba w _)).alloc (by simp) _).alloc (by simp;omega) _).alloc (by simp;omega) _⟩
 rintro _ X ⟨⟨f0,f1,f2,f3⟩,sX,hbX⟩;refine⟨_,zc (za f1) (i:=0) rfl,cmo (zpb hr f0) ?_⟩;rintro e Y ⟨rfl,hbY⟩;refine brN (by rw [hok,Uu hm];rfl) ?_;have hwY:=zst hbX hbY;obtain⟨M,hM⟩:=nm (Y.heap.size);have hMX:L+4<=M:=by have:=hbY.size;omega
 refine⟨Unit,fun _=>⟨[(2,At0 L),(3,At0 (L+1)),(4,At0 (L+2)),(5,At0 (L+3)),(6,At0 M)],[]⟩,fun _ V=>V.heap[M]?=some (.cells #[.slice none 0 0] 170 (0,0))/\V.heap.size=M+1/\Bw X V,?_,?_⟩
 ·exact⟨(),⟨.cons rfl (.cons rfl (.cons rfl (.cons rfl (.cons (by rw [hM];rfl) .nil)))),rfl⟩,by rw [hM];exact zz Y _,by rw [hM];exact wz Y _,hbY.alloc hbY.size _⟩
 rintro _ V ⟨fM,sV,hbV⟩;have hwV:=zst hbX hbV;have f0:=zb hbV f0;have f1:=zb hbV f1;have f2:=zb hbV f2;have f3:=zb hbV f3;refine⟨zd r,ze _,za f0,hlt f0,cmo zvi ?_⟩;rintro e W ⟨rfl,fx,sW,hbW⟩;obtain⟨p0,p48,_⟩:=qT hok;have hwW:=zst hwV hbW;have htl:=za4 hT;have hI:=zwP hr p48 fx (hT.below hwW);have f1:=zb hbW f1;have f2:=zb hbW f2;have f3:=zb hbW f3;have fM:=zb hbW fM;have hwL:w.heap.size=L:=hL.symm;clear hbV hbY hwY hbX f0 sX;refine zdN (zbF _) rfl (lb := #[At0 V.heap.size]) rfl rfl hI (Ge _) (fun k hk=>⟨?_,rfl⟩) (fun pre vs W ⟨l,q,c,_,h,_⟩=>by rw [h];rfl) (by decide)
  (fun k=>k=M\/k=L+2\/k=L+3)
  (fun pre F Z=>(∃ xs,(xs.map (·.1)=pre/\pre.length<=m/\AscB xs)/\Gath ja 128 170 (L+4) W.heap.size M W (zvo (L+4)) xs F Z)/\F (L+2)/\F (L+3))
  (fun ex pre F Z=>ex = .ret/\m<(zdE r).length/\Z.heap[L+2]?=some (.cells #[.slice none 0 0] 170 (0,0))/\Z.heap[L+3]?=some (.cells #[i64 5] 42 (0,0))/\Bw w Z/\W.heap.size<=Z.heap.size/\F (L+2)/\F (L+3)/\∀ k,F k->k<Z.heap.size)
  (fun k hk=>?_) ⟨?_,?_⟩ (fun ex=>⟨?_,?_⟩) ?_ ?_ ?_ ?_
 ·rcases hk with (rfl | rfl) | h
  ·omega
  ·have:=hwW.size;omega
  ·exact h.elim
 ·rcases hk with rfl | rfl <;> omega
 ·rintro pre F A C ⟨h,h2,h3⟩ hs;exact⟨(Gath.iter (σ:=List (List Nat)) (f:=fun pre xs=>xs.map (·.1)=pre/\pre.length<=m/\AscB xs) (zf0 (L+4)) (by omega)).step pre F A C h hs,h2,h3⟩
 ·rintro pre F A k ⟨h,_⟩ hk;exact (Gath.iter (σ:=List (List Nat)) (f:=fun pre xs=>xs.map (·.1)=pre/\pre.length<=m/\AscB xs) (zf0 (L+4)) (by omega)).lt pre F A k h hk
 ·rintro pre F A C ⟨h1,h2,h3,h4,h5,h6,h7,h8,h9⟩ hs;exact⟨h1,h2,(hs.same _ (hlt h3) (.inr h7)).trans h3,(hs.same _ (hlt h4) (.inr h8)).trans h4,h5.trans ⟨hs.os,hs.tape,hs.output,hs.size,fun k hk=>hs.same k (nL hk h5.size) (.inl ⟨by omega,fun h=>h⟩)⟩,UU h6 hs.size,h7,h8,fun k hk=>nL (h9 k hk) hs.size⟩
 ·rintro pre F A k ⟨h1,h2,h3,h4,h5,h6,h7,h8,h9⟩ hk;exact⟨h9 k hk,fun h=>h⟩
 ·refine⟨⟨zwr,⟨rfl,Gg _,List.Pairwise.nil⟩,⟨Ge _,.inl rfl,fun k hk=>?_,⟨none,0,fM,OwnS.nil,fun a h=>by cases h⟩,fun x hx=>(by cases hx),Gj _ _⟩⟩,.inr (.inl rfl),.inr (.inr rfl)⟩;rcases hk with rfl | rfl | rfl <;> omega
 ·rintro yl pre x vs F Y hyl hpre hJ ⟨l,q,c,hlast,rfl,hsl,hqc,hcel⟩ hfy ⟨lo,hlo⟩;have hxR:x=l:=by simpa using hlast
  subst hxR;refine⟨rfl,F,KeepsG.refl _ _,hJ,?_⟩;rintro o Y2 hY2 ⟨⟨xs,⟨hxs,hpm,hasc⟩,hG⟩,hF2,hF3⟩;have hpl:pre.length<(zdE r).length:=by
   obtain⟨t,ht⟩:=hpre;rw [<- ht];simp only [lap,Qs];omega
  have hxl:xs.length=pre.length:=by rw [<- hxs,QQ]
  have hmem:x∈zdE r:=hpre.subset (by simp);have hlen:=zm4 hmem;have hslY:SlR zE Y2 q x:=by
   rw [hY2];refine q9 hsl fun a ha=>zl fun e=>?_;obtain⟨cur,hcur⟩:=hcel a ha;rw [e,hlo] at hcur
   cases hcur
  obtain⟨p,c',h4,h5,h6⟩:=hG.row;have hWL:L+4<=W.heap.size:=by omega
  have g1:Y2.heap[L+1]?=some (.cells #[i64 m] 3 (0,0)):=(hG.old.block _ (by omega)).trans f1;refine⟨_,zc (za h4) (i:=0) rfl,_,zc (za g1) (i:=0) rfl,biE (fun hc=>?_) fun hc=>?_⟩
  ·have hc:((xs.length:Nat):Int)=(m:Int):=dT hc;have g2:Y2.heap[L+2]?=some (.cells #[.slice none 0 0] 170 (0,0)):=(hG.old.block _ (by omega)).trans f2;have g3:Y2.heap[L+3]?=some (.cells #[i64 0] 42 (0,0)):=(hG.old.block _ (by omega)).trans f3;refine zy zoC g2 (o:=0) (v := .slice none 0 0) rfl rfl (by show 0<1;decide) rfl fun Z1 fZ1 gZ1 sZ1=>zy k42 ((gZ1.block (L+3) (hlt g3) (by simp)).trans g3) (o:=0) (v:=i64 5) rfl rfl (by show 0<1;decide) rfl fun Z2 fZ2 gZ2 sZ2=>⟨F,⟨rfl,by omega,(gZ2.block (L+2) (hlt fZ1) (by simp)).trans fZ1,fZ2,?_,by have:=hG.size;omega,hF2,hF3,fun k hk=>by have:=hG.lt k hk;omega⟩,(KeepsG.grown gZ1 hF2).trans (KeepsG.grown gZ2 hF3)⟩;have hwY:=hwW.trans (hG.old.mono (by omega));exact (hwY.trans (zq gZ1 hwY.size (by omega))).trans (zq gZ2 (by have:=hwY.size;omega) (by omega))
  ·have hc:¬ ((xs.length:Nat):Int)=(m:Int):=dF hc;refine DrawE.ord [4,5] [0,1,2,3,4,5] (by kernel_rfl) ?_;have hd2:Bw Y2 Y2.drew:=(Gj _ _).drew;refine⟨_,zc (za (hdr h4)) (i:=0) rfl,cmo (zrm (hslY.below hd2) (by omega) hqc) ?_⟩;rintro e Y3 ⟨⟨q1,k1,rfl,o1⟩,hb3⟩;refine⟨hb3,?_⟩;obtain⟨nx,hnx⟩:∃ nx:List Nat×OA×Nat,nx=(x,q1,k1):=⟨_,rfl⟩;have hen:[Value.slice q1 x.length k1]=ja.enc nx:=by rw [hnx];rfl
   refine⟨⟨by decide,by decide,rfl⟩,ja.enc nx,by rw [<- hen];rfl,?_⟩;have hba:Bw Y3 (Y3.alloc (.cells (ja.enc nx).toArray 128)):=zba _ _;refine⟨hba,?_⟩;have hnw:∀ (G:Nat->Prop) (Z:Wd),(∀ k,Y2.heap.size<=k->k<Y3.heap.size->Z.heap[k]?=Y3.heap[k]?)->(∀ k,Y2.heap.size<=k->k<Y3.heap.size->G k)->zvo (L+4) G Z nx:=by
    intro G Z hs hg;rw [hnx];have ol:∀ a,q1=some a->Y2.heap.size<=a.block/\a.block<Y3.heap.size:=fun a ha=>⟨(zA o1 ha).1,(zA o1 ha).2.1⟩;have hY2s:=hG.size;exact⟨OwnS.lower (o1.same fun a ha=>hs _ (ol a ha).1 (ol a ha).2) (by show L+4<=Y2.heap.size;omega),fun a ha=>hg _ (ol a ha).1 (ol a ha).2⟩
   obtain⟨v,Y5,hrun,Z,hrun2,F',hG',hK',hFF⟩:=hG.step (P:=PG) (ty:=170) (cap1:=1) (zf0 (L+4)) (by decide) Tryz.underlying170 zqj rfl rfl rfl zoC rfl (by omega) (by omega) (hd2.trans hb3) nx (by omega) (by show (xs.length+1)*24<=_;omega) hnw p c' h4;exact SatR.mk hrun (SatR.mk hrun2 ⟨F',⟨⟨_,⟨by rw [QT,hxs,hnx];rfl,by simp only [lap,Qs,QR];omega,hasc.snoc (n:=Y2.heap.size) (fun x' hx' a ha=>(zA (hG.nest x' hx').1 ha).2.1) (fun a ha=>by rw [hnx] at ha;exact (zA o1 ha).1)⟩,hG'⟩,hFF _ hF2,hFF _ hF3⟩,hK'⟩)
 ·rintro D F Y hD hfD ⟨⟨xs,⟨hxs,hpm,hasc⟩,hG⟩,hF2,hF3⟩ hdef;obtain⟨p,c',h4,h5,h6⟩:=hG.row;have hWL:L+4<=W.heap.size:=by omega
  have g2:Y.heap[L+2]?=some (.cells #[.slice none 0 0] 170 (0,0)):=(hG.old.block _ (by omega)).trans f2;have g3:Y.heap[L+3]?=some (.cells #[i64 0] 42 (0,0)):=(hG.old.block _ (by omega)).trans f3;refine⟨_,zc (za h4) (i:=0) rfl,zy zoC g2 (o:=0) (v := .slice p xs.length c') rfl rfl (by show 0<1;decide) rfl fun Z1 fZ1 gZ1 sZ1=>zy k42 ((gZ1.block (L+3) (hlt g3) (by simp)).trans g3) (o:=0) (v:=i64 0) rfl rfl (by show 0<1;decide) rfl fun Z2 fZ2 gZ2 sZ2=>?_⟩;have k2:∀ k,k<Y.heap.size->k≠L+2->k≠L+3->Z2.heap[k]?=Y.heap[k]?:=fun k hk n1 n2=>(gZ2.block k (by rw [sZ1];exact hk) (by simpa using n2)).trans (gZ1.block k hk (by simpa using n1));refine⟨_,rfl,(k2 D (hlt hdef) (by omega) (by omega)).trans hdef,?_⟩;have f2':=(gZ2.block (L+2) (hlt fZ1) (by simp)).trans fZ1;have nD2:D≠L+2:=fun e=>hfD (e▸hF2);have nD3:D≠L+3:=fun e=>hfD (e▸hF3);have hwY:=hwW.trans (hG.old.mono (by omega));have b2:=(hwY.trans (zq gZ1 hwY.size (by omega))).trans (zq gZ2 (by have:=hwY.size;omega) (by omega));have kp:∀ a:Addr,L+4<=a.block->F a.block->a.block<Y.heap.size->(Z2.putObj D (.deferred none)).heap[a.block]?=Y.heap[a.block]?:=fun a h1 h2 h3=>(zl fun e=>by rw [<- e] at hfD;exact hfD h2).trans (k2 _ h3 (by omega) (by omega));refine⟨.slice p xs.length c',zc (za ((zl fun e=>nD2 e.symm).trans f2')) (i:=0) rfl,i64 0,zc (za ((zl fun e=>nD3 e.symm).trans fZ2)) (i:=0) rfl,.inl ⟨by rw [<- hxs,QQ] at hpm ⊢;exact hpm,xs,p,c',rfl,hxs,hasc,?_,fun x hx=>?_⟩,jh b2 (by omega) _⟩
  ·exact OwnS.lower (h5.same fun a ha=>kp a (zA h5 ha).1 (h6 a ha) (zA h5 ha).2.1) (by omega)
  ·obtain⟨hx1,hx2⟩:=hG.nest x hx;exact OwnS.lower (hx1.same fun a ha=>kp a (zA hx1 ha).1 (hx2 a ha) (zA hx1 ha).2.1) (by omega)
 ·rintro D ex pre F Y hD hfD hpre ⟨rfl,hm2,h3,h4,h5,h6,h7,h8,h9⟩ hdef;refine⟨_,rfl,hdef,?_⟩;have nD2:D≠L+2:=fun e=>hfD (e▸h7);have nD3:D≠L+3:=fun e=>hfD (e▸h8);exact⟨_,zc (za ((zl fun e=>nD2 e.symm).trans h3)) (i:=0) rfl,_,zc (za ((zl fun e=>nD3 e.symm).trans h4)) (i:=0) rfl,.inr ⟨hm2,rfl⟩,jh h5 (by have:=hwW.size;omega) _⟩
theorem zrj {p:OA} {cap:Nat} {l:List Nat} {s:Nat} {w:Wd} (hl:SlR zE w p l) (hn:l.length<=140737488351232) :
  Calls PG 231 #[.slice p l.length cap,i64 s] w fun e w'=>∃ n:Int,e = .returned (i64 n)/\decide (0<=n)=l.any (fun q=>decide (q=s))/\w=w':=by
 refine zJ 19 [.slice p l.length cap,i64 s] Tryz.func231 ?_;refine⟨Nat,fun k=>⟨[(0,.slice p l.length cap),(1,i64 s),(7,i64 l.length),(8,i64 (k:Nat))],[]⟩,fun k X=>k<=l.length/\(∀ q∈l.take k,¬ q=s)/\w=X,fun k=>l.length-k,0,(cvE rfl rfl),⟨Gg _,by simp,rfl⟩,?_⟩;rintro k _ ⟨hk,hno,rfl⟩;dsimp only at hk hno ⊢;refine biE (fun hc=>?_) fun hc=>?_
 ·have hc:(k:Int)<(l.length:Int):=dT hc;have hkl:k<l.length:=by omega
  obtain⟨b,o,rfl,hb,hat⟩:=hl.at hkl;refine⟨k,rfl,hkl,i64 l[k],zc (hat k hkl) (i:=0) rfl,biE (fun h=>?_) fun h=>?_⟩
  ·have h:(s:Int)=(l[k]:Nat):=dT h;refine⟨k,rfl,?_,rfl⟩;rw [Uu (by omega)];symm;rw [Qk];exact⟨l[k],gM _,Uu (by omega)⟩
  ·have h:¬ (s:Int)=(l[k]:Nat):=dF h;refine⟨(k+1:Nat),(zk (by omega)).trans (by omega),k+1,(cvE rfl rfl),⟨hkl,?_,rfl⟩,zdc (by omega)⟩;rw [tsg hkl];intro q hq;rcases QU.1 hq with hq | hq
   ·exact hno q hq
   ·simp only [KA] at hq;rw [hq];exact fun e=>h (by rw [e])
 ·have hc:¬ (k:Int)<(l.length:Int):=dF hc;obtain rfl:k=l.length:=by omega
  rw [Qw] at hno;refine⟨-1,rfl,?_,rfl⟩;symm;show _=false;rw [KN];exact fun q hq=>by simpa using hno q hq
theorem zly {p:OA} {cap:Nat} {l:List Nat} {s:Nat} {w:Wd} (hl:SlR zE w p l) (hn:l.length<=140737488351232) :
  Calls PG 199 #[.slice p l.length cap,i64 s] w fun e w'=>e = .returned (.bool (l.any fun q=>decide (q=s)))/\w=w':=by
 refine zJ 9 [.slice p l.length cap,i64 s] Tryz.func199 ?_;refine cmo (zrj hl hn) ?_;rintro e _ ⟨n,rfl,h,rfl⟩;exact⟨rb h,rfl⟩
abbrev zjc (l:List Nat):List Value:=l.map fun n:Nat=>i64 n
abbrev RowI (Z:Wd) (g:Nat) (l:List Nat):Prop:=Z.heap[g]?=some (.cells (zjc l).toArray 3 (0,0))
theorem zfp:∀ l:List Nat,l.flatMap zE.enc=zjc l
 | []=>rfl
 | a::l=>by
  show i64 a::l.flatMap zE.enc=i64 a::zjc l;rw [zfp l]
theorem zjQ:∀ n,zcE [Value.int IntKind.i64 0] n=zjc (List.replicate n 0)
 | 0=>rfl
 | n+1=>by
  show Value.int IntKind.i64 0::zcE [Value.int IntKind.i64 0] n=i64 0::zjc (List.replicate n 0);rw [<- zjQ n];rfl
theorem RowI.sl {Z:Wd} {g:Nat} {l:List Nat} (h:RowI Z g l):SlR zE Z (some ⟨g,0,none⟩) l :=
 SlR.of_cells (hlt h) (by rw [zfp];exact za h)
theorem zoh {α:Type} {f:Nat->α} {n j:Nat} (h:j<n):((List.range j).map f++[f j]) <+: (List.range n).map f:=by
 obtain⟨m,rfl⟩:∃ m,n=(j+1)+m:=⟨n-(j+1),by omega⟩;rw [List.range_add,QT];exact⟨_,by rw [QY,QT];rfl⟩
def StD (pre:List (List Nat)) (vs:List Value) (W:Wd):Prop:=∃ l q,pre.getLast?=some l/\vs=[.slice q l.length l.length]/\SlR zE W q l/\∀ a,q=some a->∃ cur,W.heap[a.block]?=some (.cells cur 3 (0,0))
section
variable {bx:Nat} {sizes:List Nat} {q:OA} {c:Nat} {W0:Wd}
theorem ztt (fx:W0.heap[bx]?=some (.cells #[.slice q sizes.length c] 128 (0,0))) (hl:SlR zE W0 q sizes) (hql:∀ a,q=some a->a.block<W0.heap.size) (hn:sizes.length<=1000) (hm:∀ n∈sizes,n<=1000000) :
  ziX PG 198 [At0 bx] (zcf sizes) W0 (fun k=>k=bx\/∃ a,q=some a/\k=a.block) (fun _=>False) StD:=by
 intro yl F0 J Jx W hsz hrd hrf hJ hJx hy h0;have fxW:=(hrd bx (.inl (.inl rfl))).trans fx;have hlW:SlR zE W q sizes:=q9 hl fun a ha=>hrd _ (.inl (.inr ⟨a,ha,rfl⟩));refine zJ 43 [.func (.yield yl) #[] #[],At0 bx] Tryz.func198 ?_;refine⟨_,zc (za fxW) (i:=0) rfl,cmo (zly (s:=0) hlW (by omega)) ?_⟩;rintro e _ ⟨rfl,rfl⟩;refine biE (fun h=>?_) fun h=>?_
 ·have h:(sizes.any fun q=>decide (q=0))=true:=h;obtain⟨z,hz,hz0⟩:=Qk.1 h;have hz0:z=0:=dT hz0;subst hz0;have hs:zcf sizes=[]:=by unfold zcf;rw [zeJ (by simpa using hz)];rfl
  rw [hs];exact⟨⟨_,rfl⟩,.inl ⟨F0,h0⟩⟩
 have h:(sizes.any fun q=>decide (q=0))=false:=h;obtain⟨rs,hrs⟩:=nm (sizes.reverse);have hr0:∀ n∈rs,n≠0:=fun n hn e=>by
  rw [KN] at h;exact h n (by rw [hrs] at hn;simpa using hn) (Uu e)
 have hlen:rs.length=sizes.length:=by rw [hrs,Ki]
 refine⟨_,zc (za fxW) (i:=0) rfl,ziK Tryz.underlying128 k3 rfl rfl (by decide) sizes.length (by show 8*_<=_;omega) (by omega) fun X fX hbX sX=>?_⟩;rw [zjQ] at fX;obtain⟨D,hD⟩:∃ D:Nat->List Nat,D=fun j=>(zaT rs j).reverse:=⟨_,rfl⟩;have hDl:∀ j,(D j).length=sizes.length:=fun j=>by rw [hD];show ((zaT rs j).reverse).length=_;rw [Ki,zfH,hlen]
 have hds:zcf sizes=(List.range (ql rs)).map D:=by unfold zcf;rw [hD,hrs]
 have hP:0<ql rs:=ziw hr0;have hD0:D 0=List.replicate sizes.length 0:=by
  rw [hD];show (zaT rs 0).reverse=_;rw [ziQ,List.reverse_replicate,hlen]
 rw [<- hD0] at fX;rw [hds] at hy ⊢;obtain⟨g,hg⟩:=nm (W.heap.size);rw [<- hg] at fX;have hbxW:=hlt fxW;refine⟨Nat×(Nat->Prop),fun s=>⟨[(0,.func (.yield yl) #[] #[]),(1,At0 bx),(3,.slice (some ⟨g,0,none⟩) sizes.length sizes.length)],[]⟩,
  fun s Z=>s.1<ql rs/\J ((List.range s.1).map D) s.2 Z/\RowI Z g (D s.1)/\¬ s.2 g/\W.heap.size<=Z.heap.size/\Z.heap[bx]?=some (.cells #[.slice q sizes.length c] 128 (0,0))/\¬ s.2 bx/\RowF zE W.heap.size s.2 Z q sizes,
  fun s=>ql rs-s.1,(0,F0),⟨.cons rfl (.cons rfl (.cons (by rw [hg];rfl) .nil)),rfl⟩,
  ⟨hP,hJ.step _ _ _ _ h0 (.below hbX),fX,fun h=>by have:=(hJ.lt _ _ _ _ h0 h).1;omega,hbX.size,zb hbX fxW,hrf _ (.inl rfl),⟨hlW.below hbX,fun a ha=>⟨by have:=hql a ha;omega,hrf _ (.inr ⟨a,ha,rfl⟩)⟩⟩⟩,?_⟩
 rintro⟨j,F⟩ Z ⟨hj,hjZ,fZ,hgF,hWZ,fxZ,hbF,hqZ⟩;dsimp only at hj hjZ fZ hgF fxZ hbF hqZ ⊢;have hpre:((List.range j).map D++[D j]) <+: (List.range (ql rs)).map D:=zoh hj;refine YieldR.mono (hy _ (D j) [.slice (some ⟨g,0,none⟩) sizes.length sizes.length] F Z hjZ ⟨D j,_,by simp,by rw [hDl j],fZ.sl,fun a ha=>(by cases ha;exact⟨_,fZ⟩)⟩ hpre) ?_;rintro v Y (⟨rfl,F',hjY,kY⟩ | ⟨rfl,F',hjY⟩)
 ·refine brT ?_;have hgZ:=hlt fZ;have fY:RowI Y g (D j):=(kY.same g hgZ hgF).trans fZ;have hgF':¬ F' g:=fun h=>by
   rcases kY.fp g h with h | h
   ·exact hgF h
   ·omega
  have fxY:=(kY.same bx (hlt fxZ) hbF).trans fxZ;have hbF':¬ F' bx:=fun h=>by
   rcases kY.fp bx h with h | h
   ·exact hbF h
   ·have:=hlt fxZ;omega
  have hqY:=hqZ.keep hWZ kY (fun _ _ h=>h);have hWY:=UU hWZ kY.size;have hjY2:J ((List.range (j+1)).map D) F' Y:=by
   rw [QY,QT];exact hjY
  clear hjY hpre fZ fxZ hqZ hjZ hWZ hgZ hgF hbF kY;refine⟨((sizes.length:Nat):Int)-1,zk (by omega),?_⟩;have hgn:W.heap.size<=g:=by omega
  have hbg:bx≠g:=by omega
  refine⟨Nat,fun t=>⟨[(0,.func (.yield yl) #[] #[]),(1,At0 bx),(3,.slice (some ⟨g,0,none⟩) sizes.length sizes.length),(4,i64 (((sizes.length:Nat):Int)-1-(t:Nat)))],[]⟩,
   fun t V=>t<=sizes.length/\zh3 rs j t/\RowI V g ((List.replicate t 0++(zaT rs j).drop t).reverse)/\J ((List.range (j+1)).map D) F' V/\W.heap.size<=V.heap.size/\V.heap[bx]?=some (.cells #[.slice q sizes.length c] 128 (0,0))/\RowF zE W.heap.size F' V q sizes,fun t=>sizes.length-t,0,
   ⟨.cons rfl (.cons rfl (.cons rfl (.cons (by rw [Int.ofNat_zero,Int.sub_zero];rfl) .nil))),rfl⟩,⟨Gg _,zmx _ _,by rw [hD] at fY;exact fY,hjY2,hWY,fxY,hqY⟩,?_⟩
  clear fY fxY hqY hjY2 hWY;rintro t V ⟨ht,hc,fV,hjV,hWV,fxV,hqV⟩;dsimp only at ht hc fV hjV ⊢;have hLl:(zaT rs j).length=sizes.length:=by rw [zfH,hlen]
  refine DrawE.ord [] [0,1,2,3,4,5,6,7,8,9,10,11,12,13] (by kernel_rfl) (biE (fun hi=>?_) fun hi=>?_)
  ·have hi:(0:Int)<=((sizes.length:Nat):Int)-1-(t:Nat):=dT hi;have htl:t<sizes.length:=by omega
   obtain⟨i,hit⟩:∃ i,i+t+1=sizes.length:=⟨sizes.length-1-t,by omega⟩;have hii:((sizes.length:Nat):Int)-1-(t:Nat)=(i:Nat):=by omega
   rw [hii];obtain⟨d,hd⟩:∃ d,(zaT rs j)[t]?=some d:=⟨_,gE (by omega)⟩;obtain⟨n,hn⟩:∃ n,rs[t]?=some n:=⟨_,gE (by omega)⟩;have hil:i<sizes.length:=by omega
   have hsn:sizes[i]=n:=by
    have:=JK (l:=sizes) (i:=t) htl;rw [<- hrs,hn,show sizes.length-1-t=i by omega,gE hil] at this;exact (Ug this).symm
   have hnm:n∈sizes:=by rw [<- hsn];exact gM hil
   have hn1:=hm n hnm;have hn0:n≠0:=hr0 n (by rw [hrs];simpa using hnm);have zcI:=zt1 hd (i:=i) (by omega);have hdn:d<n:=by
    obtain⟨A,ns,k,c1,c2,c3,c4,c5⟩:=hc
    cases ns with
    | nil=>rw [c1,QM,JJ (by omega)] at hn;cases hn
    | cons m ns =>
     have hm':m=n:=by
      rw [c1,Jl (by omega),c2,UW] at hn;exact Ug hn
     have:=Gs (fun l=>l[0]?) c4;simp only [Kw,UR] at this;rw [hd] at this;have:d=k%m:=Ug this;rw [this,hm'];exact Gn _ (by omega)
   have hrl:((List.replicate t 0++(zaT rs j).drop t).reverse).length=sizes.length:=by simp;omega
   refine⟨i,rfl,hil,?_⟩;have hrc:(zjc (List.replicate t 0++(zaT rs j).drop t).reverse)[i*1]?=some (i64 d):=by
    rw [Gf,KU,zcI];rfl
   refine⟨i64 d,zc (za (hdr fV)) hrc,_,zc (za (hdr fxV)) (i:=0) rfl,?_⟩;obtain⟨bq,oq,hqe,hlq,hatq⟩:=hqV.row.at hil;subst hqe;refine⟨i,rfl,hil,i64 n,by rw [<- hsn];exact zc (zt (Gj _ V).drew (hatq i hil)) (i:=0) rfl,((n:Nat):Int)-1,zk (by omega),biE (fun he=>?_) fun he=>?_⟩
   ·have he:(d:Int)=(n:Int)-1:=dT he;have hrs2:=zmY hd (i:=i) (by omega) 0;refine⟨i,rfl,hil,zy k3 (hdr fV) (o:=0+i*1) (v:=i64 0) rfl rfl (by rw [QQ,hrl];omega) rfl fun V1 fV1 gV1 sV1=>⟨((sizes.length:Nat):Int)-1-((t+1:Nat):Int),(zk (by omega)).trans (by omega),?_⟩⟩;have gV2:V.grownBy V1 (some g):=zh (zi (Gj _ V).drew) gV1;have kV:KeepsG (fun k=>k=g) (fun _=>False) V V1:=⟨gV2.os,gV2.tape,gV2.output,gV2.size,fun k hk hf=>gV2.block k hk (fun e=>hf (by cases e;rfl)),fun k h=>h.elim⟩;have hsV:=gV2.size;refine⟨t+1,(cvE rfl rfl),⟨htl,zmz hr0 hc hn hd (by omega),?_,hJ.step _ _ _ _ hjV (StepG.grown gV2 (.inl hgn) hgF'),by omega,(gV2.block bx (hlt fxV) (by simpa using hbg)).trans fxV,⟨q9 hqV.row fun a ha=>gV2.block _ (by have:=(hqV.out a ha).1;omega) (by have:=(hqV.out a ha).1;simp;omega),hqV.out⟩⟩,zdc (by omega)⟩;show RowI V1 g _;rw [<- zpI,<- hrs2];rw [Gf,UY] at fV1;refine fV1.trans ?_;unfold zjc;rw [UO];rfl
   ·have he:¬ (d:Int)=(n:Int)-1:=dF he;have hstop:=zmy hr0 hc hn hd (by omega);have hmore:=zmA hr0 hc hn hd (by omega) hj;have hrs2:=zmY hd (i:=i) (by omega) (d+1);refine brN (Uj (by omega)) ⟨i,rfl,hil,i64 d,zc (za (hdr fV)) hrc,nxI (by omega) ⟨i,rfl,hil,zy k3 (hdr fV) (o:=0+i*1) (v:=i64 ((d+1:Nat):Int)) rfl rfl (by rw [QQ,hrl];omega) rfl fun V1 fV1 gV1 sV1=>?_⟩⟩;have gV2:V.grownBy V1 (some g):=zh (zi (Gj _ V).drew) gV1;have hsV:=gV2.size;refine⟨(j+1,F'),(cvE rfl rfl),⟨hmore,hJ.step _ _ _ _ hjV (StepG.grown gV2 (.inl hgn) hgF'),?_,hgF',by omega,(gV2.block bx (hlt fxV) (by simpa using hbg)).trans fxV,hbF',⟨q9 hqV.row fun a ha=>gV2.block _ (by have:=(hqV.out a ha).1;omega) (by have:=(hqV.out a ha).1;simp;omega),hqV.out⟩⟩,zdc (by omega)⟩;show RowI V1 g (D (j+1));rw [hD];show RowI V1 g (zaT rs (j+1)).reverse;rw [hstop,<- hrs2];rw [Gf,UY] at fV1;refine fV1.trans ?_;unfold zjc;rw [UO]
  ·have hi:¬ (0:Int)<=((sizes.length:Nat):Int)-1-(t:Nat):=dF hi;have hte:t=rs.length:=by omega
   rw [hte] at hc;have he:=zoW hc hj;refine brF (brE (Uu (by omega)) ?_);rw [he] at hjV;exact⟨⟨_,rfl⟩,.inl ⟨F',hJ.step _ _ _ _ hjV (.below (Gj _ V).drew)⟩⟩
 ·exact brF ⟨⟨_,rfl⟩,.inr ⟨_,F',hpre,hjY⟩⟩
end
def poG (ev:List Ev) (k:Nat):Nat->Nat:=fun i=>if i<k then zcv ev i else 0
theorem zm1 (ev:List Ev) (k:Nat):upd (poG ev k) k (zcv ev k)=poG ev (k+1):=by
 funext i;unfold upd poG;by_cases h:i=k
 ·rw [Gz h,Gz (by omega),h]
 ·rw [Gy h];by_cases h2:i<k
  ·rw [Gz h2,Gz (by omega)]
  ·rw [Gy h2,Gy (by omega)]
theorem zkp (ev:List Ev) (k:Nat):upd (poG ev k) k 0=poG ev k:=by
 funext i;unfold upd poG;by_cases h:i=k
 ·rw [Gz h,Gy (by omega)]
 ·rw [Gy h]
theorem zr0 (ev:List Ev):poG ev ev.length=zcv ev:=by
 funext i;unfold poG
 split
 ·rfl
 ·unfold zcv;rw [JJ (by omega)]
section
variable {p:OA} {cap:Nat} {ev:List Ev} {w:Wd}
theorem zdO (hl:SlR evE w p ev) (hn:ev.length<=48):CB 41 #[.slice p ev.length cap] w (.agg (zd (poR ev)).toArray):=by
 refine qa 47 [.slice p ev.length cap] (.s .p (.c .p .p)) Tryz.func41 ?_;obtain⟨L,hL⟩:=nm (w.heap.size);have hbL:=zz w (.cells (zd zp).toArray 30 (0,0));have hbb:Bw w (w.alloc (.cells (zd zp).toArray 30 (0,0))):=zba w _;have hbs:=wz w (.cells (zd zp).toArray 30 (0,0));refine⟨Unit,fun _=>⟨[(0,.slice p ev.length cap),(2,At0 L),(3,At0 (L+1))],[]⟩,fun _ X=>zN X L zp/\zN X (L+1) ⟨ev.length,fun _=>0⟩/\X.heap.size=L+2/\Bw w X,?_,?_⟩
 ·refine⟨zd ⟨ev.length,fun _=>0⟩,rfl,zn (X:=w.alloc (.cells (zd zp).toArray 30 (0,0))) (v := .agg (zd ⟨ev.length,fun _=>0⟩).toArray) k30 (ze _) rfl (zD _) fun V hbV fV sV=>?_⟩;rw [hbs] at fV sV;exact⟨(),⟨.cons rfl (.cons (by rw [hL];rfl) (.cons (by rw [hL,<- hbs];rfl) .nil)),rfl⟩,by rw [hL];exact zb hbV hbL,by rw [hL];exact fV,by rw [hL];exact sV,(zst hbb hbV)⟩
 rintro _ X ⟨f0,f1,sX,hbX⟩;refine⟨Nat,fun k=>⟨[(0,.slice p ev.length cap),(2,At0 L),(3,At0 (L+1)),(10,.slice p ev.length cap),(11,i64 ev.length),(12,i64 (k:Nat))],[]⟩,
  fun k V=>k<=ev.length/\zN V (L+1) ⟨ev.length,poG ev k⟩/\zN V L zp/\L+1<V.heap.size/\Bw w V,fun k=>ev.length-k,0,
  (cvE rfl rfl),⟨Gg _,f1,f0,by omega,hbX⟩,?_⟩
 rintro k V ⟨hk,fV,f0V,sV,hbV⟩;dsimp only at hk fV ⊢;refine biE (fun hc=>?_) fun hc=>?_
 ·have hc:(k:Int)<(ev.length:Int):=dT hc;have hkl:k<ev.length:=by omega
  obtain⟨e,he⟩:∃ e,ev[k]=e:=⟨_,rfl⟩;have hek:ev[k]?=some e:=by rw [<- he];exact gE hkl
  obtain⟨bp,op,rfl,hlp,hat⟩:=hl.at hkl;refine⟨k,rfl,hkl,evE.enc e,rfl,by rw [<- he];exact zt hbV (hat k hkl),nL hlp hbV.size,zn (X:=V) (v := .agg (evE.enc e).toArray) zd3 rfl rfl (Qj.2 fun u hu=>evE.one e u hu) fun Y hbY fY sY=>?_⟩;obtain⟨b,hb⟩:=nm (V.heap.size);rw [<- hb] at fY;have eb:some (Value.pointer (some ⟨V.heap.size,0,none⟩))=some (At0 b):=by rw [hb]
  have hwY:=zst hbV hbY;have hMb:L+1<b:=by omega
  have fYM:=zb hbY fV;have fYL:=zb hbY f0V;refine⟨i64 e.th,by rw [<- hb];exact zc (za fY) (i:=0) rfl,biE (fun h=>?_) fun h=>?_⟩
  ·have h:e.th = -1:=dT h;have hr:zcv ev k=0:=by
    unfold zcv;rw [hek];exact Gz h
   refine nxI (by omega) ⟨k+1,(cvE rfl rfl),⟨hkl,?_,fYL,by omega,hwY⟩,zdc (by omega)⟩;rw [<- zm1,hr,zkp];exact fYM
  have h:¬ e.th = -1:=dF h;have hr:zcv ev k=zg9 e.th (k+1) (ev.drop (k+1)) 0:=by
   unfold zcv;rw [hek];exact Gy h
  refine nxI (by omega) ?_;refine⟨Nat×Nat,fun s=>⟨[(0,.slice (some ⟨bp,op,none⟩) ev.length cap),(2,At0 L),(3,At0 (L+1)),(4,i64 (k:Nat)),(5,At0 b),(6,i64 (s.1:Nat)),(10,.slice (some ⟨bp,op,none⟩) ev.length cap),(11,i64 ev.length),(12,i64 (k:Nat))],[]⟩,
   fun s Z=>s.1<=ev.length/\zcv ev k=zg9 e.th s.1 (ev.drop s.1) s.2/\s.2<2^64/\zN Z (L+1) ⟨ev.length,upd (poG ev k) k s.2⟩/\zN Z L zp/\Z.heap[b]?=some (.cells (evE.enc e).toArray 158 (0,0))/\Bw w Z,fun s=>ev.length-s.1,(k+1,0),
   ⟨.cons rfl (.cons rfl (.cons rfl (.cons rfl (.cons eb (.cons rfl (.cons rfl (.cons rfl (.cons rfl .nil)))))))),rfl⟩,⟨hkl,hr,(by decide:0<2^64),by rw [zkp];exact fYM,fYL,fY,hwY⟩,?_⟩
  clear fY fYM fYL hwY hbY sY f0V fV hbV sV;rintro⟨j,s⟩ Z ⟨hj,hacc,hs,fM,fL,fb,hbZ⟩;dsimp only at hj hacc hs fM ⊢;refine biE (fun hc=>?_) fun hc=>?_
  ·have hc:(j:Int)<(ev.length:Int):=dT hc;have hjl:j<ev.length:=by omega
   have hdrop:ev.drop j=ev[j]::ev.drop (j+1):=(JD hjl).symm;rw [hdrop] at hacc;have hacc:zcv ev k=zg9 e.th (j+1) (ev.drop (j+1)) (if ev[j].th=e.th then s|||2^j else s):=hacc;refine DrawE.ord [] [0,1,2,3,4,5,6,7] (by kernel_rfl) ⟨j,rfl,hjl,i64 ev[j].th,zc (zt hbZ (hat j hjl)) (i:=0) rfl,i64 e.th,zc (za (hdr fb)) (i:=0) rfl,?_⟩;have hslot:(zd ⟨(ev.length:Int),upd (poG ev k) k s⟩)[1+k]?=some (s64 s):=by
    have:=zff ⟨(ev.length:Int),upd (poG ev k) k s⟩ (i:=k) (by omega);rw [this];show some (s64 (upd (poG ev k) k s k))=_;rw [ji]
   have hdZ:Bw Z Z.drew:=(Gj _ Z).drew;refine biE (fun he=>?_) fun he=>?_
   ·have he:ev[j].th=e.th:=dT he;rw [Gz he] at hacc;refine DrawE.ord [9] [0,1,2,3,4,5,6,7,8,9] (by kernel_rfl) ⟨k,rfl,by omega,?_⟩;refine⟨s64 s,by rw [Gf,UI];exact zc (za (hdr (hdr fM))) hslot,by omega,_,jU (e:=j) (by omega),_,zaj hs (z6 (by omega)),k,rfl,by omega,?_⟩;refine zy k27 (hdr (hdr fM)) (o:=0+1+k*1) (v:=s64 (s|||2^j)) rfl rfl (by rw [ze];omega) rfl fun S fS gS sS=>?_;rw [UY,Gf,zfe _ (show k<48 by omega)] at fS;have gS2:Z.grownBy S (some (L+1)):=zh (zi (Gj _ Z).drew) (zh (zi (Gj _ _).drew) gS);refine nxI (by omega) ⟨(j+1,s|||2^j),(cvE rfl rfl),⟨hjl,hacc,KY hs (z6 (by omega)),?_,(gS2.block L (hlt fL) (by simp)).trans fL,(gS2.block b (hlt fb) (by simp;omega)).trans fb,hbZ.trans (zq gS2 hbZ.size (by omega))⟩,zdc (by omega)⟩;have:upd (upd (poG ev k) k s) k (s|||2^j)=upd (poG ev k) k (s|||2^j):=by
     funext i;unfold upd
     split <;> rfl
    rw [this] at fS;exact fS
   ·have he:¬ ev[j].th=e.th:=dF he;rw [Gy he] at hacc;exact nxI (by omega) ⟨(j+1,s),(cvE rfl rfl),⟨hjl,hacc,hs,fM,fL,fb,(zst hbZ hdZ)⟩,zdc (by omega)⟩
  ·have hc:¬ (j:Int)<(ev.length:Int):=dF hc;have:j=ev.length:=by omega
   subst this;rw [Qm] at hacc;have hacc:zcv ev k=s:=hacc;refine nxI (by omega) ⟨k+1,(cvE rfl rfl),⟨hkl,?_,fL,hlt fM,hbZ⟩,zdc (by omega)⟩;rw [<- zm1,hacc];exact fM
 ·have hc:¬ (k:Int)<(ev.length:Int):=dF hc;obtain rfl:k=ev.length:=by omega
  rw [zr0] at fV;exact⟨zd (poR ev),ze _,za fV,hlt fV,zr (v := .agg (zd (poR ev)).toArray) k30 f0V rfl rfl (zD _) ⟨zd (poR ev),ze _,za (zm f0V),rfl,zj hbV (by omega) _⟩⟩
end
def zeX:UInt8->List UInt8->List UInt8
 | _,[]=>[]
 | p,y::r=>if y=p then zeX p r else y::zeX y r
def ded:List UInt8->List UInt8
 | []=>[]
 | x::r=>x::zeX x r
theorem zgc:∀ (A:List UInt8) (p x:UInt8),zeX p (A++[x])=if x=(p::A).getLast (by simp) then zeX p A else zeX p A++[x]
 | [],p,x=>by
  show (if x=p then [] else [x])=_;rfl
 | y::A,p,x=>by
  show (if y=p then zeX p (A++[x]) else y::zeX y (A++[x]))=_;have hl:(p::y::A).getLast (by simp)=(y::A).getLast (by simp):=List.getLast_cons (by simp);rw [hl];show _=if x=(y::A).getLast _ then (if y=p then zeX p A else y::zeX y A) else (if y=p then zeX p A else y::zeX y A)++[x]
  by_cases h:y=p
  ·subst h;rw [Gz rfl,Gz rfl,zgc A y x]
  ·rw [Gy h,Gy h,zgc A y x]
   split <;> rfl
theorem zqR {A:List UInt8} (h:A≠[]) (x:UInt8):ded (A++[x])=if x=A.getLast h then ded A else ded A++[x]:=by
 cases A with
 | nil=>exact GA rfl h
 | cons y A =>
  show y::zeX y (A++[x])=_;rw [zgc];show _=if x=(y::A).getLast h then y::zeX y A else y::zeX y A++[x]
  split <;> rfl
theorem zk7 {l:List UInt8} {i:Nat} (h0:0<i) (hi:i<l.length):ded (l.take (i+1))=if l[i]=l[i-1] then ded (l.take i) else ded (l.take i)++[l[i]]:=by
 rw [tsg hi];have hne:l.take i≠[]:=by
  intro e;have:=Gs List.length e;rw [Qu,QR] at this;omega
 rw [zqR hne];have:(l.take i).getLast hne=l[i-1]:=by
  have hlen:(l.take i).length-1=i-1:=by rw [Qu];omega
  simp only [List.getLast_eq_getElem,List.getElem_take,hlen]
 rw [this]
section
variable {B g cap:Nat} {l:List UInt8} {w:Wd}
theorem zfK {X:Wd} {sp:List Value} {M:List UInt8} (h:RowS zW 5 X g sp M) {i:Nat} (hi:i<M.length):X.cell? ⟨g,0+i*1,none⟩=some (u8 M[i]):=by
 have:=zc (h.at hi) (i:=0) (v:=u8 M[i]) rfl;exact this
theorem zlk {M:List UInt8} {i:Nat} {x:UInt8} (h:M[i]?=some x):∃ hi:i<M.length,M[i]=x:=by
 obtain⟨hi,e⟩:=Jq.1 h;exact⟨hi,e⟩
theorem zmI (ho:OwnS zW 5 B w (some ⟨g,0,none⟩) cap l) (hn:l.length<=1000000) :
  Calls PG 194 #[.slice (some ⟨g,0,none⟩) l.length cap] w fun e w'=>e = .returned (.slice (some ⟨g,0,none⟩) (ded l).length cap)/\OwnS zW 5 B w' (some ⟨g,0,none⟩) cap (ded l)/\w.grownBy w' (some g):=by
 refine zJ 61 [.slice (some ⟨g,0,none⟩) l.length cap] Tryz.func194 ?_;rcases ho.inv with ⟨h,_⟩ | ⟨g',cur,hg,hB,hcur,hlc,hcm,hcs,hct⟩
 ·cases h
 simp only [KZ,Uw,Gr] at hg;subst hg;have hcs:cur.size=cap:=by rw [hcs];exact Gf _
 obtain⟨sp,hsp⟩:=nm (cur.toList.drop l.length);have hct:cur.toList.take l.length=l.flatMap zW.enc:=by rw [<- hct];congr 1;exact (Gf _).symm
 have hR:RowS zW 5 w g sp l:=by
  unfold RowS;rw [hcur,<- hct,hsp,JQ]
 have hspl:l.length+sp.length=cap:=by
  have h1:cur.toList.length=cap:=by rw [Array.length_toList];exact hcs
  rw [hsp,Qt,h1];omega
 refine biE (fun h=>?_) fun h=>?_
 ·have h:(l.length:Int)<2:=dT h;have e:ded l=l:=by
   match l,h with
   | [],_=>rfl
   | [x],_=>rfl
   | x::y::r,h=>simp at h;omega
  rw [e];exact⟨rfl,ho,j5 w _⟩
 have h:¬ (l.length:Int)<2:=dF h;have hl2:2<=l.length:=by omega
 refine⟨Nat,fun k=>⟨[(0,.slice (some ⟨g,0,none⟩) l.length cap),(3,i64 (k:Nat))],[]⟩,fun k X=>1<=k/\k<=l.length/\ded (l.take k)=l.take k/\RowS zW 5 X g sp l/\w.grownBy X (some g),fun k=>l.length-k,1,
  (cvE rfl rfl),⟨Ge _,by omega,by
   cases l with
   | nil=>rfl
   | cons x r=>rfl,hR,j5 w _⟩,?_⟩
 rintro k X ⟨hk1,hkl,hdk,hRX,gX⟩;refine biE (fun hc=>?_) fun hc=>?_
 ·have hc:(k:Int)<(l.length:Int):=dT hc;have hk:k<l.length:=by omega
  refine DrawE.ord [] [0,1,2,3,4,5,6,7,8,9] (by kernel_rfl) ?_;have hRd:RowS zW 5 X.drew g sp l:=hRX;have gd:w.grownBy X.drew (some g):=zh gX ⟨rfl,rfl,rfl,Ge _,fun _ _ _=>rfl⟩;refine⟨k,rfl,hk,_,zfK hRd hk,((k-1:Nat):Int),(zk (by omega)).trans (by omega),k-1,rfl,by omega,?_⟩;refine⟨_,zfK hRd (by omega),?_⟩;have hnx:=zk7 (l:=l) hk1 hk;refine biE (fun he=>?_) fun he=>?_
  ·have he:l[k]=l[k-1]:=qG.1 (dT he);rw [Gz he] at hnx;refine⟨k,rfl,by show k<=l.length;omega,?_⟩;have hcb:je (some ⟨g,0,none⟩) cap k 1=some ⟨g,k,none⟩:=by
    unfold je;rw [Gy (by omega)];show some ((⟨g,0,none⟩:Addr).add (k*1))=_;rw [zbC,Gf,UY]
   refine⟨Nat×Nat×List UInt8,fun s=>⟨[(0,.slice (some ⟨g,0,none⟩) l.length cap),(3,i64 (s.2.1:Nat)),(4,.slice (some ⟨g,k,none⟩) (l.length-k) (cap-k)),(5,i64 (s.1:Nat))],[]⟩,
    fun s Y=>(1<=s.1/\k+s.1<=l.length)/\(s.2.1=(ded (l.take (k+s.1))).length/\s.2.1+1<=k+s.1)/\(s.2.2.length=l.length/\s.2.2.take s.2.1=ded (l.take (k+s.1))/\∀ j,s.2.1<=j->s.2.2[j]?=l[j]?)/\RowS zW 5 Y g sp s.2.2/\w.grownBy Y (some g),fun s=>l.length-s.1,(1,k,l),
    ⟨.cons rfl (.cons rfl (.cons (by rw [<- hcb];rfl) (.cons rfl .nil))),rfl⟩,⟨⟨Ge _,by show k+1<=_;omega⟩,⟨by show k=_;rw [hnx,hdk,Qu];omega,Ge _⟩,⟨rfl,by show l.take k=_;rw [hnx,hdk],fun j _=>rfl⟩,hRd,gd⟩,?_⟩
   rintro⟨m,q,M⟩ Y ⟨⟨hm1,hml⟩,⟨hq,hqm⟩,⟨hM,hMt,hMj⟩,hRY,gY⟩;dsimp only at hm1 hml hq hqm hM hMt hMj hRY ⊢;refine biE (fun hc=>?_) fun hc=>?_
   ·have hc:(m:Int)<((l.length-k:Nat):Int):=dT hc;have hi:k+m<l.length:=(by omega);have g1:M[k+m]?=some l[k+m]:=(by rw [hMj _ (by omega),gE hi]);have g0:M[k+m-1]?=some l[k+m-1]:=(by rw [hMj _ (by omega),gE (by omega)]);obtain⟨i1,e1⟩:=zlk g1;obtain⟨i0,e0⟩:=zlk g0;have nx:=zk7 (l:=l) (i:=k+m) (by omega) hi;refine DrawE.ord [] [0,1,2,3,4,5,6,7,8,9] (by kernel_rfl) ?_;have hRYd:RowS zW 5 Y.drew g sp M:=hRY;have gYd:w.grownBy Y.drew (some g):=zh gY ⟨rfl,rfl,rfl,Ge _,fun _ _ _=>rfl⟩;have a1:Y.drew.cell? ⟨g,k+m*1,none⟩=some (u8 l[k+m]):=by
     have:=zfK hRYd i1;rw [e1,Gf,UY] at this;rw [Gf];exact this
    have a0:Y.drew.cell? ⟨g,k+(m-1)*1,none⟩=some (u8 l[k+m-1]):=by
     have:=zfK hRYd i0;rw [e0,Gf,UY] at this;rw [Gf,<- Nat.add_sub_assoc hm1];exact this
    refine⟨m,rfl,by omega,?_⟩;refine⟨_,a1,((m-1:Nat):Int),(zk (by omega)).trans (by omega),m-1,rfl,by omega,?_⟩;refine⟨_,a0,biE (fun hne=>?_) fun hne=>?_⟩
    ·have hne:¬ l[k+m]=l[k+m-1]:=fun e=>by
      have hne:(!decide (((l[k+m]).toNat:Int)=((l[k+m-1]).toNat:Int)))=true:=hne;rw [e,Uu rfl] at hne;cases hne
     rw [Gy hne] at nx;refine⟨m,rfl,by omega,?_⟩;refine⟨_,a1,q,rfl,by omega,?_⟩;refine znW k5 rfl hRYd (i:=q) (by omega) l[k+m] fun Z hRZ gZ sZ=>nxI (by omega) (nxI (by omega) ⟨(m+1,q+1,M.set q l[k+m]),(cvE rfl rfl),⟨⟨by omega,by show k+(m+1)<=_;omega⟩,⟨?_,by show q+1+1<=k+(m+1);omega⟩,⟨by rw [QS];exact hM,?_,fun j hj=>?_⟩,hRZ,zh gYd gZ⟩,zdc (by omega)⟩)
     ·show q+1=(ded (l.take (k+(m+1)))).length;rw [<- UI,nx,lap,<- hq];rfl
     ·show (M.set q l[k+m]).take (q+1)=ded (l.take (k+(m+1)));rw [<- UI,nx,<- hMt];rw [tsg (by rw [QS];omega),List.take_set_of_le (Ge _),List.getElem_set_self]
     ·show (M.set q l[k+m])[j]?=l[j]?;have hj:q+1<=j:=hj;rw [JV (by omega)];exact hMj j (by omega)
    ·have heq:l[k+m]=l[k+m-1]:=by
      have hne:(!decide (((l[k+m]).toNat:Int)=((l[k+m-1]).toNat:Int)))=false:=hne;have h2:decide (((l[k+m]).toNat:Int)=((l[k+m-1]).toNat:Int))=true:=(by simpa using hne);exact qG.1 (dT h2)
     rw [Gz heq] at nx;exact nxI (by omega) ⟨(m+1,q,M),(cvE rfl rfl),⟨⟨by omega,by show k+(m+1)<=_;omega⟩,⟨by show q=(ded (l.take (k+(m+1)))).length;rw [<- UI,nx];exact hq,by show q+1<=k+(m+1);omega⟩,⟨hM,by show M.take q=ded (l.take (k+(m+1)));rw [<- UI,nx];exact hMt,hMj⟩,hRYd,gYd⟩,zdc (by omega)⟩
   ·have hc:¬ (m:Int)<((l.length-k:Nat):Int):=dF hc;have hkm:k+m=l.length:=(by omega);rw [hkm,Qw] at hq hMt;refine⟨q,rfl,by show q<=l.length;omega,?_⟩;have hcb2:je (some ⟨g,0,none⟩) cap q 1=some ⟨g,q,none⟩:=by
     unfold je;rw [Gy (by omega)];show some ((⟨g,0,none⟩:Addr).add (q*1))=_;rw [zbC,Gf,UY]
    have hfl:(M.flatMap zW.enc++sp).length=cap:=by
     rw [lap,qP,hM];show l.length*1+_=_;omega
    have hcl:SatR ((Builtin.clear_ #[72] 0 #[.slice (some ⟨g,q,none⟩) (l.length-q) (cap-q)]).run PG Y) fun _ Z=>Z.heap[g]?=some (.cells ((M.flatMap zW.enc++sp).take q++List.replicate (l.length-q) (u8 0)++(M.flatMap zW.enc++sp).drop (q+(l.length-q))).toArray 5 (0,0))/\Y.grownBy Z (some g) :=
     zoR Tryz.underlying72 k5 rfl rfl (by omega) hRY (by show q+(l.length-q)<=(M.flatMap zW.enc++sp).length;rw [hfl];omega) fun Z fZ gZ sZ=>⟨fZ,gZ⟩
    obtain⟨v,Z,hrun,fZ,gZ⟩:=hcl;refine⟨v,Z,by rw [hcb2];exact hrun,?_⟩;refine⟨q,rfl,by show q<=cap;omega,?_⟩;rw [<- hq];refine⟨by show Ending.returned (Value.slice (je (some ⟨g,0,none⟩) cap 0 1) (q-0) (cap-0))=_;rw [zdm];rfl,?_,zh gY gZ⟩;unfold OwnS World.ownsRow;refine⟨by rw [qP],.inr ⟨g,cap,_,rfl,hB,fZ,by omega,hcm,?_,?_⟩⟩
    ·show (List.length _)=cap*1;rw [lap,lap,Qu,JM,Qt,hfl];omega
    ·rw [<- hq];show ((M.flatMap zW.enc++sp).take q++List.replicate (l.length-q) (u8 0)++(M.flatMap zW.enc++sp).drop (q+(l.length-q))).take (q*1)=_;rw [Gf,KO,Jg (by rw [Qu,hfl];omega),List.take_take,Nat.min_self,Jg (by rw [qP,hM];show q<=l.length*1;omega),<- hMt];have:=JQ q M;have e2:M.flatMap zW.enc=(M.take q).flatMap zW.enc++(M.drop q).flatMap zW.enc:=(by rw [<- Kf,JQ]);rw [e2,QZ (by rw [qP,Qu];show min q M.length*1=q;omega)]
  ·have he:¬ l[k]=l[k-1]:=fun e=>(dF he) (by rw [e]);rw [Gy he,hdk] at hnx;exact nxI (by omega) ⟨k+1,(cvE rfl rfl),⟨by omega,hk,by rw [hnx,tsg hk],hRd,gd⟩,zdc (by omega)⟩
 ·have hc:¬ (k:Int)<(l.length:Int):=dF hc;obtain rfl:k=l.length:=by omega
  rw [Qw] at hdk;rw [hdk];refine⟨rfl,?_,gX⟩;unfold OwnS World.ownsRow;refine⟨by rw [qP],.inr ⟨g,cap,_,rfl,hB,hRX,by omega,hcm,?_,?_⟩⟩
  ·show (l.flatMap zW.enc++sp).length=cap*1;rw [lap,qP];show l.length*1+_=_;omega
  ·exact QZ (qP l)
end
def prE:Enc (Nat×Nat):=⟨fun x=>[u8 (UInt8.ofNat x.1),u8 (UInt8.ofNat x.2)],2,fun _=>rfl,by decide,fun a u hu=>by
 simp only [UG,Qv,Gu] at hu;rcases hu with rfl | rfl <;> rfl⟩
def zg5:Enc Nat:=⟨fun x=>[s32 x],1,fun _=>rfl,by decide,fun a u hu=>by
 simp only [UG,Qv,Gu] at hu;subst hu;rfl⟩
theorem ztS {s:Nat} {w:Wd} (hT:Tz32M w) (h0:s≠0) (h:s<2^32):Calls PG 267 #[s32 s] w fun e w'=>e = .returned (i64 (ctz s:Nat))/\w=w':=by
 refine zJ 14 [s32 s] Tryz.func267 ?_;obtain⟨h2,h3⟩:=zhM h0 h;obtain⟨t1,t2⟩:=zpj h3;refine brN (Uj (fun e=>h0 (by omega))) ⟨((2^32-s:Nat):Int),by unfold IntKind.wrap;simp only [IntKind.bits,IntKind.signed,Ul,Kt,Gt];omega,?_⟩;refine⟨((2^ctz s:Nat):Int),(zmO (a:=s) (b:=2^32-s) h (by omega)).trans (by rw [h2]),?_⟩;refine⟨((2^ctz s*125613361%4294967296:Nat):Int),by
  have e:(((2^ctz s:Nat):Int)*125613361)=((2^ctz s*125613361:Nat):Int):=by rw [QK];rfl
  rw [e];generalize 2^ctz s*125613361=n;unfold IntKind.wrap;simp only [IntKind.bits,IntKind.signed,Ul,Kt,Gt];omega,?_⟩
 refine⟨by decide,((2^ctz s*125613361%4294967296/2^27:Nat):Int),by
  generalize 2^ctz s*125613361%4294967296=n;show (n:Int).fdiv (2^(min (Int.toNat (27:Int)) IntKind.u32.bits))=_;rw [show min (Int.toNat (27:Int)) IntKind.u32.bits=27 from rfl,Int.fdiv_eq_ediv_of_nonneg _ (by decide)];omega,?_⟩
 refine⟨_,rfl,t1,?_⟩;have hv:(zij.map u8)[2^ctz s*125613361%4294967296/2^27]?=some (u8 (UInt8.ofNat (ctz s))):=by rw [KU,t2];rfl
 refine⟨u8 (UInt8.ofNat (ctz s)),by rw [Gf];exact zc hT hv,?_⟩;have e:(UInt8.ofNat (ctz s)).toNat=ctz s:=by rw [KH];omega
 exact⟨(ctz s:Int),by rw [e];exact zk (by omega),rfl,rfl⟩
def zad:Nat->List Nat->List (Nat×Nat)
 | _,[]=>[]
 | i,s::r=>(els s).map (fun a=>(a,i))++zad (i+1) r
theorem zhd (f:Nat->Nat):∀ (n i:Nat),zad i ((List.range' i n).map f)=(List.range' i n).flatMap fun i=>(els (f i)).map fun a=>(a,i)
 | 0,i=>rfl
 | n+1,i=>by
  rw [List.range'_succ,UF,KS];show (els (f i)).map _++zad (i+1) _=_;rw [zhd f n (i+1)]
theorem zfV (f:Nat->Nat) (n:Nat):zad 0 ((List.range n).map f)=zhc f n:=by
 unfold zhc;rw [List.range_eq_range'];exact zhd f n 0
theorem zl1 (l:List Nat) (x:Nat):∀ i,zad i (l++[x])=zad i l++(els x).map (fun a=>(a,i+l.length)):=by
 induction l with
 | nil=>intro i;show (els x).map _++[]=_;rw [QM];rfl
 | cons y r ih =>
  intro i;show (els y).map _++zad (i+1) (r++[x])=((els y).map _++zad (i+1) r)++_;rw [ih,KO,Qs];congr 3;funext a;congr 1;omega
theorem ziA:∀ (l:List Nat) (i:Nat),(zad i l).length<=64*l.length
 | [],_=>Gg _
 | x::r,i=>by
  show ((els x).map _++zad (i+1) r).length<=_;rw [lap,QQ,Qs];have h1:=ziA r (i+1);have h2:=zfF x;omega
section
variable {p:OA} {cap:Nat} {l:List Nat} {w:Wd}
theorem zjh (hl:SlR zg5 w p l) (hn:l.length<=24) (hb:∀ x∈l,x<2^32) (hT:Tz32M w) :
  Calls PG 230 #[.slice p l.length cap] w fun e w'=>(∃ q c,e = .returned (.slice q (zad 0 l).length c)/\OwnS prE 326 w.heap.size w' q c (zad 0 l))/\Bw w w':=by
 refine zJ 30 [.slice p l.length cap] Tryz.func230 ?_;refine⟨Nat×OA×Nat,fun s=>⟨[(3,.slice s.2.1 (zad 0 (l.take s.1)).length s.2.2),(6,.slice p l.length cap),(7,i64 l.length),(8,i64 (s.1:Nat))],[]⟩,
  fun s X=>s.1<=l.length/\OwnS prE 326 w.heap.size X s.2.1 s.2.2 (zad 0 (l.take s.1))/\Bw w X,fun s=>l.length-s.1,(0,none,0),
  (cvE rfl rfl),⟨Gg _,OwnS.nil,Gj _ _⟩,?_⟩
 rintro⟨k,q,c⟩ X ⟨hk,ho,hbX⟩;dsimp only at hk ho ⊢;refine biE (fun hc=>?_) fun hc=>?_
 ·have hc:(k:Int)<(l.length:Int):=dT hc;have hkl:k<l.length:=by omega
  obtain⟨b,o,hp,hlt',hat⟩:=(hl.below hbX).at hkl;have ep:some (Value.slice p l.length cap)=some (Value.slice (some ⟨b,o,none⟩) l.length cap):=by rw [hp]
  subst hp;refine⟨k,rfl,hkl,s32 l[k],by have:=zc (hat k hkl) (i:=0) (v:=s32 l[k]) rfl;exact this,?_⟩;have hlk:=hb _ (gM hkl);have htl:(l.take k).length=k:=by rw [Qu];omega
  have hpl:=ziA (l.take k) 0;have tk:l.take (k+1)=l.take k++[l[k]]:=tsg hkl;refine⟨Nat×List (Nat×Nat)×OA×Nat,fun s=>⟨[(3,.slice s.2.2.1 s.2.1.length s.2.2.2),(4,i64 (k:Nat)),(5,s32 s.1),(6,.slice (some ⟨b,o,none⟩) l.length cap),(7,i64 l.length),(8,i64 (k:Nat))],[]⟩,
   fun s Y=>(zad 0 (l.take (k+1))=s.2.1++(els s.1).map (fun a=>(a,k))/\s.1<2^32/\s.2.1.length+(els s.1).length<=64*(k+1))/\OwnS prE 326 w.heap.size Y s.2.2.1 s.2.2.2 s.2.1/\Bw w Y,fun s=>s.1,(l[k],zad 0 (l.take k),q,c),
   (cvE rfl rfl),⟨⟨by rw [tk,zl1,htl,UY],hlk,by have:=zfF l[k];show (zad 0 (l.take k)).length+(els l[k]).length<=_;omega⟩,ho,hbX⟩,?_⟩
  rintro⟨s,m,q,c⟩ Y ⟨⟨he,hs,hlen⟩,ho,hbY⟩;dsimp only at he hs hlen ho ⊢;refine biE (fun hc=>?_) fun hc=>?_
  ·have hc:(!decide ((s:Int)=0))=true:=hc;have h0:s≠0:=fun e=>by
    subst e;exact GA hc (by decide)
   have hs64:s<2^64:=nL hs (by decide);obtain⟨e1,e2,_,_⟩:=jO h0 hs64;obtain⟨_,hc32⟩:=zhM h0 hs;rw [e1] at hlen;refine cmo (ztS (hT.below hbY) h0 hs) ?_;rintro e _ ⟨rfl,rfl⟩;refine⟨_,w8N _,_,w8N _,prE.enc (ctz s,k),rfl,⟨by decide,by decide,rfl⟩,prE.enc (ctz s,k),zbA rfl rfl,?_⟩;have hba:Bw Y (Y.alloc (.cells (prE.enc (ctz s,k)).toArray 326)):=zba _ _;simp only [Qs] at hlen;refine jr (E:=prE) (T:=326) (B:=w.heap.size) (l:=m) (news:=[(ctz s,k)]) (cap:=c) (m:=1) Tryz.underlying239 zwx rfl rfl rfl (ho.below hba) rfl (qH prE (ctz s,k)) (by have:=hbY.size;have:=hba.size;omega) (by omega) (by show (m.length+1)*2<=_;omega) ?_;intro p2 c2 Z oZ gZ hbZ hat2;refine⟨((s-1:Nat):Int),(w32 (a:=(s:Int)-1) (by omega)).trans (by omega),((qY s:Nat):Int),zmO (a:=s) (b:=s-1) hs (by omega),(qY s,m++[(ctz s,k)],p2,c2),(cvE rfl rfl),⟨⟨?_,by show qY s<_;omega,?_⟩,oZ,((zst hbY hba)).trans hbZ⟩,e2⟩
   ·rw [he,e1,UF,KO];rfl
   ·simp only [lap,Qs,QR];omega
  ·have hc:(!decide ((s:Int)=0))=false:=hc;have h0:s=0:=by
    have h1:decide ((s:Int)=0)=true:=(by simpa using hc);exact UC (dT h1)
   subst h0;rw [zce,UN,QM] at he;exact nxI (by omega) ⟨(k+1,q,c),⟨.cons (by rw [he];rfl) (.cons rfl (.cons rfl (.cons rfl .nil))),rfl⟩,⟨hkl,by show OwnS prE _ _ _ _ _ (zad 0 (l.take (k+1)));rw [he];exact ho,hbY⟩,zdc (by omega)⟩
 ·have hc:¬ (k:Int)<(l.length:Int):=dF hc;obtain rfl:k=l.length:=by omega
  rw [Qw] at ho;refine⟨⟨q,c,by rw [Qw];rfl,ho⟩,hbX⟩
theorem ziY {p:OA} {cap:Nat} {l:List Ev} {w:Wd} (hl:SlR evE w p l) (hn:l.length<=100000) (hc:p=none->cap=0) :
  Calls PG 143 #[.slice p l.length cap] w fun e w'=>(∃ q c,e = .returned (.slice q l.length c)/\OwnS evE 158 w.heap.size w' q c l)/\Bw w w':=by
 refine zJ 8 [.slice p l.length cap] Tryz.func143 ?_;refine⟨_,fun w=>zuJ Tryz.underlying25 _ _ p l.length cap w,?_⟩
 cases p with
 | none =>
  refine brT ?_;have e:=hl.none;subst e;exact⟨⟨none,0,rfl,OwnS.nil⟩,Gj _ _⟩
 | some a =>
  refine brF ⟨⟨by decide,by decide,rfl⟩,[],rfl,?_⟩;have hb0:Bw w (w.alloc (.cells #[] 158)):=zba w _;refine zgX (E:=evE) (T:=158) (B:=w.heap.size) (l:=[]) (news:=l) (cap:=0) Tryz.underlying25 zd3 rfl rfl rfl zhf rfl (hl.below hb0) (fun h=>by cases h) hb0.size (by simp;omega) (by show (0+l.length)*16<=_;omega) ?_;intro p' cap' w' ho hg hbw;exact⟨⟨p',cap',rfl,ho⟩,hb0.trans hbw⟩
end
theorem zeW {p:OA} {cap:Nat} {l:List UInt8} {w:Wd} (hl:SlR zW w p l) (h1:1<=l.length) (h12:l.length<=12) (hs:zeF l=true) :
  Calls PG 135 #[.slice p l.length cap] w fun e w'=>(∃ q c,e = .returned (.slice q (ded l).length c)/\OwnS zW 5 w.heap.size w' q c (ded l))/\Bw w w':=by
 refine zJ 9 [.slice p l.length cap] Tryz.func135 ?_;refine cmo (zlz hl (by omega) (fun e=>by subst e;have:=hl.none;subst this;simp at h1)) ?_;rintro e X ⟨⟨q,c,rfl,ho⟩,hbX⟩;rcases ho.inv with ⟨_,_,h0⟩ | ⟨g,cur,rfl,hB,_⟩
 ·rw [h0] at h1;simp at h1
 refine cmo (zte ho.row h12 hs) ?_;rintro e Y ⟨rfl,hbY⟩;have hbY':Bw X Y:=⟨hbY.os,hbY.tape,hbY.output,hbY.size,hbY.block⟩;refine cmo (zmI (ho.below hbY) (by omega)) ?_;rintro e Z ⟨rfl,oZ,gZ⟩;have hwX:=hbX.size;exact⟨⟨_,_,rfl,oZ⟩,(hbX.trans (hbY.mono hwX)).trans (zq gZ (UU hwX hbY.size) hB)⟩
def zh9 (P:PathD) (q1:OA) (c1:Nat) (q2:OA) (c2:Nat) (q3:OA) (c3:Nat) (q4:OA) (c4:Nat):List Value :=
 [.slice q1 P.ev.length c1,.slice q2 P.data.length c2,.slice q3 P.ctrl.length c3,.slice q4 P.rmw.length c4]++seg 8 (fun i=>u8 (P.regs i))
theorem zkk (P:PathD) (q1 c1 q2 c2 q3 c3 q4 c4):(zh9 P q1 c1 q2 c2 q3 c3 q4 c4).all Value.oneCell'=true:=by
 unfold zh9;rw [QL,zbN fun _=>rfl];rfl
theorem zkl (P:PathD) (q1 c1 q2 c2 q3 c3 q4 c4):(zh9 P q1 c1 q2 c2 q3 c3 q4 c4).length=12:=by
 unfold zh9;rw [lap,zM];rfl
def zvl (R:RunD):Prop:=∀ i,i<R.many->R.data i<2^32/\R.ctrl i<2^32/\R.att i<2^32
section
variable {R:RunD} {b:Nat} {w:Wd}
theorem zn3 {X:Wd} {o n m:Nat} {f:Nat->Nat} (hb:b<X.heap.size) (h:∀ i,i<n->X.cell? ⟨b,o+i,none⟩=some (s32 (f i))) (hm:m<=n):SlR zg5 X (some ⟨b,o,none⟩) ((List.range m).map f):=by
 refine .inr ⟨b,o,rfl,hb,fun i hi=>?_⟩;have hi:i<m:=by simpa using hi
 rw [Qq,Ky];refine qQ fun j v hv=>?_
 cases j with
 | zero =>
  have hv:s32 (f i)=v:=by simpa [zg5] using hv
  rw [<- hv];show X.cell? ⟨b,o+i*1+0,none⟩=_;rw [Gf,UR];exact h i (by omega)
 | succ j=>simp [zg5] at hv
theorem zsK {X:Wd} {m:Nat} (f:zaW X b R) (hm:m<=24):SlR evE X (some ⟨b,19,none⟩) ((List.range m).map R.ev):=by
 have hc:=zmV f;refine .inr ⟨b,19,rfl,hlt f,fun i hi=>?_⟩;have hi:i<m:=by simpa using hi
 rw [Qq,Ky,<- zqK R.ev (show i<24 by omega)];exact zV hc
theorem zua (f:zaW w b R) (hm:R.many<=24) (hB:zvl R) (hT:Tz32M w) :
  Calls PG 197 #[AtR b] w fun e w'=>(∃ q1 c1 q2 c2 q3 c3 q4 c4,e = .returned (.agg (zh9 (zcS R) q1 c1 q2 c2 q3 c3 q4 c4).toArray)/\OwnS evE 158 w.heap.size w' q1 c1 (zcS R).ev/\OwnS prE 326 w.heap.size w' q2 c2 (zcS R).data/\OwnS prE 326 w.heap.size w' q3 c3 (zcS R).ctrl/\OwnS prE 326 w.heap.size w' q4 c4 (zcS R).rmw)/\Bw w w':=by
 refine zJ 44 [AtR b] Tryz.func197 ?_;obtain⟨Z0,hZ0⟩:∃ Z0:List Value,Z0=zh9 ⟨[],[],[],[],fun _=>0⟩ none 0 none 0 none 0 none 0:=⟨_,rfl⟩;have f0:=zz w (.cells Z0.toArray 241);have hb0:Bw w (w.alloc (.cells Z0.toArray 241)):=zba w _;obtain⟨X,hX⟩:=nm ((w.alloc (.cells Z0.toArray 241)).drew);have hbX:Bw w X:=by rw [hX];exact hb0.drew
 have f0X:X.heap[w.heap.size]?=some (.cells Z0.toArray 241 (0,0)):=by rw [hX];exact f0
 have fX:=zb hbX f;have hX':(w.alloc (.cells (#[.slice none 0 0,.slice none 0 0,.slice none 0 0,.slice none 0 0,.int .u8 0,.int .u8 0,.int .u8 0,.int .u8 0,.int .u8 0,.int .u8 0,.int .u8 0,.int .u8 0]:Array Value) 241)).drew=X:=by rw [hX,hZ0];rfl
 refine DrawE.ord [41] [0,1,2,3,4,5,6,7,9,10,11,12,13,14,15,16,18,19,20,21,22,23,24,25,27,28,29,30,31,32,33,34,36,37,38,39,8,17,26,35,40,41] (by kernel_rfl) ?_;have cut:∀ (o e:Nat),Value.slice (je (some ⟨b,0+o,none⟩) 24 0 e) (R.many-0) (24-0) = .slice (some ⟨b,o,none⟩) R.many 24:=fun o e=>by rw [zdm,UY];rfl
 have lm:∀ {α:Type} (g:Nat->α),((List.range R.many).map g).length=R.many:=fun g=>by rw [QQ,KV]
 have hbx:=hlt fX;have sd:∀ {o:Nat} {g:Nat->Nat},(∀ i,i<24->(jc R)[o+i]?=some (s32 (g i)))->SlR zg5 X (some ⟨b,o,none⟩) ((List.range R.many).map g):=fun {o g} h=>zn3 hbx (fun i hi=>by
  have:=zc (za fX) (h i hi);rw [UY] at this;exact this) hm
 rw [hX'];refine⟨_,zc (za fX) (i:=18) (zb3 R),R.many,rfl,hm,_,zc (za fX) (i:=18) (zb3 R),R.many,rfl,hm,_,zc (za fX) (i:=18) (zb3 R),R.many,rfl,hm,_,zc (za fX) (i:=18) (zb3 R),R.many,rfl,hm,seg 8 (fun i=>u8 (R.regs i)),zM _ _,?_,hbx,?_⟩
 ·have:=zV (n:=1) (m:=8) (za fX);have e:((jc R).toArray.toList.drop 1).take 8=seg 8 (fun i=>u8 (R.regs i)):=by
   show (seg 8 (fun i=>u8 (R.regs i))++_).take 8=_;exact QZ (zM _ _)
  rw [e] at this;exact this
 have c1:=ziY (w:=X) (cap:=24) (zsK fX hm) (by rw [lm];omega) (fun h=>by cases h);rw [lm,<- cut 19 7] at c1;refine cmo c1 ?_;rintro e Y1 ⟨⟨q1,k1,rfl,o1⟩,hb1⟩;refine⟨hb1,?_⟩;have hw1:=zst hbX hb1;have c2:=zjh (w:=Y1) (cap:=24) ((sd (o:=187) (g:=R.data) fun i hi=>zpD R hi).below hb1) (by rw [lm];exact hm) (fun x hx=>by
  obtain⟨i,hi,rfl⟩:=UP.1 hx;exact (hB i (Ur.1 hi)).1) (hT.below hw1)
 rw [lm,<- cut 187 1,zfV] at c2;refine cmo c2 ?_;rintro e Y2 ⟨⟨q2,k2,rfl,o2⟩,hb2⟩;refine⟨hb2,?_⟩;have hx2:=zst hb1 hb2;have hw2:=zst hbX hx2;have c3:=zjh (w:=Y2) (cap:=24) ((sd (o:=211) (g:=R.ctrl) fun i hi=>zpE R hi).below hx2) (by rw [lm];exact hm) (fun x hx=>by
  obtain⟨i,hi,rfl⟩:=UP.1 hx;exact (hB i (Ur.1 hi)).2.1) (hT.below hw2)
 rw [lm,<- cut 211 1,zfV] at c3;refine cmo c3 ?_;rintro e Y3 ⟨⟨q3,k3,rfl,o3⟩,hb3⟩;refine⟨hb3,?_⟩;have hx3:=zst hx2 hb3;have hw3:=zst hbX hx3;have c4:=zjh (w:=Y3) (cap:=24) ((sd (o:=235) (g:=R.att) fun i hi=>zrO R hi).below hx3) (by rw [lm];exact hm) (fun x hx=>by
  obtain⟨i,hi,rfl⟩:=UP.1 hx;exact (hB i (Ur.1 hi)).2.2) (hT.below hw3)
 rw [lm,<- cut 235 1,zfV] at c4;refine cmo c4 ?_;rintro e Y4 ⟨⟨q4,k4,rfl,o4⟩,hb4⟩;refine⟨hb4,?_⟩;have hx4:=zst hx3 hb4;have hw4:=zst hbX hx4;have le1:(zcS R).ev.length=R.many:=lm _;obtain⟨cs,hcs⟩:=nm (zh9 (zcS R) q1 k1 q2 k2 q3 k3 q4 k4);refine⟨cs,by rw [hcs];unfold zh9;rw [le1];rfl,?_⟩;have f4:=zb hx4 f0X;have hone:cs.all Value.oneCell'=true:=by rw [hcs];exact zkk ..
 have hlen:cs.length=12:=by rw [hcs];exact zkl ..
 refine zr (v := .agg cs.toArray) zoA f4 hlen (by rw [hZ0];rfl) hone ?_;have f5:=zm (cs':=(Value.agg cs.toArray).cells) f4;have hs:w.heap.size<=X.heap.size:=hbX.size;have keep:∀ {α:Type} {E:Enc α} {T B c:Nat} {p:OA} {l:List α},X.heap.size<=B->OwnS E T B Y4 p c l->OwnS E T w.heap.size (Y4.setRow w.heap.size (Value.agg cs.toArray).cells) p c l:=fun {α E T B c p l} hB o=>by
  refine OwnS.lower (o.kept (qA Y4 w.heap.size _) fun g hg e=>?_) (UU hs hB);rcases o.inv with ⟨h,_⟩ | ⟨g',cur,h,h2,_⟩
  ·rw [h] at hg;cases hg
  ·rw [h] at hg;simp only [KZ,Uw,Gr] at hg e;have:=hlt f0X;omega
 have n1:=hb1.size;have n2:=hb2.size;have n3:=hb3.size;refine⟨cs,hlen,za f5,⟨q1,k1,q2,k2,q3,k3,q4,k4,by rw [hcs];rfl,keep (Ge _) (((o1.below hb2).below hb3).below hb4),keep (by omega) ((o2.below hb3).below hb4),keep (by omega) (o3.below hb4),keep (by omega) o4⟩,zj hw4 (Ge _) _⟩
end
theorem zab (c : UInt8) (w : Wd) : Calls PG 239 #[u8 c] w fun e w' => e = .returned (i64 (qe c)) ∧ w = w' := by
  refine zhU (S := sg 47) (zbF _) (args := [u8 c]) (.s .p (.c .p .p)) Tryz.func239 rfl rfl (JS rfl) rfl ?_
  refine ⟨Unit, fun _ => ⟨[(0, u8 c)], []⟩, fun _ X => zgt c = false ∧ zhy c = false ∧ w = X, ?_, ?_⟩
  · repeat first
      | exact ⟨(), ⟨.cons rfl .nil, rfl⟩, by unfold zgt; simp only [*]; rfl, by unfold zhy; simp only [*]; rfl, rfl⟩
      | exact ⟨by
          first
          | (have e : zgt c = true := by unfold zgt; simp only [*]; rfl
             unfold qe; rw [e]; rfl)
          | (have e1 : zgt c = false := by unfold zgt; simp only [*]; rfl
             have e2 : zhy c = true := by unfold zhy; simp only [*]; rfl
             unfold qe; rw [e1, e2]; rfl), rfl⟩
      | refine brT ?_
      | refine brF ?_
      | refine brE (by assumption) ?_
      | refine brN (by assumption) ?_
      | refine Gp (fun h => ?_) (fun h => ?_)
  rintro _ _ ⟨h1, h2, rfl⟩
  have key : qe c = (bif eqB c 32 || eqB c 9 then 1 else bif eqB c 10 then 2 else bif eqB c 95 then 5 else bif eqB c 35 then 7 else bif znc c then 6 else 0) := by unfold qe; rw [h1, h2]; rfl
  rw [key]
  clear key h1 h2
  unfold znc
  refine Gp (fun h => ?_) (fun h => ?_)
  · have h : eqB c 32 = true := h
    refine brE h ?_
    exact ⟨by rw [h]; rfl, rfl⟩
  have h32 : eqB c 32 = false := h
  refine Gp (fun h => ?_) (fun h => ?_)
  · have h : eqB c 9 = true := h
    exact ⟨by rw [h32, h]; rfl, rfl⟩
  have h9 : eqB c 9 = false := h
  refine Gp (fun h => ?_) (fun h => ?_)
  · have h : eqB c 10 = true := h
    exact ⟨by rw [h32, h9, h]; rfl, rfl⟩
  have h10 : eqB c 10 = false := h
  refine Gp (fun h => ?_) (fun h => ?_)
  · have h : eqB c 95 = true := h
    exact ⟨by rw [h32, h9, h10, h]; rfl, rfl⟩
  have h95 : eqB c 95 = false := h
  refine Gp (fun h => ?_) (fun h => ?_)
  · have h : eqB c 35 = true := h
    exact ⟨by rw [h32, h9, h10, h95, h]; rfl, rfl⟩
  have h35 : eqB c 35 = false := h
  rw [h32, h9, h10, h95, h35]
  refine Gp (fun h => ?_) (fun h => ?_)
  · have h : eqB c 61 = true := h
    refine brE h ?_
    exact ⟨by rw [h]; rfl, rfl⟩
  have h61 : eqB c 61 = false := h
  refine Gp (fun h => ?_) (fun h => ?_)
  · have h : eqB c 43 = true := h
    refine brE h ?_
    exact ⟨by rw [h61, h]; rfl, rfl⟩
  have h43 : eqB c 43 = false := h
  refine Gp (fun h => ?_) (fun h => ?_)
  · have h : eqB c 45 = true := h
    refine brE h ?_
    exact ⟨by rw [h61, h43, h]; rfl, rfl⟩
  have h45 : eqB c 45 = false := h
  refine Gp (fun h => ?_) (fun h => ?_)
  · have h : eqB c 94 = true := h
    refine brE h ?_
    exact ⟨by rw [h61, h43, h45, h]; rfl, rfl⟩
  have h94 : eqB c 94 = false := h
  refine Gp (fun h => ?_) (fun h => ?_)
  · have h : eqB c 38 = true := h
    refine brE h ?_
    exact ⟨by rw [h61, h43, h45, h94, h]; rfl, rfl⟩
  have h38 : eqB c 38 = false := h
  refine Gp (fun h => ?_) (fun h => ?_)
  · have h : eqB c 124 = true := h
    refine brE h ?_
    exact ⟨by rw [h61, h43, h45, h94, h38, h]; rfl, rfl⟩
  have h124 : eqB c 124 = false := h
  refine Gp (fun h => ?_) (fun h => ?_)
  · have h : eqB c 33 = true := h
    refine brE h ?_
    exact ⟨by rw [h61, h43, h45, h94, h38, h124, h]; rfl, rfl⟩
  have h33 : eqB c 33 = false := h
  refine Gp (fun h => ?_) (fun h => ?_)
  · have h : eqB c 40 = true := h
    refine brE h ?_
    exact ⟨by rw [h61, h43, h45, h94, h38, h124, h33, h]; rfl, rfl⟩
  have h40 : eqB c 40 = false := h
  refine Gp (fun h => ?_) (fun h => ?_)
  · have h : eqB c 41 = true := h
    refine brE h ?_
    exact ⟨by rw [h61, h43, h45, h94, h38, h124, h33, h40, h]; rfl, rfl⟩
  have h41 : eqB c 41 = false := h
  refine Gp (fun h => ?_) (fun h => ?_)
  · have h : eqB c 58 = true := h
    refine brE h ?_
    exact ⟨by rw [h61, h43, h45, h94, h38, h124, h33, h40, h41, h]; rfl, rfl⟩
  have h58 : eqB c 58 = false := h
  refine Gp (fun h => ?_) (fun h => ?_)
  · have h : eqB c 60 = true := h
    exact ⟨by rw [h61, h43, h45, h94, h38, h124, h33, h40, h41, h58, h]; rfl, rfl⟩
  have h60 : eqB c 60 = false := h
  exact ⟨by rw [h61, h43, h45, h94, h38, h124, h33, h40, h41, h58, h60]; rfl, rfl⟩
theorem zkS (c : UInt8) (w : Wd) : Calls PG 241 #[u8 c] w fun e w' => e = .returned (.bool (qz c)) ∧ w = w' := by
  refine q8 (S := sg 16) (zbF _) (args := [u8 c]) Tryz.func241 rfl rfl (JS rfl) rfl ?_
  refine Gk (zab c w) ?_
  rintro e _ ⟨rfl, rfl⟩
  have e3 : ∀ k : Nat, decide ((qe c : Int) = (k : Int)) = decide (qe c = k) := fun k => by rw [QH]; omega
  refine Gp (fun h => ?_) (fun h => ?_)
  · have h : decide (qe c = 3) = true := (e3 3).symm.trans h
    refine Gp (fun _ => ?_) (fun h => by cases h)
    exact ⟨rb (by unfold qz; rw [h]; rfl), rfl⟩
  have h3 : decide (qe c = 3) = false := (e3 3).symm.trans h
  refine Gp (fun h => ?_) (fun h => ?_)
  · have h : decide (qe c = 4) = true := (e3 4).symm.trans h
    exact ⟨rb (by unfold qz; rw [h3, h]; rfl), rfl⟩
  have h4 : decide (qe c = 4) = false := (e3 4).symm.trans h
  exact ⟨rb (by unfold qz; rw [h3, h4]; exact e3 5), rfl⟩
theorem zb2 {p:UInt8->Bool} {s:List UInt8} {k:Nat} (h:k<s.length):jS p (s.drop k)=if p s[k] then jS p (s.drop (k+1))+1 else 0:=by
 rw [Jo h];rfl
theorem zgL {p:UInt8->Bool} {s:List UInt8} {k:Nat} (h:s.length<=k):jS p (s.drop k)=0:=by
 rw [JA h];rfl
theorem zkT {p:UInt8->Bool} (s:List UInt8) (k:Nat) (h:k<=s.length):k+jS p (s.drop k)<=s.length:=by
 have:=zj8 p (s.drop k);rw [Qt] at this;omega
theorem zcy {a b:Nat}:decide ((a:Int)=(b:Int))=decide (a=b):=by rw [QH];omega
theorem zc0 {s:List UInt8} {k:Nat} (h:k<s.length):(bs s).data.toList[k]?=some s[k]:=by
 show s[k]?=_;exact gE h
theorem zjk {g a:Nat} {s:List UInt8} {w:Wd} (h:zw w ⟨g,0,none⟩ [zu s,i64 a]) :
  CB 283 #[At0 g] w (.bool (decide (s.length<=a))):=by
 refine zJ 13 [At0 g] Tryz.func283 ?_;refine DrawE.ord [] [0,1,2,3,4,5,6,7,8,9,10] (by kernel_rfl) ?_;have h:zw w.drew ⟨g,0,none⟩ [zu s,i64 a]:=zQ rfl h;refine⟨_,zc h (i:=1) rfl,_,zc h (i:=0) rfl,rb ?_,(Gj _ _).drew⟩;show decide ((s.length:Int)<=(a:Int))=_;rw [QH];omega
theorem znE {g a:Nat} {s:List UInt8} {w:Wd} (h:zw w ⟨g,0,none⟩ [zu s,i64 a]) (hg:g<w.heap.size) :
  CB 281 #[At0 g] w (.bool (zae s a)):=by
 refine zJ 18 [At0 g] Tryz.func281 ?_;refine DrawE.ord [] [0,1,2,3,4,5,6,7,8,9,10,11,12,13,14,15] (by kernel_rfl) ?_;have h:zw w.drew ⟨g,0,none⟩ [zu s,i64 a]:=zQ rfl h;refine cmo (zjk h) ?_;rintro e V ⟨rfl,hb⟩;refine⟨hb,?_⟩;have hw:=(Gj w.heap.size w).drew.trans hb;have hV:=jf hb hg h;refine biE (fun ho=>?_) fun ho=>?_
 ·have ho:s.length<=a:=dT ho;have:zae s a=true:=by unfold zae;rw [JJ ho]
  exact⟨rb this.symm,hw⟩
 ·have ho:¬ s.length<=a:=dF ho;have hl:a<s.length:=by omega
  refine⟨_,zc hV (i:=0) rfl,_,zc hV (i:=1) rfl,a,rfl,hl,s[a],zc0 hl,cmo (zab _ _) ?_⟩;rintro e _ ⟨rfl,rfl⟩;refine⟨Gj _ _,?_⟩;have:zae s a=decide (qe s[a]=2):=by unfold zae;rw [gE hl]
  exact⟨rb (by rw [this];exact zcy),hw⟩
theorem znS {g a:Nat} {s:List UInt8} {w:Wd} (h:zw w ⟨g,0,none⟩ [zu s,i64 a]) (ha:a<s.length) (hs:s.length<=140737488351232) :
  Calls PG 295 #[At0 g] w fun e w'=>e = .returned (i64 (a+1+jS qz (s.drop (a+1)):Nat))/\w=w':=by
 refine zJ 28 [At0 g] Tryz.func295 ?_;refine⟨_,zc h (i:=1) rfl,(a+1:Nat),(zk (by omega)).trans (by omega),Nat,fun k=>⟨[(0,At0 g),(3,.int .i64 (k:Nat))],[]⟩,fun k X=>k<=s.length/\k+jS qz (s.drop k)=a+1+jS qz (s.drop (a+1))/\w=X,fun k=>s.length-k,a+1,(cvE rfl rfl),⟨ha,rfl,rfl⟩,?_⟩;rintro k _ ⟨hk,he,rfl⟩;dsimp only at hk he ⊢;refine⟨_,zc h (i:=0) rfl,biE (fun hc=>?_) fun hc=>?_⟩
 ·have hc:(k:Int)<(s.length:Int):=dT hc;have hl:k<s.length:=by omega
  refine⟨_,zc h (i:=0) rfl,k,rfl,hl,s[k],zc0 hl,cmo (zkS _ _) ?_⟩;rintro e _ ⟨rfl,rfl⟩;refine biE (fun hi=>?_) fun hi=>?_
  ·refine⟨(k+1:Nat),(zk (by omega)).trans (by omega),k+1,(cvE rfl rfl),⟨hl,?_,rfl⟩,zdc (by omega)⟩;rw [zb2 hl,Gz hi] at he;omega
  ·have hi:¬ qz s[k]=true:=by rw [Qi];exact hi
   rw [zb2 hl,Gy hi] at he;exact⟨by rw [<- he];rfl,rfl⟩
 ·have hc:¬ (k:Int)<(s.length:Int):=dF hc;refine Gp (fun h=>by cases h) (fun _=>?_);rw [zgL (by omega)] at he;exact⟨by rw [<- he];rfl,rfl⟩
theorem zkw {g a:Nat} {s:List UInt8} {w:Wd} (h:zw w ⟨g,0,none⟩ [zu s,i64 a]) (ha:a<s.length) (hs:s.length<=140737488351232) :
  Calls PG 296 #[At0 g] w fun e w'=>e = .returned (i64 (a+1+jS zbH (s.drop (a+1)):Nat))/\w=w':=by
 refine zJ 29 [At0 g] Tryz.func296 ?_;refine⟨_,zc h (i:=1) rfl,(a+1:Nat),(zk (by omega)).trans (by omega),Nat,fun k=>⟨[(0,At0 g),(3,.int .i64 (k:Nat))],[]⟩,fun k X=>k<=s.length/\k+jS zbH (s.drop k)=a+1+jS zbH (s.drop (a+1))/\w=X,fun k=>s.length-k,a+1,(cvE rfl rfl),⟨ha,rfl,rfl⟩,?_⟩;rintro k _ ⟨hk,he,rfl⟩;dsimp only at hk he ⊢;refine⟨_,zc h (i:=0) rfl,biE (fun hc=>?_) fun hc=>?_⟩
 ·have hc:(k:Int)<(s.length:Int):=dT hc;have hl:k<s.length:=by omega
  refine⟨_,zc h (i:=0) rfl,k,rfl,hl,s[k],zc0 hl,cmo (zab _ _) ?_⟩;rintro e _ ⟨rfl,rfl⟩;have hd:decide ((qe s[k]:Int)=4)=zbH s[k]:=zcy (b:=4);refine biE (fun hi=>?_) fun hi=>?_
  ·refine⟨(k+1:Nat),(zk (by omega)).trans (by omega),k+1,(cvE rfl rfl),⟨hl,?_,rfl⟩,zdc (by omega)⟩;rw [zb2 hl,Gz (hd.symm.trans hi)] at he;omega
  ·have hi:¬ zbH s[k]=true:=by rw [Qi];exact hd.symm.trans hi
   rw [zb2 hl,Gy hi] at he;exact⟨by rw [<- he];rfl,rfl⟩
 ·have hc:¬ (k:Int)<(s.length:Int):=dF hc;refine Gp (fun h=>by cases h) (fun _=>?_);rw [zgL (by omega)] at he;exact⟨by rw [<- he];rfl,rfl⟩
def zg4 (s:List UInt8) (a:Nat) (c:UInt8):Nat:=if (eqB c 61||eqB c 33)&&decide (s[a+1]?=some 61) then a+2 else a+1
theorem zn2 {g a:Nat} {s:List UInt8} {w:Wd} (h:zw w ⟨g,0,none⟩ [zu s,i64 a]) (ha:a<s.length) (hs:s.length<=140737488351232) :
  CB 294 #[At0 g] w (i64 (zg4 s a s[a])):=by
 refine qa 46 [At0 g] (.s .p (.s .p (.s .p (.c .p .p)))) Tryz.func294 ?_;refine⟨_,zc h (i:=1) rfl,(a+1:Nat),(zk (by omega)).trans (by omega),DrawE.ord [] [0,1,2,3,4,5,6,7,8,9] (by kernel_rfl) ?_⟩;have hd:zw w.drew ⟨g,0,none⟩ [zu s,i64 a]:=zQ rfl h;refine⟨_,zc hd (i:=0) rfl,_,zc hd (i:=1) rfl,a,rfl,ha,s[a],zc0 ha,Unit,fun _=>⟨[(3,i64 (zg4 s a s[a]))],[]⟩,fun _ X=>X=w.drew,?_,?_⟩
 ·have no:((eqB s[a] 61||eqB s[a] 33)&&decide (s[a+1]?=some 61))=false->∃ _:Unit,some (Value.int .i64 ((a+1:Nat):Int))=some (i64 (zg4 s a s[a])):=fun hf=>⟨(),by unfold zg4;rw [hf];rfl⟩;refine biE (fun h1=>?_) fun h1=>?_
  ·have he:(eqB s[a] 61||eqB s[a] 33)=true:=by
    have:eqB s[a] 61=true:=h1;rw [this];rfl
   refine brT ⟨_,zc hd (i:=0) rfl,biE (fun h2=>?_) fun h2=>?_⟩
   ·have h2:((a+1:Nat):Int)<(s.length:Int):=dT h2;have hl:a+1<s.length:=(by omega);refine⟨_,zc hd (i:=0) rfl,a+1,rfl,hl,s[a+1],zc0 hl,biE (fun h3=>?_) fun h3=>?_⟩
    ·refine⟨(a+2:Nat),(zk (by omega)).trans (by omega),(),⟨.cons ?_ .nil,rfl⟩,rfl⟩;have h61:s[a+1]=61:=by
      apply Uh.1;have:((s[a+1].toNat:Nat):Int)=61:=dT h3;have h6:(61:UInt8).toNat=61:=rfl;omega
     unfold zg4;rw [he,gE hl,h61];rfl
    ·obtain⟨_,e⟩:=no (by
      have h61:¬ s[a+1]=61:=fun e=>by rw [e] at h3;cases h3
      rw [gE hl,Uj (by simpa using h61),Uk])
     exact⟨(),⟨.cons e .nil,rfl⟩,rfl⟩
   ·have h2:¬ ((a+1:Nat):Int)<(s.length:Int):=dF h2;refine brF ?_;obtain⟨_,e⟩:=no (by rw [JJ (by omega)];simp);exact⟨(),⟨.cons e .nil,rfl⟩,rfl⟩
  ·have h1:eqB s[a] 61=false:=h1;refine biE (fun h1b=>?_) fun h1b=>?_
   ·have he:(eqB s[a] 61||eqB s[a] 33)=true:=by
     have:eqB s[a] 33=true:=h1b;rw [this,Bool.or_true]
    refine⟨_,zc hd (i:=0) rfl,biE (fun h2=>?_) fun h2=>?_⟩
    ·have h2:((a+1:Nat):Int)<(s.length:Int):=dT h2;have hl:a+1<s.length:=(by omega);refine⟨_,zc hd (i:=0) rfl,a+1,rfl,hl,s[a+1],zc0 hl,biE (fun h3=>?_) fun h3=>?_⟩
     ·refine⟨(a+2:Nat),(zk (by omega)).trans (by omega),(),⟨.cons ?_ .nil,rfl⟩,rfl⟩;have h61:s[a+1]=61:=by
       apply Uh.1;have:((s[a+1].toNat:Nat):Int)=61:=dT h3;have h6:(61:UInt8).toNat=61:=rfl;omega
      unfold zg4;rw [he,gE hl,h61];rfl
     ·obtain⟨_,e⟩:=no (by
       have h61:¬ s[a+1]=61:=fun e=>by rw [e] at h3;cases h3
       rw [gE hl,Uj (by simpa using h61),Uk])
      exact⟨(),⟨.cons e .nil,rfl⟩,rfl⟩
    ·have h2:¬ ((a+1:Nat):Int)<(s.length:Int):=dF h2;refine brF ?_;obtain⟨_,e⟩:=no (by rw [JJ (by omega)];simp);exact⟨(),⟨.cons e .nil,rfl⟩,rfl⟩
   ·have h1b:eqB s[a] 33=false:=h1b;refine brF (brF ?_);obtain⟨_,e⟩:=no (by rw [h1,h1b];rfl);exact⟨(),⟨.cons e .nil,rfl⟩,rfl⟩
 rintro _ _ rfl;exact⟨rfl,(Gj _ _).drew⟩
def ScV (X:Wd) (g:Nat) (s:List UInt8) (a:Nat) (op:Bool):Prop:=X.heap[g]?=some (.cells #[zu s,i64 a,.bool op] 334 (0,0))
theorem ScV.cells {X:Wd} {g a:Nat} {s:List UInt8} {op:Bool} (h:ScV X g s a op):zw X ⟨g,0,none⟩ [zu s,i64 a]:=by
 have:=jD (o:=0) (n:=2) h;exact this
theorem ScV.below {X Y:Wd} {g a:Nat} {s:List UInt8} {op:Bool} (h:ScV X g s a op) (hb:Bw X Y):ScV Y g s a op:=zb hb h
theorem zgT {a b c:Wd} {g:Nat} (h:a.grownBy b (some g)) (k:Bw b c):a.grownBy c (some g):=zh h (zi k)
theorem zfT {X:Wd} {g a:Nat} {s:List UInt8} {op:Bool} (h:ScV X g s a op) (v:Nat) {K:Wd->Prop} (k:∀ Y,ScV Y g s v op->X.grownBy Y (some g)->Y.heap.size=X.heap.size->K Y) :
  SatR ((storeVar 3 ⟨g,1,none⟩ (i64 v)).run PG X) fun _ w'=>K w' :=
 zaQ k3 rfl h (o:=1) (by show 1<3;omega) (v:=i64 v) rfl rfl fun Y fY gY sY=>k Y fY gY sY
theorem zkh {X:Wd} {g a:Nat} {s:List UInt8} {op:Bool} (h:ScV X g s a op) (v:Bool) {K:Wd->Prop} (k:∀ Y,ScV Y g s a v->X.grownBy Y (some g)->Y.heap.size=X.heap.size->K Y) :
  SatR ((storeVar 4 ⟨g,2,none⟩ (.bool v)).run PG X) fun _ w'=>K w' :=
 zaQ k4 rfl h (o:=2) (by show 2<3;omega) (v := .bool v) rfl rfl fun Y fY gY sY=>k Y fY gY sY
theorem zc2 {s:List UInt8} {k:Nat} (h:k<s.length):zae s k=decide (qe s[k]=2):=by unfold zae;rw [gE h]
theorem zhX {s:List UInt8} {k:Nat} (h:s.length<=k):zae s k=true:=by unfold zae;rw [JJ h]
theorem zub {g a:Nat} {s:List UInt8} {op:Bool} {w:Wd} (h:ScV w g s a op) (ha:a<=s.length) (hs:s.length<=140737488351232) :
  Calls PG 280 #[At0 g] w fun e w'=>(∃ v,e = .returned v)/\ScV w' g s (zL s a) op/\w.grownBy w' (some g):=by
 refine qa 50 [At0 g] (.c .p (.c .p .p)) Tryz.func280 ?_;obtain⟨b,hb⟩:=nm (zcD s a);have hbl:b<=s.length:=by rw [hb];exact zkT s a ha
 refine⟨Unit,fun _=>⟨[(0,At0 g)],[]⟩,fun _ X=>ScV X g s b op/\w.grownBy X (some g),?_,?_⟩
 ·refine⟨Nat,fun k=>⟨[(0,At0 g)],[]⟩,fun k X=>k<=s.length/\k+jS zjI (s.drop k)=b/\ScV X g s k op/\w.grownBy X (some g),fun k=>s.length-k,a,(cvE rfl rfl),⟨ha,hb.symm,h,j5 _ _⟩,?_⟩;rintro k X ⟨hk,he,hX,hg⟩;dsimp only at hk he ⊢;refine DrawE.ord [] [0,1,2,3,4,5,6,7,8,9,10,11,12,13,14,15] (by kernel_rfl) ?_;have hXd:ScV X.drew g s k op:=hX;refine cmo (zjk hXd.cells) ?_;rintro e Y ⟨rfl,hbY⟩;refine⟨hbY,?_⟩;have hY:=hXd.below hbY;have gY:w.grownBy Y (some g):=zh hg (zi ((Gj _ X).drew.trans hbY));refine biE (fun ho=>?_) fun ho=>?_
  ·have ho:s.length > k:=by
    have:(!decide (s.length<=k))=true:=ho;simpa using this
   refine⟨_,zc hY.cells (i:=0) rfl,_,zc hY.cells (i:=1) rfl,k,rfl,ho,s[k],zc0 ho,cmo (zab _ _) ?_⟩;rintro e _ ⟨rfl,rfl⟩;refine⟨Gj _ _,?_⟩;have hd:decide ((qe s[k]:Int)=1)=zjI s[k]:=zcy (b:=1);rw [zb2 ho] at he;refine biE (fun hi=>?_) fun hi=>?_
   ·rw [Gz (hd.symm.trans hi)] at he;exact⟨_,zc hY.cells (i:=1) rfl,(k+1:Nat),(zk (by omega)).trans (by omega),zfT hY (k+1) fun Z hZ gZ sZ=>⟨k+1,(cvE rfl rfl),⟨ho,by omega,hZ,zh gY gZ⟩,zdc (by omega)⟩⟩
   ·have hi:¬ zjI s[k]=true:=(by rw [Qi];exact hd.symm.trans hi);rw [Gy hi] at he;exact⟨(),(cvE rfl rfl),by rw [<- he];exact hY,gY⟩
  ·have ho:s.length<=k:=by
    have:(!decide (s.length<=k))=false:=ho;simpa using this
   refine brF ?_;rw [zgL ho] at he;exact⟨(),(cvE rfl rfl),by rw [<- he];exact hY,gY⟩
 clear h;rintro _ X ⟨hX,hg⟩;have hp:zL s a=match s[b]? with
   | some c=>if qe c=7 then b+jS zew (s.drop b) else b
   | none=>b:=by rw [hb];rfl
 refine⟨Unit,fun _=>⟨[(0,At0 g)],[]⟩,fun _ X=>(∃ hl:b<s.length,qe s[b]=7)/\ScV X g s b op/\w.grownBy X (some g),?_,?_⟩
 ·refine DrawE.ord [] [0,1,2,3,4,5,6,7,8,9,10,11,12,13,14] (by kernel_rfl) ?_;have hXd:ScV X.drew g s b op:=hX;refine cmo (zjk hXd.cells) ?_;rintro e Y ⟨rfl,hbY⟩;refine⟨hbY,?_⟩;have hY:=hXd.below hbY;have gY:w.grownBy Y (some g):=zh hg (zi ((Gj _ X).drew.trans hbY));refine biE (fun ho=>?_) fun ho=>?_
  ·have ho:s.length<=b:=dT ho;refine brT ?_;have:zL s a=b:=by rw [hp,JJ ho]
   rw [this];exact⟨⟨_,rfl⟩,hY,gY⟩
  ·have ho:¬ s.length<=b:=dF ho;have hl:b<s.length:=by omega
   refine⟨_,zc hY.cells (i:=0) rfl,_,zc hY.cells (i:=1) rfl,b,rfl,hl,s[b],zc0 hl,cmo (zab _ _) ?_⟩;rintro e _ ⟨rfl,rfl⟩;refine⟨Gj _ _,biE (fun hi=>?_) fun hi=>?_⟩
   ·have hi:¬ qe s[b]=7:=by
     have h1:(!decide ((qe s[b]:Int)=7))=true:=hi;simp at h1;omega
    have:zL s a=b:=(by rw [hp,gE hl];simp only [Gy hi]);rw [this];exact⟨⟨_,rfl⟩,hY,gY⟩
   ·have hi:qe s[b]=7:=by
     have h1:(!decide ((qe s[b]:Int)=7))=false:=hi;simp at h1;omega
    exact⟨(),(cvE rfl rfl),⟨hl,hi⟩,hY,gY⟩
 clear hX hg X;rintro _ X ⟨⟨hl,h7⟩,hX,hg⟩;have hp:zL s a=b+jS zew (s.drop b):=by rw [hp,gE hl];simp only [Gz h7]
 rw [hp];refine⟨Nat,fun k=>⟨[(0,At0 g)],[]⟩,fun k X=>k<=s.length/\k+jS zew (s.drop k)=b+jS zew (s.drop b)/\ScV X g s k op/\w.grownBy X (some g),fun k=>s.length-k,b,(cvE rfl rfl),⟨hbl,rfl,hX,hg⟩,?_⟩;clear hX hg X;rintro k X ⟨hk,he,hX,hg⟩;dsimp only at hk he ⊢;refine cmo (znE hX.cells (hlt hX)) ?_;rintro e Y ⟨rfl,hbY⟩;have hY:=hX.below hbY;have gY:=zgT hg hbY;refine biE (fun hi=>?_) fun hi=>?_
 ·have hi:zae s k=false:=by
   have h1:(!zae s k)=true:=hi;simpa using h1
  have hkl:k<s.length:=by
   by_cases h0:k<s.length
   ·exact h0
   ·rw [zhX (by omega)] at hi;cases hi
  have hn:zew s[k]=true:=by
   rw [zc2 hkl] at hi;unfold zew;rw [hi];rfl
  rw [zb2 hkl,Gz hn] at he;exact⟨_,zc hY.cells (i:=1) rfl,(k+1:Nat),(zk (by omega)).trans (by omega),zfT hY (k+1) fun Z hZ gZ sZ=>⟨k+1,(cvE rfl rfl),⟨hkl,by omega,hZ,zh gY gZ⟩,zdc (by omega)⟩⟩
 ·have hi:zae s k=true:=by
   have h1:(!zae s k)=false:=hi;simpa using h1
  have h0:jS zew (s.drop k)=0:=by
   by_cases h0:k<s.length
   ·rw [zc2 h0] at hi;rw [zb2 h0,Gy];unfold zew;rw [hi];decide
   ·exact zgL (by omega)
  rw [h0] at he;have he:k=b+jS zew (s.drop b):=by omega
  exact⟨⟨_,rfl⟩,by rw [<- he];exact hY,gY⟩
theorem zm2 {s:List UInt8} {a:Nat} (ha:a<=s.length):zL s a<=s.length:=by
 have h1:zcD s a<=s.length:=zkT s a ha;unfold zL
 split
 ·split
  ·exact zkT s _ h1
  ·exact h1
 ·exact h1
def jj:Enc Tok:=⟨fun t=>[u8 t.kind,zu t.text,i64 t.pos],3,fun _=>rfl,by decide,fun a u hu=>by
 simp only [UG,Qv,Gu] at hu;rcases hu with rfl | rfl | rfl <;> rfl⟩
theorem zmp {s:List UInt8} {a:Nat} (ha:a<s.length) (c:UInt8):a<zbd s a c/\zbd s a c<=s.length:=by
 unfold zbd
 split
 ·have:=zkT (p:=qz) s (a+1) ha;omega
 ·split
  ·have:=zkT (p:=zbH) s (a+1) ha;omega
  ·split
   ·rename_i h;have h2:s[a+1]?=some 61:=by
     simp only [bAT,dE] at h;exact h.2
    have:=(Jq.1 h2).1;omega
   ·omega
theorem zmD (s:List UInt8) (a e:Nat):(bs s).extract a e=bs ((s.drop a).take (e-a)):=by
 have h:((bs s).extract a e).data=(bs ((s.drop a).take (e-a))).data:=by
  rw [ByteArray.data_extract];apply Qe.1;rw [JT];rfl
 exact ByteArray.ext h
theorem zrA {g a:Nat} {s:List UInt8} {op:Bool} {w:Wd} (h:ScV w g s a op) (ha:a<s.length) (hs:s.length<=140737488351232) :
  Calls PG 282 #[At0 g] w fun e w'=>e = .returned (.agg (jj.enc (zjZ s a s[a])).toArray)/\ScV w' g s (zbd s a s[a]) op/\w.grownBy w' (some g):=by
 refine qa 51 [At0 g] (.s .p (.s .p (.c .p .p))) Tryz.func282 ?_;obtain⟨z,hz⟩:=nm (jj.enc ⟨0,[],0⟩);obtain⟨W0,hW0⟩:=nm ((w.alloc (.cells z.toArray 311)));have hb0:Bw w W0:=by rw [hW0];exact (zba _ _)
 have f0:W0.heap[w.heap.size]?=some (.cells z.toArray 311 (0,0)):=by rw [hW0];exact zz w _
 have h0:ScV W0 g s a op:=h.below hb0;have hgl:g<w.heap.size:=hlt h;refine⟨Nat,fun f=>⟨[(0,At0 g),(2,.pointer (some ⟨w.heap.size,0,none⟩)),(3,u8 (zgs s[a])),(4,.func (.func f) #[] #[])],[]⟩,fun f X=>Bw W0 X /\
  ((qe s[a]=3/\f=295)\/(¬ qe s[a]=3/\qe s[a]=4/\f=296)\/(¬ qe s[a]=3/\¬ qe s[a]=4/\f=294)),?_,?_⟩
 ·subst hz;subst hW0;refine DrawE.ord [] [0,1,2,3,4,5,6,7,8,9,10,11] (by kernel_rfl) ?_;have hd:ScV (w.alloc (.cells (jj.enc ⟨0,[],0⟩).toArray 311)).drew g s a op:=h0;refine⟨_,zc hd.cells (i:=0) rfl,_,zc hd.cells (i:=1) rfl,a,rfl,ha,s[a],zc0 ha,cmo (zab _ _) ?_⟩;rintro e _ ⟨rfl,rfl⟩;refine⟨Gj _ _,biE (fun h3=>?_) fun h3=>?_⟩
  ·have h3:qe s[a]=3:=by have h3:(qe s[a]:Int)=3:=dT h3;omega
   exact⟨_,⟨.cons rfl (.cons rfl (.cons (by unfold zgs;rw [Gz h3];rfl) (.cons rfl .nil))),rfl⟩,(Gj _ _).drew,.inl ⟨h3,rfl⟩⟩
  have h3:¬ qe s[a]=3:=by have h3:¬ (qe s[a]:Int)=3:=dF h3;omega
  refine biE (fun h4=>?_) fun h4=>?_
  ·have h4:qe s[a]=4:=by have h4:(qe s[a]:Int)=4:=dT h4;omega
   exact⟨_,⟨.cons rfl (.cons rfl (.cons (by unfold zgs;rw [Gy h3,Gz h4];rfl) (.cons rfl .nil))),rfl⟩,(Gj _ _).drew,.inr (.inl ⟨h3,h4,rfl⟩)⟩
  ·have h4:¬ qe s[a]=4:=by have h4:¬ (qe s[a]:Int)=4:=dF h4;omega
   exact⟨_,⟨.cons rfl (.cons rfl (.cons (by unfold zgs;rw [Gy h3,Gy h4];rfl) (.cons rfl .nil))),rfl⟩,(Gj _ _).drew,.inr (.inr ⟨h3,h4,rfl⟩)⟩
 rintro f V ⟨hV,hf⟩;dsimp only at hV hf ⊢;have hVs:=h0.below hV;obtain⟨e1,e2⟩:=zmp ha s[a];have fin:∀ Y,Bw V Y->∀ Z,ScV Z g s (zbd s a s[a]) op->Y.grownBy Z (some g)->Bw w Y/\Z.heap[w.heap.size]?=some (.cells z.toArray 311 (0,0))/\w.grownBy Z (some g):=fun Y hY Z hZ gZ=>by
  have hwY:=((zst hb0 hV)).trans (hY.mono (by have:=hb0.size;have:=hV.size;omega));have f1:=zb hY (zb hV f0);refine⟨hwY,(gZ.block _ (hlt f1) (fun e=>by simp only [KZ] at e;omega)).trans f1,zh (zi hwY) gZ⟩
 have last:∀ Z,Z.heap[w.heap.size]?=some (.cells z.toArray 311 (0,0))->w.grownBy Z (some g)->∀ R,Z.grownBy R (some w.heap.size)->w.grownBy R (some g):=fun Z _ gZ R gR =>
  ⟨gR.os.trans gZ.os,gR.tape.trans gZ.tape,gR.output.trans gZ.output,UU gZ.size gR.size,fun k hk hne=>(gR.block k (nL hk gZ.size) (fun e=>by simp only [KZ] at e;omega)).trans (gZ.block k hk hne)⟩
 have fill:∀ cs,cs=jj.enc (zjZ s a s[a])->∀ Z,Z.heap[w.heap.size]?=some (.cells z.toArray 311 (0,0))->∀ (K:Wd->Prop),(∀ R,R.heap[w.heap.size]?=some (.cells (jj.enc (zjZ s a s[a])).toArray 311 (0,0))->Z.grownBy R (some w.heap.size)->K R) ->
   SatR ((storeVar 311 ⟨w.heap.size,0,none⟩ (.agg cs.toArray)).run PG Z) fun _ w'=>K w':=fun cs hcs Z fZ K k=>by
  subst hz hcs;exact zr (v := .agg (jj.enc (zjZ s a s[a])).toArray) zkN fZ rfl rfl rfl (k _ (zm fZ) (qA Z _ _))
 rcases hf with ⟨h3,rfl⟩ | ⟨h3,h4,rfl⟩ | ⟨h3,h4,rfl⟩
 ·refine⟨_,zc hVs.cells (i:=1) rfl,cmo (znS hVs.cells ha hs) ?_⟩;rintro e _ ⟨rfl,rfl⟩;have hbY:Bw V V:=Gj _ _;have hVY:=hVs;have ee:a+1+jS qz (s.drop (a+1))=zbd s a s[a]:=by unfold zbd;rw [Gz h3]
  rw [ee];refine zfT hVY (zbd s a s[a]) fun Z hZ gZ sZ=>?_;obtain⟨hwY,fZ,gwZ⟩:=fin V hbY Z hZ gZ;refine DrawE.ord [15] [0,1,2,3,4,5,6,7,8,9,10,11,12,13,14,15] (by kernel_rfl) ?_;have hZd:ScV Z.drew g s (zbd s a s[a]) op:=hZ;refine⟨_,zc hZd.cells (i:=0) rfl,_,zc hZd.cells (i:=1) rfl,zbd s a s[a],rfl,e2,a,rfl,by omega,?_⟩;exact⟨[u8 (zgs s[a]),.string ((bs s).extract a (zbd s a s[a])),i64 a],rfl,fill _ (by rw [zmD];rfl) Z.drew fZ _ fun R fR gR=>⟨_,rfl,za fR,rfl,(gR.block g (hlt hZd) (fun e=>by simp only [KZ] at e;omega)).trans hZd,last Z.drew fZ (zh gwZ (zi (Gj _ Z).drew)) R gR⟩⟩
 ·refine⟨_,zc hVs.cells (i:=1) rfl,cmo (zkw hVs.cells ha hs) ?_⟩;rintro e _ ⟨rfl,rfl⟩;have hbY:Bw V V:=Gj _ _;have hVY:=hVs;have ee:a+1+jS zbH (s.drop (a+1))=zbd s a s[a]:=by unfold zbd;rw [Gy h3,Gz h4]
  rw [ee];refine zfT hVY (zbd s a s[a]) fun Z hZ gZ sZ=>?_;obtain⟨hwY,fZ,gwZ⟩:=fin V hbY Z hZ gZ;refine DrawE.ord [15] [0,1,2,3,4,5,6,7,8,9,10,11,12,13,14,15] (by kernel_rfl) ?_;have hZd:ScV Z.drew g s (zbd s a s[a]) op:=hZ;refine⟨_,zc hZd.cells (i:=0) rfl,_,zc hZd.cells (i:=1) rfl,zbd s a s[a],rfl,e2,a,rfl,by omega,?_⟩;exact⟨[u8 (zgs s[a]),.string ((bs s).extract a (zbd s a s[a])),i64 a],rfl,fill _ (by rw [zmD];rfl) Z.drew fZ _ fun R fR gR=>⟨_,rfl,za fR,rfl,(gR.block g (hlt hZd) (fun e=>by simp only [KZ] at e;omega)).trans hZd,last Z.drew fZ (zh gwZ (zi (Gj _ Z).drew)) R gR⟩⟩
 ·refine⟨_,zc hVs.cells (i:=1) rfl,cmo (zn2 hVs.cells ha hs) ?_⟩;rintro e Y ⟨rfl,hbY⟩;have hVY:=hVs.below hbY;have ee:zg4 s a s[a]=zbd s a s[a]:=by unfold zbd;rw [Gy h3,Gy h4];rfl
  rw [ee];refine zfT hVY (zbd s a s[a]) fun Z hZ gZ sZ=>?_;obtain⟨hwY,fZ,gwZ⟩:=fin Y hbY Z hZ gZ;refine DrawE.ord [15] [0,1,2,3,4,5,6,7,8,9,10,11,12,13,14,15] (by kernel_rfl) ?_;have hZd:ScV Z.drew g s (zbd s a s[a]) op:=hZ;refine⟨_,zc hZd.cells (i:=0) rfl,_,zc hZd.cells (i:=1) rfl,zbd s a s[a],rfl,e2,a,rfl,by omega,?_⟩;exact⟨[u8 (zgs s[a]),.string ((bs s).extract a (zbd s a s[a])),i64 a],rfl,fill _ (by rw [zmD];rfl) Z.drew fZ _ fun R fR gR=>⟨_,rfl,za fR,rfl,(gR.block g (hlt hZd) (fun e=>by simp only [KZ] at e;omega)).trans hZd,last Z.drew fZ (zh gwZ (zi (Gj _ Z).drew)) R gR⟩⟩
def zeL (l:List UInt8):Nat:=l.foldl (fun v c=>10*v+(c.toNat-48)) 0
theorem zor {s:List UInt8} {k:Nat} (h:k<s.length):zeL (s.take (k+1))=10*zeL (s.take k)+(s[k].toNat-48):=by
 unfold zeL;rw [tsg h,KT];rfl
theorem zsZ {c:UInt8} (h:zbH c=true):48<=c.toNat/\c.toNat<=57:=by
 unfold zbH at h;have h:qe c=4:=dT h;unfold qe at h
 cases h1:zgt c with
 | true=>rw [h1] at h;cases h
 | false =>
  rw [h1] at h
  cases h2:zhy c with
  | true=>unfold zhy at h2;simp at h2;omega
  | false =>
   rw [h2] at h
   revert h
   cases eqB c 32||eqB c 9 <;> cases eqB c 10 <;> cases eqB c 95 <;> cases eqB c 35 <;> cases znc c <;> (intro h;cases h)
theorem zwV (s:List UInt8) (hs:s.length<=140737488351232) (w:Wd):Calls PG 284 #[zu s] w fun e w'=>∃ v,e = .returned (.tuple #[u8 v,.bool (zjo s)])/\w=w':=by
 refine qa 47 [zu s] (.s .p (.c .p .p)) Tryz.func284 ?_;have hnl:zjo s=(decide (1<=s.length)&&(decide (s.length<=3)&&(!(decide (s.head?=some 48)&&decide (1<s.length))&&(s.all zbH&&decide (zeL s<=255))))):=rfl;refine⟨Unit,fun _=>⟨[(0,zu s)],[]⟩,fun _ X=>(1<=s.length/\s.length<=3/\(decide (s.head?=some 48)&&decide (1<s.length))=false)/\w=X,?_,?_⟩
 ·refine biE (fun h1=>?_) fun h1=>?_
  ·have h1:(s.length:Int)<1:=dT h1;exact brT (brT ⟨0,by rw [hnl,Uj (by omega)];rfl,rfl⟩)
  have h1:¬ (s.length:Int)<1:=dF h1;refine biE (fun h2=>?_) fun h2=>?_
  ·have h2:(3:Int)<(s.length:Int):=dT h2;exact brT ⟨0,by rw [hnl,Uj (p:=s.length<=3) (by omega)];simp;rfl,rfl⟩
  have h2:¬ (3:Int)<(s.length:Int):=dF h2;have h0:0<s.length:=by omega
  have hh:s.head?=some s[0]:=by rw [List.head?_eq_getElem?,gE h0]
  refine⟨0,rfl,h0,s[0],zc0 h0,biE (fun h3=>?_) fun h3=>?_⟩
  ·have h3:s[0]=48:=by
    apply Uh.1;have h3:((s[0].toNat:Nat):Int)=48:=dT h3;have:(48:UInt8).toNat=48:=rfl;omega
   refine biE (fun h4=>?_) fun h4=>?_
   ·have h4:(1:Int)<(s.length:Int):=dT h4;exact⟨0,by rw [hnl,hh,h3,Uu (p:=1<s.length) (by omega)];simp;rfl,rfl⟩
   ·have h4:¬ (1:Int)<(s.length:Int):=dF h4;exact⟨(),(cvE rfl rfl),⟨by omega,by omega,by rw [Uj (p:=1<s.length) (by omega),Uk]⟩,rfl⟩
  ·refine brF ?_;exact⟨(),(cvE rfl rfl),⟨by omega,by omega,by
    have:¬ s[0]=48:=fun e=>by rw [e] at h3;cases h3
    rw [hh,Uj (by simpa using this),Ul]⟩,rfl⟩
 rintro _ _ ⟨⟨h1,h2,h3⟩,rfl⟩;have hnl:zjo s=(s.all zbH&&decide (zeL s<=255)):=by rw [hnl,Uu h1,Uu h2,h3];rfl
 rw [hnl];refine⟨Nat,fun k=>⟨[(0,zu s),(4,i64 (zeL (s.take k):Nat)),(25,i64 s.length),(26,i64 (k:Nat))],[]⟩,fun k X=>k<=s.length/\(∀ c∈s.take k,zbH c=true)/\zeL (s.take k)<10^k/\w=X,fun k=>s.length-k,0,(cvE rfl rfl),⟨Gg _,by simp,Nat.one_pos,rfl⟩,?_⟩;rintro k _ ⟨hk,hdg,hv,rfl⟩;dsimp only at hk hdg hv ⊢;refine biE (fun hc=>?_) fun hc=>?_
 ·have hc:(k:Int)<(s.length:Int):=dT hc;have hl:k<s.length:=by omega
  refine⟨k,rfl,hl,s[k],zc0 hl,cmo (zab _ _) ?_⟩;rintro e _ ⟨rfl,rfl⟩;have hd:decide ((qe s[k]:Int)=4)=zbH s[k]:=zcy (b:=4);refine biE (fun hi=>?_) fun hi=>?_
  ·have hi:zbH s[k]=false:=by
    have h1:(!decide ((qe s[k]:Int)=4))=true:=hi;rw [hd] at h1;simpa using h1
   have:s.all zbH=false:=by
    rw [KM];exact⟨s[k],gM _,by rw [hi];simp⟩
   exact⟨0,by rw [this];rfl,rfl⟩
  ·have hi:zbH s[k]=true:=by
    have h1:(!decide ((qe s[k]:Int)=4))=false:=hi;rw [hd] at h1;simpa using h1
   obtain⟨d1,d2⟩:=zsZ hi;have hv3:zeL (s.take k)<1000:=nL hv (by
    have:k<=3:=(by omega);exact Kb (by decide) this)
   have hsn:=zor hl;refine⟨((10*zeL (s.take k):Nat):Int),(zk (by omega)).trans (by omega),k,rfl,hl,s[k],zc0 hl,((s[k].toNat-48:Nat):Int),(zgH (by omega)).trans (by omega),((s[k].toNat-48:Nat):Int),(zk (by omega)).trans (by omega),(zeL (s.take (k+1)):Int),(zk (by omega)).trans (by omega),(k+1:Nat),(zk (by omega)).trans (by omega),k+1,(cvE rfl rfl),⟨hl,?_,?_,rfl⟩,zdc (by omega)⟩
   ·rw [tsg hl];intro c hc;rcases QU.1 hc with hc | hc
    ·exact hdg c hc
    ·simp only [KA] at hc;rw [hc];exact hi
   ·rw [hsn,Nat.pow_succ];omega
 ·have hc:¬ (k:Int)<(s.length:Int):=dF hc;obtain rfl:k=s.length:=by omega
  rw [Qw] at hdg hv;have ha:s.all zbH=true:=Qj.2 hdg;rw [ha,Qw];have hv3:zeL s<1000:=nL hv (Kb (by decide) h2);refine biE (fun h5=>?_) fun h5=>?_
  ·have h5:(255:Int)<(zeL s:Int):=dT h5;exact⟨0,by rw [Uj (by omega)];rfl,rfl⟩
  ·have h5:¬ (255:Int)<(zeL s:Int):=dF h5;exact⟨((UInt8.ofNat (zeL s)).toNat:Int),(zgH (by omega)).trans (by rw [KH];omega),UInt8.ofNat (zeL s),by rw [Uu (by omega)];rfl,rfl⟩
theorem zuz {t:Tok} (h:t.kind=3) (hl:0<t.text.length):jt t=if qe t.text[0]=6 then 0 else 40:=by
 obtain⟨k,x,p⟩:=t;have h:k=3:=h;subst h
 cases x with
 | nil=>exact GA hl (Nat.lt_irrefl 0)
 | cons a r=>rfl
theorem zsz (t:Tok) (ht:t.kind=3->t.text≠[]) (hs:t.text.length<=140737488351232) (w:Wd):CB 272 #[.agg (jj.enc t).toArray] w (i64 (jt t)):=by
 refine zJ 30 [.agg (jj.enc t).toArray] Tryz.func272 ?_;have hb0:Bw w (w.alloc (.cells (jj.enc t).toArray 311)):=zba _ _;have f0:=zz w (.cells (jj.enc t).toArray 311);have c0:zw (w.alloc (.cells (jj.enc t).toArray 311)) ⟨w.heap.size,0,none⟩ [u8 t.kind,zu t.text,i64 t.pos]:=za f0;have kd:∀ k:UInt8,decide ((t.kind.toNat:Int)=(k.toNat:Int))=decide (t.kind=k):=fun k=>by
  rw [QH];exact qG
 refine⟨_,zc c0 (i:=0) rfl,biE (fun h1=>?_) fun h1=>?_⟩
 ·have h1:t.kind=1:=dT ((kd 1).symm.trans h1);have e:jt t=if 16<t.text.length then 42 else 0:=by unfold jt;rw [Gz h1]
  rw [e];refine⟨_,zc c0 (i:=1) rfl,biE (fun h2=>?_) fun h2=>?_⟩
  ·have h2:(16:Int)<(t.text.length:Int):=dT h2;exact⟨by rw [Gz (by omega)];rfl,hb0⟩
  ·have h2:¬ (16:Int)<(t.text.length:Int):=dF h2;exact⟨by rw [Gy (by omega)];rfl,hb0⟩
 have h1:¬ t.kind=1:=dF ((kd 1).symm.trans h1);refine biE (fun h2=>?_) fun h2=>?_
 ·have h2:t.kind=2:=dT ((kd 2).symm.trans h2);have e:jt t=if zjo t.text then 0 else 41:=by unfold jt;rw [Gy h1,Gz h2]
  rw [e];refine⟨_,zc c0 (i:=1) rfl,cmo (zwV t.text hs _) ?_⟩;rintro e _ ⟨v,rfl,rfl⟩;refine biE (fun h3=>?_) fun h3=>?_
  ·have h3:(!zjo t.text)=true:=h3;have h3:zjo t.text=false:=by simpa using h3
   exact⟨by rw [h3];rfl,hb0⟩
  ·have h3:(!zjo t.text)=false:=h3;have h3:zjo t.text=true:=by simpa using h3
   exact⟨by rw [h3];rfl,hb0⟩
 have h2:¬ t.kind=2:=dF ((kd 2).symm.trans h2);refine biE (fun h3=>?_) fun h3=>?_
 ·have h3:t.kind=3:=dT ((kd 3).symm.trans h3);have hne:=ht h3;have hl:0<t.text.length:=List.length_pos_iff.2 hne;have e:jt t=if qe t.text[0]=6 then 0 else 40:=zuz h3 hl
  rw [e];refine⟨_,zc c0 (i:=1) rfl,0,rfl,hl,t.text[0],zc0 hl,cmo (zab _ _) ?_⟩;rintro e _ ⟨rfl,rfl⟩;refine biE (fun h4=>?_) fun h4=>?_
  ·have h4:(!decide ((qe t.text[0]:Int)=6))=true:=h4;have h4:¬ qe t.text[0]=6:=by simp at h4;omega
   exact⟨by rw [Gy h4];rfl,hb0⟩
  ·have h4:(!decide ((qe t.text[0]:Int)=6))=false:=h4;have h4:qe t.text[0]=6:=by simp at h4;omega
   exact⟨by rw [Gz h4];rfl,hb0⟩
 have h3:¬ t.kind=3:=dF ((kd 3).symm.trans h3);exact⟨by unfold jt;rw [Gy h1,Gy h2,Gy h3];rfl,hb0⟩
theorem zf9 {a b c:Wd} {g r:Nat} (h:a.grownBy b (some g)) (k:b.grownBy c (some r)) (hr:a.heap.size<=r):a.grownBy c (some g) :=
 ⟨k.os.trans h.os,k.tape.trans h.tape,k.output.trans h.output,UU h.size k.size,fun i hi hne=>(k.block i (nL hi h.size) (fun e=>by simp only [KZ] at e;omega)).trans (h.block i hi hne)⟩
theorem zsd {x y:Int} {T:Array TypeId} {t:TypeId} {w:Wd} {K:Value->Wd->Prop} (k:K (.int .i64 (if y<x then y else x)) w):SatR ((Builtin.min_ T t [Value.int .i64 x,.int .i64 y].toArray).run PG w) K :=
 SatR.mk (v := .int .i64 (if y<x then y else x)) (w':=w) (by simp [Builtin.min_,Builtin.min2]) k
section
variable {s:List UInt8} {f a:Nat} {op:Bool}
theorem zkC (h:zL s a<s.length) (h2:¬ qe s[zL s a]=2):zaC s (f+1) a op=some (zjZ s (zL s a) s[zL s a],zbd s (zL s a) s[zL s a],true):=by
 unfold zaC;rw [gE h];simp only [Gy h2]
theorem zhm (h:zae s (zL s a)=true):zaC s (f+1) a true=some (⟨4,[],zL s a⟩,min (zL s a+1) s.length,false):=by
 unfold zaC;by_cases hp:zL s a<s.length
 ·rw [zc2 hp] at h;have h:=dT h;rw [gE hp];simp only [Gz h];rfl
 ·rw [JJ (by omega)];rfl
theorem ziG (h:s.length<=zL s a):zaC s (f+1) a false=none:=by
 unfold zaC;rw [JJ h];rfl
theorem ziH (h:zL s a<s.length) (h2:qe s[zL s a]=2):zaC s (f+1) a false=zaC s f (min (zL s a+1) s.length) false:=by
 conv=>lhs;unfold zaC
 rw [gE h];simp only [Gz h2];rfl
theorem zm3:a<=zL s a:=by
 have h1:a<=zcD s a:=Qy _ _;unfold zL
 split
 ·split
  ·omega
  ·exact h1
 ·exact h1
end
def zjT:Tok:=⟨0,[],0⟩
theorem zp0 {g a:Nat} {s:List UInt8} {op:Bool} {w:Wd} (h:ScV w g s a op) (ha:a<=s.length) (hs:s.length<=140737488351232) :
  Calls PG 271 #[At0 g] w fun e w'=>∃ t a' op' ok,e = .returned (.tuple #[.agg (jj.enc t).toArray,.bool ok])/\(ok=true->zaC s (s.length+2) a op=some (t,a',op'))/\(ok=false->zaC s (s.length+2) a op=none) /\
   a'<=s.length/\ScV w' g s a' op'/\w.grownBy w' (some g):=by
 refine zJ 57 [At0 g] Tryz.func271 ?_;obtain⟨r,hr⟩:=nm (w.heap.size);have hgl:g<r:=by rw [hr];exact hlt h
 obtain⟨W0,hW0⟩:=nm (w.alloc (.cells (jj.enc zjT).toArray 311));have hb0:Bw w W0:=by rw [hW0];exact (zba _ _)
 have f0:W0.heap[r]?=some (.cells (jj.enc zjT).toArray 311 (0,0)):=by rw [hW0,hr];exact zz w _
 have h0:ScV W0 g s a op:=h.below hb0;refine⟨Nat×Nat×Bool,fun k=>⟨[(0,At0 g),(2,At0 r)],[]⟩,fun k X=>s.length+1<=k.1+k.2.1/\k.2.1<=s.length/\zaC s (k.1+1) k.2.1 k.2.2=zaC s (s.length+2) a op/\ScV X g s k.2.1 k.2.2/\w.grownBy X (some g)/\X.heap[r]?=some (.cells (jj.enc zjT).toArray 311 (0,0)),
  fun k=>s.length-k.2.1,(s.length+1,a,op),⟨.cons rfl (.cons (by rw [hr];rfl) .nil),rfl⟩,⟨by omega,ha,rfl,by subst hW0;exact h0,by subst hW0;exact zi hb0,by subst hW0;exact f0⟩,?_⟩
 clear hW0 hb0 f0 h0 W0;rintro⟨f,k,o⟩ X ⟨hf,hk,hn,hX,gX,fX⟩;dsimp only at hf hk hn hX gX fX ⊢;have fillR:∀ (t:Tok) (Y:Wd),Y.heap[r]?=some (.cells (jj.enc zjT).toArray 311 (0,0))->∀ (K:Wd->Prop),(∀ R,R.heap[r]?=some (.cells (jj.enc t).toArray 311 (0,0))->Y.grownBy R (some r)->K R) ->
   SatR ((storeVar 311 ⟨r,0,none⟩ (.agg (jj.enc t).toArray)).run PG Y) fun _ w'=>K w':=fun t Y fY K q =>
  zr (v := .agg (jj.enc t).toArray) zkN fY rfl rfl rfl (q _ (zm fY) (qA Y _ _))
 have keepR:∀ {A B:Wd},A.grownBy B (some g)->A.heap[r]?=some (.cells (jj.enc zjT).toArray 311 (0,0))->B.heap[r]?=some (.cells (jj.enc zjT).toArray 311 (0,0)):=fun hg hA=>(hg.block _ (hlt hA) (fun e=>by simp only [KZ] at e;omega)).trans hA;have keepS:∀ {A B:Wd} {a:Nat} {o:Bool} {q:Nat},A.grownBy B (some q)->g≠q->ScV A g s a o->ScV B g s a o:=fun hg hq hA=>(hg.block _ (hlt hA) (fun e=>hq (by simpa using e))).trans hA;refine cmo (zub hX hk hs) ?_;rintro e Y ⟨⟨v,rfl⟩,hY,gY⟩;have hp:=zm2 (s:=s) hk;have hpk:=zm3 (s:=s) (a:=k);have fY:=keepR gY fX;have gwY:=zh gX gY;refine cmo (znE hY.cells (hlt hY)) ?_;rintro e Z ⟨rfl,hbZ⟩;have hZ:=hY.below hbZ;have gwZ:=zgT gwY hbZ;have fZ:=zb hbZ fY;refine biE (fun hc=>?_) fun hc=>?_
 ·have hc:zae s (zL s k)=false:=by
   have h1:(!zae s (zL s k))=true:=hc;simpa using h1
  have hl:zL s k<s.length:=by
   by_cases h1:zL s k<s.length
   ·exact h1
   ·rw [zhX (by omega)] at hc;cases hc
  rw [zc2 hl] at hc;have hc:=dF hc;rw [zkC hl hc] at hn;refine zkh hZ true fun U hU gU sU=>?_;have gwU:=zh gwZ gU;have fU:=keepR gU fZ;refine cmo (zrA hU hl hs) ?_;rintro e V ⟨rfl,hV,gV⟩;have gwV:=zh gwU gV;exact fillR _ V (keepR gV fU) _ fun R fR gR=>⟨_,rfl,za fR,_,_,_,true,rfl,fun _=>hn.symm,fun h=>(by cases h),(zmp hl _).2,keepS gR (by omega) hV,zf9 gwV gR (by omega)⟩
 have hc:zae s (zL s k)=true:=by
  have h1:(!zae s (zL s k))=false:=hc;simpa using h1
 refine⟨_,zc hZ.cells (i:=1) rfl,jj.enc ⟨4,[],zL s k⟩,rfl,zn (X:=Z) (v := .agg (jj.enc ⟨4,[],zL s k⟩).toArray) zkN rfl rfl rfl fun U hbU fU4 sU=>?_⟩;have fU4:U.heap[Z.heap.size]?=some (.cells (jj.enc ⟨4,[],zL s k⟩).toArray 311 (0,0)):=fU4;have hU:=hZ.below hbU;have gwU:=zgT gwZ hbU;have fU:=zb hbU fZ;have hzs:r<Z.heap.size:=hlt fZ;refine cmo (zjk hU.cells) ?_;rintro e V ⟨rfl,hbV⟩;have hV:=hU.below hbV;have gwV:=zgT gwU hbV;have fV:=zb hbV fU;have fV4:=zb hbV fU4;refine DrawE.ord [17] [0,1,2,3,4,5,6,7,8,9,10,11,12,13,14,15,16,17] (by kernel_rfl) ?_;have hVd:ScV V.drew g s (zL s k) o:=hV;refine⟨_,zc hVd.cells (i:=1) rfl,(zL s k+1:Nat),(zk (by omega)).trans (by omega),_,zc hVd.cells (i:=0) rfl,zsd ⟨Gj _ _,?_⟩⟩;have hmin:(if ((s.length:Nat):Int)<((zL s k+1:Nat):Int) then ((s.length:Nat):Int) else ((zL s k+1:Nat):Int))=((min (zL s k+1) s.length:Nat):Int):=by
  split <;> omega
 have e5:Value.int .i64 (if (((bs s).size:Nat):Int)<((zL s k+1:Nat):Int) then (((bs s).size:Nat):Int) else ((zL s k+1:Nat):Int))=i64 (min (zL s k+1) s.length:Nat):=by
  rw [show (bs s).size=s.length from rfl,hmin];rfl
 rw [e5];refine zfT hVd (min (zL s k+1) s.length) fun R hR gR sR=>?_;have gwR:=zh (zh gwV (zi (Gj _ V).drew)) gR;have fR:=keepR gR (hdr fV);have fR4:R.heap[Z.heap.size]?=some (.cells (jj.enc ⟨4,[],zL s k⟩).toArray 311 (0,0)):=(gR.block _ (hlt (hdr fV4)) (fun e=>by simp only [KZ] at e;omega)).trans (hdr fV4);refine⟨_,zc (za hR) (i:=2) rfl,biE (fun ho=>?_) fun ho=>?_⟩
 ·have ho:o=true:=ho;subst ho;rw [zhm hc] at hn;refine zkh hR false fun T hT gT sT=>?_;have gwT:=zh gwR gT;have fT:=keepR gT fR;have fT4:T.heap[Z.heap.size]?=some (.cells (jj.enc ⟨4,[],zL s k⟩).toArray 311 (0,0)):=(gT.block _ (hlt fR4) (fun e=>by simp only [KZ] at e;omega)).trans fR4;exact⟨_,rfl,za fT4,hlt fT4,fillR ⟨4,[],zL s k⟩ T fT _ fun L fL gL=>⟨_,rfl,za fL,_,_,_,true,rfl,fun _=>hn.symm,fun h=>(by cases h),QB _ _,keepS gL (by omega) hT,zf9 gwT gL (by omega)⟩⟩
 ·have ho:o=false:=ho;subst ho;refine biE (fun h5=>?_) fun h5=>?_
  ·have h5:s.length<=zL s k:=dT h5;rw [ziG h5] at hn;exact⟨jj.enc zjT,rfl,fillR zjT R fR _ fun L fL gL=>⟨_,rfl,za fL,_,_,_,false,rfl,fun h=>(by cases h),fun _=>hn.symm,QB _ _,keepS gL (by omega) hR,zf9 gwR gL (by omega)⟩⟩
  ·have h5:¬ s.length<=zL s k:=dF h5;have hl:zL s k<s.length:=by omega
   have h2:qe s[zL s k]=2:=by rw [zc2 hl] at hc;exact dT hc
   rw [ziH hl h2] at hn;have hmn:min (zL s k+1) s.length=zL s k+1:=Uc (by omega);obtain⟨f',rfl⟩:∃ f',f=f'+1:=⟨f-1,by omega⟩;exact⟨(f',min (zL s k+1) s.length,false),(cvE rfl rfl),⟨by show _<=f'+min _ _;omega,QB _ _,hn,hR,gwR,fR⟩,by show s.length-min _ _<s.length-k;omega⟩
def bOp (op:Bool):Nat:=if op then 1 else 0
theorem zl6 {s:List UInt8} {f a a':Nat} {op op':Bool} {t:Tok} (h:zaC s (f+1) a op=some (t,a',op')) :
  (∃ hl:zL s a<s.length,t=zjZ s (zL s a) s[zL s a]/\a'=zbd s (zL s a) s[zL s a]/\op'=true)\/(op=true/\t=⟨4,[],zL s a⟩/\a'=min (zL s a+1) s.length/\op'=false) \/
   (op=false/\zL s a<s.length/\zaC s f (min (zL s a+1) s.length) false=some (t,a',op')):=by
 by_cases hp:zL s a<s.length
 ·by_cases h2:qe s[zL s a]=2
  ·cases op with
   | true =>
    rw [zhm (by rw [zc2 hp];exact Uu h2)] at h;simp only [KZ,UK] at h;exact .inr (.inl ⟨rfl,h.1.symm,h.2.1.symm,h.2.2.symm⟩)
   | false =>
    rw [ziH hp h2] at h;exact .inr (.inr ⟨rfl,hp,h⟩)
  ·rw [zkC hp h2] at h;simp only [KZ,UK] at h;exact .inl ⟨hp,h.1.symm,h.2.1.symm,h.2.2.symm⟩
 ·cases op with
  | true =>
   rw [zhm (zhX (by omega))] at h;simp only [KZ,UK] at h;exact .inr (.inl ⟨rfl,h.1.symm,h.2.1.symm,h.2.2.symm⟩)
  | false=>rw [ziG (by omega)] at h;cases h
theorem zdT {s:List UInt8} {t:Tok} {a':Nat} {op':Bool}:∀ {f a:Nat} {op:Bool},zaC s f a op=some (t,a',op')->a<=s.length ->
  a'<=s.length/\2*(s.length-a')+bOp op'<2*(s.length-a)+bOp op/\(t.kind=3->t.text≠[])/\t.text.length<=s.length
 | 0,_,_,h,_=>by cases h
 | f+1,a,op,h,ha=>by
  have hpa:=zm3 (s:=s) (a:=a);have hpl:=zm2 ha;rcases zl6 h with ⟨hl,rfl,rfl,rfl⟩ | ⟨rfl,rfl,rfl,rfl⟩ | ⟨rfl,hl,h'⟩
  ·obtain⟨e1,e2⟩:=zmp hl s[zL s a];refine⟨e2,?_,fun _=>?_,?_⟩
   ·have:bOp true=1:=rfl;omega
   ·intro he;have h1:((s.drop (zL s a)).take (zbd s (zL s a) s[zL s a]-zL s a)).length=0:=by
     have:(zjZ s (zL s a) s[zL s a]).text=[]:=he;exact Gs List.length this
    rw [Qu,Qt] at h1;omega
   ·show ((s.drop (zL s a)).take _).length<=_;rw [Qu,Qt];omega
  ·refine⟨QB _ _,?_,fun h=>(by cases h),Gg _⟩;have h1:bOp true=1:=rfl;have h0:bOp false=0:=rfl;omega
  ·obtain⟨h1,h2,h3⟩:=zdT h' (QB _ _);refine⟨h1,?_,h3⟩;omega
theorem zil {s:List UInt8} {f a a':Nat} {op op':Bool} {t:Tok} (h:zaC s (s.length+2) a op=some (t,a',op')):zcN s (f+1) a op=t::zcN s f a' op':=by
 show (match zaC s (s.length+2) a op with
  | some (t,a',op')=>t::zcN s f a' op'
  | none=>[])=_
 rw [h]
theorem zik {s:List UInt8} {f a:Nat} {op:Bool} (h:zaC s (s.length+2) a op=none):zcN s (f+1) a op=[]:=by
 show (match zaC s (s.length+2) a op with
  | some (t,a',op')=>t::zcN s f a' op'
  | none=>[])=_
 rw [h]
def StT (pre:List Tok) (vs:List Value) (_:Wd):Prop:=∃ t,pre.getLast?=some t/\vs=[.agg (jj.enc t).toArray,i64 (jt t)]
theorem zpl {g:Nat} {w:Wd}:Calls PG 238 #[At0 g] w fun e w'=>e = .returned (.func (.func 270) #[] #[.pointer (some ⟨w.heap.size,0,none⟩)])/\w'=w.alloc (.cells #[At0 g] 354):=by
 refine zJ 4 [At0 g] Tryz.func238 ?_;exact⟨rfl,rfl⟩
theorem znU {g bx:Nat} {s:List UInt8} {W0:Wd} (h:ScV W0 g s 0 false) (hbx:W0.heap[bx]?=some (.cells #[At0 g] 354 (0,0))) (hne:bx≠g) (hs:s.length<=140737488351232) :
  ztK PG 270 [At0 bx] (qX s) W0 (fun k=>k=bx) (fun k=>k=g) StT:=by
 intro yl Fp J Jx W hsz hrd hrf hJ hJx hy h0;have hbW:W.heap[bx]?=some (.cells #[At0 g] 354 (0,0)):=(hrd bx (.inl rfl)).trans hbx;have hgW:ScV W g s 0 false:=(hrd g (.inr rfl)).trans h;have hbs:bx<W0.heap.size:=hlt hbx;have hgs:g<W0.heap.size:=hlt h;refine zJ 23 [.func (.yield yl) #[] #[],At0 bx] Tryz.func270 ?_
 let Inv:List Tok->Wd->Prop:=fun pre X=>J pre X/\W.heap.size<=X.heap.size/\X.heap[bx]?=some (.cells #[At0 g] 354 (0,0))/\¬ Fp X bx
 have stepG:∀ pre X Y,Inv pre X->X.grownBy Y (some g)->Inv pre Y/\∀ k,Fp Y k->Fp X k:=fun pre X Y ⟨h1,h2,h3,h4⟩ hg=>by
  have hst:StepO W.heap.size (fun k=>k=g) Fp X Y:=⟨hg.os,hg.tape,hg.output,hg.size,fun k hk hf=>hg.block k hk (fun e=>by
   have e:g=k:=(by simpa using e:k=g).symm;rcases hf with hf | hf
   ·exact hf.2 e.symm
   ·exact (hJ.lt _ _ _ h1 hf).2 e.symm)⟩
  obtain⟨j1,j2⟩:=hJ.step _ _ _ h1 hst;refine⟨⟨j1,UU h2 hg.size,(hg.block _ (hlt h3) (fun e=>hne (by simpa using e))).trans h3,fun hf=>h4 (j2 _ hf)⟩,j2⟩
 have stepB:∀ pre X Y,Inv pre X->Bw X Y->Inv pre Y/\∀ k,Fp Y k->Fp X k:=fun pre X Y hI hb=>stepG pre X Y hI (zi hb);have I0:Inv [] W:=⟨h0,Ge _,hbW,hrf bx rfl⟩;refine⟨_,zc (za hbW) (i:=0) rfl,cmo (zp0 hgW (Gg _) hs) ?_⟩;rintro e Y ⟨t,a,op,ok,rfl,hok,hno,ha,hY,gY⟩;obtain⟨I1,_⟩:=stepG [] W Y I0 gY;refine zn (X:=Y) (v := .agg (jj.enc t).toArray) zkN rfl rfl rfl fun Z hbZ fZ sZ=>?_;have fZ:Z.heap[Y.heap.size]?=some (.cells (jj.enc t).toArray 311 (0,0)):=fZ;obtain⟨I2,q2⟩:=stepB [] Y Z I1 hbZ;refine⟨List Tok×Nat×Nat×Bool×Bool×Tok×Nat,fun q=>⟨[(0,.func (.yield yl) #[] #[]),(1,At0 bx),(3,.pointer (some ⟨q.2.2.2.2.2.2,0,none⟩)),(4,.bool q.2.2.2.2.1)],[]⟩,
  fun q X=>Inv q.1 X/\(q.2.2.2.2.1=true->qX s=q.1++q.2.2.2.2.2.1::zcN s q.2.1 q.2.2.1 q.2.2.2.1)/\(q.2.2.2.2.1=false->qX s=q.1)/\(q.2.2.2.2.1=true->2*(s.length-q.2.2.1)+bOp q.2.2.2.1<q.2.1)/\q.2.2.1<=s.length/\ScV X g s q.2.2.1 q.2.2.2.1 /\
   X.heap[q.2.2.2.2.2.2]?=some (.cells (jj.enc q.2.2.2.2.2.1).toArray 311 (0,0))/\W.heap.size<=q.2.2.2.2.2.2/\¬ Fp X q.2.2.2.2.2.2/\(q.2.2.2.2.1=true->(q.2.2.2.2.2.1.kind=3->q.2.2.2.2.2.1.text≠[])/\q.2.2.2.2.2.1.text.length<=s.length),
  fun q=>q.2.1,([],2*s.length+2,a,op,ok,t,Y.heap.size),(cvE rfl rfl),⟨I2,?_,?_,?_,ha,hY.below hbZ,fZ,gY.size,?_,?_⟩,?_⟩
 ·intro h1;exact zil (hok h1)
 ·intro h1;exact zik (hno h1)
 ·intro h3;have:=(zdT (hok h3) (Gg _)).2.1;have h0:bOp false=0:=rfl;dsimp only;omega
 ·intro hf;have h9:Y.heap.size<Y.heap.size:=(hJ.lt _ _ _ I1.1 (q2 _ hf)).1;omega
 ·intro h1;exact (zdT (hok h1) (Gg _)).2.2
 clear I2 q2 fZ hbZ sZ I1 gY hY hok hno ha;rintro⟨pre,f,a,op,ok,t,tb⟩ X ⟨hI,h1,h2,hf,ha,hX,ft,htb,hft,hgd⟩;dsimp only at hI h1 h2 hf ha hX ft htb hft hgd ⊢;refine biE (fun hok=>?_) fun hok=>?_
 ·have hok:ok=true:=hok;subst hok;have h1:=h1 rfl;have hf:=hf rfl;obtain⟨g1,g2⟩:=hgd rfl;have hpre:(pre++[t]) <+: qX s:=⟨zcN s f a op,by rw [h1];simp⟩;refine DrawE.ord [4] [0,1,2,3,4,5] (by kernel_rfl) ⟨_,rfl,za (hdr ft),hlt (hdr ft),_,rfl,za (hdr ft),hlt (hdr ft),cmo (zsz t g1 (by omega) X.drew) ?_⟩;rintro e U ⟨rfl,hbU⟩;refine⟨hbU,?_⟩;have hXU:Bw X U:=(Gj _ X).drew.trans hbU;obtain⟨IU,qU⟩:=stepB pre X U hI hXU;have fU:=zb hXU ft;have hU:=hX.below hXU;have hftU:¬ Fp U tb:=fun h=>hft (qU _ h);refine YieldR.mono (hy pre t _ U IU.1 ⟨t,by simp,rfl⟩ hpre) ?_;rintro v V (⟨rfl,hJV,hKV⟩ | ⟨rfl,hJV⟩)
  ·refine Gp (fun h=>by cases h) (fun _=>?_);have IU':=IU;obtain⟨_,iu2,iu3,iu4⟩:=IU';have hUs:=hKV.size;have hgF:¬ Fp U g:=fun h=>(hJ.lt _ _ _ IU.1 h).2 rfl;have hbV:V.heap[bx]?=_:=(hKV.same bx (hlt iu3) iu4).trans iu3;have hV:ScV V g s a op:=(hKV.same g (hlt hU) hgF).trans hU;have fV:=(hKV.same tb (hlt fU) hftU).trans fU;have nF:∀ k,k<U.heap.size->¬ Fp U k->¬ Fp V k:=fun k hk h1 h2=>by
    rcases hKV.fp k h2 with h3 | h3
    ·exact h1 h3
    ·omega
   have IV:Inv (pre++[t]) V:=⟨hJV,by omega,hbV,nF bx (hlt iu3) iu4⟩;refine⟨_,rfl,za fV,hlt fV,zn (X:=V) (v := .agg (jj.enc t).toArray) zkN rfl rfl rfl fun R hbR fR sR=>?_⟩;have fR:R.heap[V.heap.size]?=some (.cells (jj.enc t).toArray 311 (0,0)):=fR;obtain⟨IR,qR⟩:=stepB (pre++[t]) V R IV hbR;have hnR:¬ Fp R V.heap.size:=fun h=>by have:=(hJ.lt _ _ _ IV.1 (qR _ h)).1;omega
   refine⟨_,zc (za IR.2.2.1) (i:=0) rfl,cmo (zp0 (hV.below hbR) ha hs) ?_⟩;rintro e L ⟨t',a',op',ok',rfl,hok',hno',ha',hL,gL⟩;obtain⟨IL,qL⟩:=stepG (pre++[t]) R L IR gL;have hVs:W.heap.size<=V.heap.size:=IV.2.1;have hgV:g≠V.heap.size:=by omega
   have hbV2:bx≠V.heap.size:=by omega
   have fL:L.heap[V.heap.size]?=some (.cells (jj.enc t).toArray 311 (0,0)):=(gL.block _ (hlt fR) (fun e=>hgV (by simpa using e.symm))).trans fR;refine zr (v := .agg (jj.enc t').toArray) zkN fL rfl rfl rfl ?_;obtain⟨f',rfl⟩:∃ f',f=f'+1:=⟨f-1,by omega⟩;have hnL:¬ Fp L V.heap.size:=fun h=>hnR (qL _ h);have hst:StepO W.heap.size (fun k=>k=g) Fp L (L.setRow V.heap.size (Value.agg (jj.enc t').toArray).cells):=⟨rfl,rfl,rfl,by simp,fun k hk hf=>zo (fun e=>by
    subst e;rcases hf with hf | hf
    ·omega
    ·exact hnL hf)⟩
   obtain⟨j1,j2⟩:=hJ.step _ _ _ IL.1 hst;refine⟨(pre++[t],f',a',op',ok',t',V.heap.size),(cvE rfl rfl),⟨⟨j1,by simp;exact IL.2.1,(zo hbV2).trans IL.2.2.1,fun h=>IL.2.2.2 (j2 _ h)⟩,?_,?_,?_,ha',(zo hgV).trans hL,zm fL,hVs,fun h=>hnL (j2 _ h),?_⟩,by show f'<f'+1;omega⟩
   ·intro h3;rw [h1];show pre++t::zcN s (f'+1) a op=(pre++[t])++_;rw [zil (hok' h3)];simp
   ·intro h3;rw [h1];show pre++t::zcN s (f'+1) a op=pre++[t];rw [zik (hno' h3)]
   ·intro h3;have:=(zdT (hok' h3) ha).2.1;dsimp only;omega
   ·intro h3;exact (zdT (hok' h3) ha).2.2
  ·exact Gp (fun _=>Gp ⟨_,rfl⟩ (.inr ⟨_,hpre,hJV⟩)) (fun h=>by cases h)
 ·have hok:ok=false:=hok;subst hok;have h2:=h2 rfl;exact⟨⟨_,rfl⟩,.inl (by rw [h2];exact hI.1)⟩
def zdZ (s:List UInt8):Bool:=decide (s.length<=16384)&&(qX s).all (fun t=>decide (jt t=0))
theorem zjY {s:List UInt8}:∀ {f a:Nat} {op:Bool},(zcN s f a op).length<=f
 | 0,_,_=>Ge _
 | f+1,a,op=>by
  unfold zcN
  split
  ·exact Nat.succ_le_succ zjY
  ·exact Gg _
def FpX (L:Nat) (X:Wd) (k:Nat):Prop:=k=L\/k=L+1\/k=L+2\/∃ a n cap,X.heap[L]?=some (.cells #[.slice (some a) n cap] 306 (0,0))/\k=a.block
structure ResX (L:Nat) (X:Wd) (v:Value) (pl er:Int):Prop where
 l:X.heap[L]?=some (.cells #[v] 306 (0,0))
 p:X.heap[L+1]?=some (.cells #[i64 pl] 3 (0,0))
 e:X.heap[L+2]?=some (.cells #[i64 er] 42 (0,0))
def JX (w:Wd) (L B:Nat) (pre:List Tok) (X:Wd):Prop:=Bw w X/\(∀ t∈pre,jt t=0)/\∃ p cap,ResX L X (.slice p pre.length cap) 0 0/\OwnS jj 311 B X p cap pre
def JxX (w:Wd) (L:Nat) (pre:List Tok) (X:Wd):Prop:=Bw w X/\(∃ t∈pre,jt t≠0)/\∃ pl er,ResX L X (.slice none 0 0) pl er/\er≠0
theorem FpX.row {L:Nat} {X:Wd} {p:OA} {n cap:Nat} {pl er:Int} (h:ResX L X (.slice p n cap) pl er) {k:Nat} (hf:FpX L X k):k=L\/k=L+1\/k=L+2\/∃ a,p=some a/\k=a.block:=by
 rcases hf with hf | hf | hf | ⟨a,n',cap',h1,h2⟩
 ·exact .inl hf
 ·exact .inr (.inl hf)
 ·exact .inr (.inr (.inl hf))
 ·have:=h.l;rw [h1] at this;simp at this;exact .inr (.inr (.inr ⟨a,this.1.symm,h2⟩))
theorem ResX.same {L:Nat} {A B:Wd} {v:Value} {pl er:Int} (h:ResX L A v pl er) (hs:∀ k,k=L\/k=L+1\/k=L+2->B.heap[k]?=A.heap[k]?):ResX L B v pl er :=
 ⟨(hs L (.inl rfl)).trans h.l,(hs _ (.inr (.inl rfl))).trans h.p,(hs _ (.inr (.inr rfl))).trans h.e⟩
theorem JX.iter {w:Wd} {L B n0 g:Nat} (hw:w.heap.size<=L) (hL:L+2<g) (hg:g<n0) (hB:B=n0):IterJO n0 (fun k=>k=g) (FpX L) (JX w L B):=by
 subst hB;refine⟨fun pre A C ⟨hb,hf,p,cap,hr,ho⟩ hs=>?_,fun pre A k ⟨hb,hf,p,cap,hr,ho⟩ hk=>?_⟩
 ·have hr':ResX L C (.slice p pre.length cap) 0 0:=hr.same fun k hk=>hs.same k (by rcases hk with rfl | rfl | rfl;exact hlt hr.l;exact hlt hr.p;exact hlt hr.e) (.inl ⟨by omega,by omega⟩);have zcI:∀ a,p=some a->C.heap[a.block]?=A.heap[a.block]?:=fun a ha=>by
   rcases ho.inv with ⟨rfl,_⟩ | ⟨g',cur,rfl,_,hg',_⟩
   ·cases ha
   ·cases ha
    exact hs.same _ (hlt hg') (.inr (.inr (.inr (.inr ⟨_,_,_,hr.l,rfl⟩))))
  refine⟨⟨⟨hs.os.trans hb.os,hs.tape.trans hb.tape,hs.output.trans hb.output,UU hb.size hs.size,fun k hk=>(hs.same k (nL hk hb.size) (.inl ⟨by omega,by omega⟩)).trans (hb.block k hk)⟩,hf,p,cap,hr',ho.same zcI⟩,fun k hk=>?_⟩;rcases FpX.row hr' hk with rfl | rfl | rfl | ⟨a,rfl,rfl⟩
  ·exact .inl rfl
  ·exact .inr (.inl rfl)
  ·exact .inr (.inr (.inl rfl))
  ·exact .inr (.inr (.inr ⟨_,_,_,hr.l,rfl⟩))
 ·rcases FpX.row hr hk with rfl | rfl | rfl | ⟨a,rfl,rfl⟩
  ·exact⟨hlt hr.l,by omega⟩
  ·exact⟨hlt hr.p,by omega⟩
  ·exact⟨hlt hr.e,by omega⟩
  ·rcases ho.inv with ⟨h,_⟩ | ⟨g',cur,h,hB,hg',_⟩
   ·cases h
   ·cases h
    exact⟨hlt hg',by show ¬ g'=g;omega⟩
theorem JxX.iter {w:Wd} {L n0 g:Nat} (hw:w.heap.size<=L) (hL:L+2<g) (hg:g<n0):IterJO n0 (fun k=>k=g) (FpX L) (JxX w L):=by
 refine⟨fun pre A C ⟨hb,hf,pl,er,hr,he⟩ hs=>?_,fun pre A k ⟨hb,hf,pl,er,hr,he⟩ hk=>?_⟩
 ·have hr':ResX L C (.slice none 0 0) pl er:=hr.same fun k hk=>hs.same k (by rcases hk with rfl | rfl | rfl;exact hlt hr.l;exact hlt hr.p;exact hlt hr.e) (.inl ⟨by omega,by omega⟩);refine⟨⟨⟨hs.os.trans hb.os,hs.tape.trans hb.tape,hs.output.trans hb.output,UU hb.size hs.size,fun k hk=>(hs.same k (nL hk hb.size) (.inl ⟨by omega,by omega⟩)).trans (hb.block k hk)⟩,hf,pl,er,hr',he⟩,fun k hk=>?_⟩;rcases FpX.row hr' hk with rfl | rfl | rfl | ⟨a,h,_⟩
  ·exact .inl rfl
  ·exact .inr (.inl rfl)
  ·exact .inr (.inr (.inl rfl))
  ·cases h
 ·rcases FpX.row hr hk with rfl | rfl | rfl | ⟨a,h,_⟩
  ·exact⟨hlt hr.l,by omega⟩
  ·exact⟨hlt hr.p,by omega⟩
  ·exact⟨hlt hr.e,by omega⟩
  ·cases h
abbrev nl0:Value := .slice none 0 0
theorem zwX (s:List UInt8) (hs:s.length<=140737488351232) (w:Wd) :
  Calls PG 221 #[zu s] w fun e w'=>∃ p cap n pl er,e = .returned (.tuple #[.slice p n cap,i64 pl,i64 er])/\(zdZ s=true->er=0/\n=(qX s).length/\SlR jj w' p (qX s))/\(zdZ s=false->er≠0)/\Bw w w':=by
 refine qa 27 [zu s] (.c .p (.c .p .p)) Tryz.func221 ?_;obtain⟨L,hL⟩:=nm (w.heap.size);have z1:(w.alloc (.cells #[nl0] 306)).heap.size=L+1:=by rw [wz,hL]
 have z2:((w.alloc (.cells #[nl0] 306)).alloc (.cells #[i64 0] 3)).heap.size=L+2:=by rw [wz,z1]
 obtain⟨W0,hW0⟩:=nm (((w.alloc (.cells #[nl0] 306)).alloc (.cells #[i64 0] 3)).alloc (.cells #[i64 0] 42));have hb0:Bw w W0:=by rw [hW0];exact (((zba _ _)).alloc (by simp) _).alloc (by rw [z2];omega) _
 have hs0:W0.heap.size=L+3:=by rw [hW0,wz,z2]
 have r0:ResX L W0 nl0 0 0:=by
  rw [hW0];refine⟨?_,?_,?_⟩
  ·rw [hL];exact qm _ (qm _ (zz w _))
  ·rw [<- z1];exact qm _ (zz _ _)
  ·rw [<- z2];exact zz _ _
 have p1:some (Value.pointer (some ⟨(w.alloc (.cells #[nl0] 306)).heap.size,0,none⟩))=some (At0 (L+1)):=by rw [z1]
 have p2:some (Value.pointer (some ⟨((w.alloc (.cells #[nl0] 306)).alloc (.cells #[i64 0] 3)).heap.size,0,none⟩))=some (At0 (L+2)):=by rw [z2]
 have put3:∀ (X:Wd) (v0:Value) (a0 b0:Int),ResX L X v0 a0 b0->∀ (pl er:Int) (K:Wd->Prop),(∀ Y,ResX L Y (.slice none 0 0) pl er->Below w.heap.size X Y->X.heap.size=Y.heap.size->(∀ k,k≠L->k≠L+1->k≠L+2->Y.heap[k]?=X.heap[k]?)->K Y) ->
   SatR ((storeVar 306 ⟨L,0,none⟩ (.slice none 0 0)).run PG X) fun _ Y1=>SatR ((storeVar 3 ⟨L+1,0,none⟩ (i64 pl)).run PG Y1) fun _ Y2=>SatR ((storeVar 42 ⟨L+2,0,none⟩ (i64 er)).run PG Y2) fun _ Y3=>K Y3:=by
  intro X v0 a0 b0 hr pl er K k;refine zr (v := .slice none 0 0) zsn hr.l rfl rfl rfl ?_;have q1:(X.setRow L (Value.slice none 0 0).cells).heap[L+1]?=some (.cells #[i64 a0] 3 (0,0)):=(zo (by omega)).trans hr.p;refine zr (v:=i64 pl) k3 q1 rfl rfl rfl ?_;have q2:((X.setRow L (Value.slice none 0 0).cells).setRow (L+1) (i64 pl).cells).heap[L+2]?=some (.cells #[i64 b0] 42 (0,0)):=(zo (by omega)).trans ((zo (by omega)).trans hr.e);refine zr (v:=i64 er) k42 q2 rfl rfl rfl (k _ ⟨?_,?_,zm q2⟩ ?_ (by simp) ?_)
  ·exact (zo (by omega)).trans ((zo (by omega)).trans (zm hr.l))
  ·exact (zo (by omega)).trans (zm q1)
  ·exact zj (zj (zj (Gj _ X) (by omega) _) (by omega) _) (by omega) _
  ·intro k h1 h2 h3;exact (zo h3).trans ((zo h2).trans (zo h1))
 refine⟨Unit,fun _=>⟨[(0,zu s),(2,At0 L),(3,At0 (L+1)),(4,At0 (L+2))],[]⟩,fun _ X=>W0=X,?_,?_⟩
 ·exact⟨(),⟨.cons rfl (.cons (by rw [hL];rfl) (.cons p1 (.cons p2 .nil))),rfl⟩,hW0⟩
 clear hW0 p1 p2 z1 z2;rintro _ _ rfl;refine⟨Unit,fun _=>⟨[(0,zu s),(2,At0 L),(3,At0 (L+1)),(4,At0 (L+2))],[]⟩,fun _ X=>s.length<=16384/\W0=X,?_,?_⟩
 ·refine biE (fun h=>?_) fun h=>?_
  ·have h:(16384:Int)<(s.length:Int):=dT h;have hno:zdZ s=false:=by unfold zdZ;rw [Uj (by omega)];rfl
   exact put3 W0 _ _ _ r0 0 3 _ fun Y hY hb hsz _=>⟨_,zc (za hY.l) (i:=0) rfl,_,zc (za hY.p) (i:=0) rfl,_,zc (za hY.e) (i:=0) rfl,none,0,0,0,3,rfl,fun h=>(by rw [hno] at h;cases h),fun _=>by decide,hb0.trans hb⟩
  ·have h:¬ (16384:Int)<(s.length:Int):=dF h;exact⟨(),(cvE rfl rfl),by omega,rfl⟩
 rintro _ _ ⟨hln,rfl⟩;refine⟨[zu s,i64 0],rfl,[zu s,i64 0,.bool false],rfl,zn (X:=W0) (v := .agg #[zu s,i64 0,.bool false]) zxo rfl rfl rfl fun V hbV fV sV=>?_⟩;have hV:ScV V W0.heap.size s 0 false:=fV;refine cmo zpl ?_;rintro e W1 ⟨rfl,hW1⟩;have sW1:W1.heap.size=W0.heap.size+2:=by rw [hW1,wz,sV]
 have hb1:Bw V W1:=by rw [hW1];exact (zba _ _)
 have hbx:W1.heap[W0.heap.size+1]?=some (.cells #[.pointer (some ⟨W0.heap.size,0,none⟩)] 354 (0,0)):=by
  rw [hW1,<- sV];exact zz V _
 have hg1:ScV W1 W0.heap.size s 0 false:=hV.below hb1;have hb01:Bw W0 W1:=zst hbV hb1;have hbw1:Bw w W1:=zst hb0 hb01;have r1:ResX L W1 nl0 0 0:=r0.same fun k hk=>hb01.block k (by omega);have hlen:(qX s).length<=40000:=UU zjY (by omega);have hok1:(∀ t∈qX s,jt t=0)->zdZ s=true:=fun h=>by
  unfold zdZ;rw [Uu hln,UA,Qj];exact fun t ht=>Uu (h t ht)
 have hok2:(∃ t∈qX s,jt t≠0)->zdZ s=false:=fun ⟨t,ht,hf⟩=>by
  unfold zdZ;rw [Uu hln,UA,KM];exact⟨t,ht,by simpa using hf⟩
 rw [sV];refine zt4 (zbF _) rfl (lb := #[.pointer (some ⟨W0.heap.size+1,0,none⟩)]) rfl rfl (znU hg1 hbx (by omega) hs) (Ge _) (fun k hk=>⟨by rcases hk with rfl | rfl <;> omega,rfl⟩) (fun pre vs W ⟨t,_,h⟩=>by rw [h];rfl) (by decide)
  (FpX L) (JX w L W1.heap.size) (fun ex pre X=>ex = .ret/\JxX w L pre X) ?_ (JX.iter (by omega) (by omega) (by omega) rfl) (fun ex=>?_) ?_ ?_ ?_ ?_
 ·intro k hk hf;rcases FpX.row r1 hf with h | h | h | ⟨a,h,_⟩
  ·omega
  ·omega
  ·omega
  ·cases h
 ·have hJ:=JxX.iter (w:=w) (L:=L) (n0:=W1.heap.size) (g:=W0.heap.size) (by omega) (by omega) (by omega);exact⟨fun pre A C ⟨h1,h2⟩ hs=>⟨⟨h1,(hJ.step _ _ _ h2 hs).1⟩,(hJ.step _ _ _ h2 hs).2⟩,fun pre A k ⟨_,h2⟩ hf=>hJ.lt _ _ _ h2 hf⟩
 ·exact⟨hbw1,fun t ht=>(by cases ht),none,0,r1,.nil⟩
 ·intro yl pre x vs W hyl hpre hJ hst hfy hly;obtain⟨t,ht,rfl⟩:=hst;have ht:t=x:=by simpa using ht.symm
  subst ht;have hIt:=JX.iter (w:=w) (L:=L) (B:=W1.heap.size) (n0:=W1.heap.size) (g:=W0.heap.size) (by omega) (by omega) (by omega) rfl;refine zn (X:=W) (v := .agg (jj.enc t).toArray) zkN rfl rfl rfl fun R hbR fR sR=>?_;have fR:R.heap[W.heap.size]?=some (.cells (jj.enc t).toArray 311 (0,0)):=fR;obtain⟨jR,qR⟩:=hIt.step pre W R hJ (Step.of_below hbR).o;refine⟨rfl,Keeps.of_below hbR (fun k hk => .inl (qR k hk)),jR,?_⟩;rintro o W2 hW2 ⟨hbW,hfl,p,cap,hr,ho⟩ hF2;have f2:W2.heap[W.heap.size]?=some (.cells (jj.enc t).toArray 311 (0,0)):=by rw [hW2,zl (by omega)];exact fR
  have s2:W2.heap.size=R.heap.size:=by rw [hW2];simp [World.putObj]
  have hLW:W1.heap.size<=W.heap.size:=by
   have:=hlt hr.l;obtain⟨hbW',_⟩:=hJ;omega
  refine biE (fun h=>?_) fun h=>?_
  ·have h:jt t≠0:=by
    have h1:(!decide (jt t=0))=true:=h;simpa using h1
   have hrd:ResX L W2.drew (.slice p pre.length cap) 0 0:=⟨hr.l,hr.p,hr.e⟩;have hd:W2.drew.heap.size=W2.heap.size:=rfl;have fin:∀ Y,ResX L Y (.slice none 0 0) t.pos (jt t)->Below w.heap.size W2.drew Y->W2.drew.heap.size=Y.heap.size->(∀ k,k≠L->k≠L+1->k≠L+2->Y.heap[k]?=W2.drew.heap[k]?)->(Exit.ret=Exit.ret/\JxX w L (pre++[t]) Y)/\Keeps (FpX L) W2 Y:=fun Y hY hbY hsY hoY=>by
    have hbY2:Bw w Y:=hbW.trans ((Gj w.heap.size W2).drew.trans hbY);refine⟨⟨rfl,hbY2,⟨t,by simp,h⟩,_,_,hY,h⟩,hbY.os,hbY.tape,hbY.output,by rw [<- hsY,hd];exact Ge _,fun k hk hf=>hoY k (fun e=>hf (.inl e)) (fun e=>hf (.inr (.inl e))) (fun e=>hf (.inr (.inr (.inl e)))),fun k hk=>?_⟩;rcases FpX.row hY hk with h1 | h1 | h1 | ⟨a,h1,_⟩
    ·exact .inl (.inl h1)
    ·exact .inl (.inr (.inl h1))
    ·exact .inl (.inr (.inr (.inl h1)))
    ·cases h1
   refine DrawE.treeQ [3,4,5] (.op 0 (.op 2 (.alt (.op 3 (.op 1 (.op 4 (.op 5 .nil)))) (.op 1 (.op 3 (.op 4 (.op 5 .nil))))))) (by kernel_rfl) (Gp ?_ ?_)
   ·refine zr (v := .slice none 0 0) zsn hrd.l rfl rfl rfl ?_;have q0:(W2.drew.setRow L (Value.slice none 0 0).cells).heap[W.heap.size]?=some (.cells (jj.enc t).toArray 311 (0,0)):=(zo (by omega)).trans (hdr f2);refine⟨_,zc (za q0) (i:=2) rfl,?_⟩;have q1:(W2.drew.setRow L (Value.slice none 0 0).cells).heap[L+1]?=some (.cells #[i64 0] 3 (0,0)):=(zo (by omega)).trans hrd.p;refine zr (v:=i64 t.pos) k3 q1 rfl rfl rfl ?_;have q2:((W2.drew.setRow L (Value.slice none 0 0).cells).setRow (L+1) (i64 t.pos).cells).heap[L+2]?=some (.cells #[i64 0] 42 (0,0)):=(zo (by omega)).trans ((zo (by omega)).trans hrd.e);refine zr (v:=i64 (jt t)) k42 q2 rfl rfl rfl (fin _ ⟨?_,?_,zm q2⟩ ?_ (by simp) ?_)
    ·exact (zo (by omega)).trans ((zo (by omega)).trans (zm hrd.l))
    ·exact (zo (by omega)).trans (zm q1)
    ·exact zj (zj (zj (Gj _ W2.drew) (by omega) _) (by omega) _) (by omega) _
    ·intro k h1 h2 h3;exact (zo h3).trans ((zo h2).trans (zo h1))
   ·exact⟨_,zc (za (hdr f2)) (i:=2) rfl,put3 W2.drew _ _ _ hrd t.pos (jt t) _ fin⟩
  ·have h:jt t=0:=by
    have h1:(!decide (jt t=0))=false:=h;simpa using h1
   refine⟨_,zc (za hr.l) (i:=0) rfl,_,rfl,za f2,hlt f2,⟨by decide,by decide,rfl⟩,jj.enc t,zbA (jj.len t) rfl,?_⟩;have hpl:pre.length+1<=40000:=by
    have:=hpre.length_le;simp at this;omega
   refine jr (E:=jj) (news:=[t]) (B:=W1.heap.size) Tryz.underlying306 zkN rfl rfl rfl (ho.alloc _) rfl (qH jj t) (by simp;omega) (by show pre.length+1<=_;omega) (by show (pre.length+1)*32<=_;omega) ?_;intro p3 cap3 W4 ho4 hg4 hb4 hat;have hL2:L<W2.heap.size:=hlt hr.l;have hr3:ResX L (W2.alloc (.cells (jj.enc t).toArray 311)) (.slice p pre.length cap) 0 0:=⟨qm _ hr.l,qm _ hr.p,qm _ hr.e⟩;have hr4:ResX L W4 (.slice p pre.length cap) 0 0:=hr3.same fun k hk=>hb4.block k (by omega);refine zr (v := .slice p3 (pre++[t]).length cap3) zsn hr4.l rfl rfl rfl ?_;have hr5:ResX L (W4.setRow L (Value.slice p3 (pre++[t]).length cap3).cells) (.slice p3 (pre++[t]).length cap3) 0 0:=⟨zm hr4.l,(zo (by omega)).trans hr4.p,(zo (by omega)).trans hr4.e⟩;have hbB:Below w.heap.size W2 (W4.setRow L (Value.slice p3 (pre++[t]).length cap3).cells) :=
    zj (((Gj _ W2).alloc (by omega) _).trans (hb4.mono (by omega))) (by omega) _
   refine Gp ⟨hbW.trans hbB,fun u hu=>?_,p3,cap3,hr5,ho4.same fun a ha=>?_⟩ ⟨hbB.os,hbB.tape,hbB.output,hbB.size,fun k hk hf=>?_,fun k hk=>?_⟩
   ·rcases QU.1 hu with hu | hu
    ·exact hfl u hu
    ·simp only [KA] at hu;rw [hu];exact h
   ·refine zo ?_;rcases ho4.inv with ⟨h1,_⟩ | ⟨g',_,h1,h2,_⟩
    ·rw [h1] at ha;cases ha
    ·rw [h1] at ha;cases ha;dsimp only;omega
   ·have h1:k≠L:=fun e=>hf (.inl e);rw [zo h1];refine (hg4.block k (by simp;omega) ?_).trans ?_
    ·intro e
     cases p with
     | none=>simp [Value.ownBlock] at e
     | some a =>
      simp only [Value.ownBlock,KZ] at e;exact hf (.inr (.inr (.inr ⟨a,_,_,hr.l,e⟩)))
    ·show (W2.heap.push _)[k]?=_;rw [Array.getElem?_push,Gy (Nat.ne_of_lt hk)]
   ·rcases FpX.row hr5 hk with h1 | h1 | h1 | ⟨a,ha,rfl⟩
    ·exact .inl (.inl h1)
    ·exact .inl (.inr (.inl h1))
    ·exact .inl (.inr (.inr (.inl h1)))
    ·rcases hat a ha with h1 | h1
     ·exact .inl (.inr (.inr (.inr ⟨a,_,_,h1▸hr.l,rfl⟩)))
     ·refine .inr ?_;rw [h1];simp
 ·intro D W hD hfD hJ hdef;obtain⟨hbW,hfl,p,cap,hr,ho⟩:=hJ;refine⟨_,zc (za hr.l) (i:=0) rfl,zr (v := .slice p (qX s).length cap) zsn hr.l rfl rfl rfl ?_⟩;have q1:(W.setRow L (Value.slice p (qX s).length cap).cells).heap[L+1]?=some (.cells #[i64 0] 3 (0,0)):=(zo (by omega)).trans hr.p;refine zr (v:=i64 0) k3 q1 rfl rfl rfl ?_;have q2:((W.setRow L (Value.slice p (qX s).length cap).cells).setRow (L+1) (i64 0).cells).heap[L+2]?=some (.cells #[i64 0] 42 (0,0)):=(zo (by omega)).trans ((zo (by omega)).trans hr.e);refine zr (v:=i64 0) k42 q2 rfl rfl rfl ?_;obtain⟨S,hS⟩:=nm (((W.setRow L (Value.slice p (qX s).length cap).cells).setRow (L+1) (i64 0).cells).setRow (L+2) (i64 0).cells);have rS:ResX L S (.slice p (qX s).length cap) 0 0:=by
   rw [hS];exact⟨(zo (by omega)).trans ((zo (by omega)).trans (zm hr.l)),(zo (by omega)).trans (zm q1),zm q2⟩
  have bS:Below w.heap.size W S:=by rw [hS];exact zj (zj (zj (Gj _ W) (by omega) _) (by omega) _) (by omega) _
  have oS:∀ k,k≠L->k≠L+1->k≠L+2->S.heap[k]?=W.heap[k]?:=fun k h1 h2 h3=>by rw [hS];exact (zo h3).trans ((zo h2).trans (zo h1))
  have dS:S.heap[D]?=some (.deferred (some [])):=(oS D (by omega) (by omega) (by omega)).trans hdef;rw [<- hS];refine⟨_,rfl,dS,?_⟩;have rP:ResX L (S.putObj D (.deferred none)) (.slice p (qX s).length cap) 0 0:=rS.same fun k hk=>zl (by omega);refine⟨_,zc (za rP.l) (i:=0) rfl,_,zc (za rP.p) (i:=0) rfl,_,zc (za rP.e) (i:=0) rfl,p,cap,(qX s).length,0,0,rfl,fun _=>⟨rfl,rfl,?_⟩,fun h=>?_,jh (hbW.trans bS) (by omega) _⟩
  ·exact (ho.same fun a ha=>by
    have hne:a.block≠L/\a.block≠L+1/\a.block≠L+2/\a.block≠D:=by
     rcases ho.inv with ⟨h1,_⟩ | ⟨g',_,h1,h2,h3,_⟩
     ·rw [h1] at ha;cases ha
     ·rw [h1] at ha;cases ha;refine⟨by dsimp only;omega,by dsimp only;omega,by dsimp only;omega,fun e=>?_⟩;have e:g'=D:=e;rw [e,hdef] at h3;cases h3
    exact (zl hne.2.2.2).trans (oS _ hne.1 hne.2.1 hne.2.2.1)).row
  ·rw [hok1 hfl] at h;cases h
 ·rintro D ex pre W hD hfD hpre ⟨rfl,hbW,⟨t,ht,hft⟩,pl,er,hr,her⟩ hdef;refine⟨_,rfl,hdef,?_⟩;have rP:ResX L (W.putObj D (.deferred none)) (.slice none 0 0) pl er:=hr.same fun k hk=>zl (by omega);refine⟨_,zc (za rP.l) (i:=0) rfl,_,zc (za rP.p) (i:=0) rfl,_,zc (za rP.e) (i:=0) rfl,none,0,0,pl,er,rfl,fun h=>?_,fun _=>her,jh hbW (by omega) _⟩;rw [hok2 ⟨t,hpre.subset ht,hft⟩] at h;cases h
theorem zqk (s:List UInt8) (hs:s.length<=140737488351232) (w:Wd):CB 182 #[zu s] w (.bool (zem s)):=by
 refine zJ 34 [zu s] Tryz.func182 ?_;have hdef:zem s=(zdZ s&&zpk (qX s) s):=by
  unfold zem zdZ;rw [Bool.and_assoc]
 refine cmo (zwX s hs w) ?_;rintro e V ⟨p,cap,n,pl,er,rfl,h1,h2,hb⟩
 cases hk:zdZ s with
 | false =>
  have her:=h2 hk;rw [hdef,hk,Ul];exact brN (by exact Uj her) (brF (brF ⟨rfl,hb⟩))
 | true =>
  obtain⟨rfl,rfl,hr⟩:=h1 hk;rw [hdef,hk,UA];refine brT (biE (fun h=>?_) fun h=>?_)
  ·have h:(qX s).length=2:=by have h:((qX s).length:Int)=2:=dT h;omega
   match hx:qX s,h with
   | [t,u],_ =>
    rw [hx] at hr;obtain⟨b,o,rfl,hbb,hc⟩:=hr.at (i:=0) (by simp);have hc:=hc 0 (by simp);refine⟨0,rfl,(by show 0<2;omega),_,zc hc (i:=0) rfl,?_⟩;have kd:decide ((t.kind.toNat:Int)=1)=decide (t.kind=1):=(by rw [QH];exact qG (y:=1));refine biE (fun h=>?_) fun h=>?_
    ·have h:decide (t.kind=1)=true:=kd.symm.trans h;exact⟨0,rfl,(by show 0<2;omega),_,zc hc (i:=1) rfl,_,fun w=>zF _ _ t.text s w,rb (by unfold zpk;simp only [h,UA]),hb⟩
    ·have h:decide (t.kind=1)=false:=kd.symm.trans h;exact⟨rb (by unfold zpk;simp only [h,Ul]),hb⟩
  ·have h:¬ (qX s).length=2:=by have h:¬ ((qX s).length:Int)=2:=dF h;omega
   refine brF ⟨rb ?_,hb⟩;have gen:∀ l:List Tok,¬ l.length=2->false=zpk l s:=fun l hl=>by
    match l,hl with
    | [],_=>rfl
    | [_],_=>rfl
    | [_,_],hl=>exact GA rfl hl
    | _::_::_::_,_=>rfl
   exact gen _ h
theorem zvs (s:List UInt8) (w:Wd):Calls PG 240 #[zu s] w fun e w'=>e = .returned (.bool (zhx s))/\w=w':=by
 refine zJ 22 [zu s] Tryz.func240 ?_;refine⟨_,fun w=>zF _ _ s [116,101,115,116] w,?_⟩;refine biE (fun h=>?_) fun h0=>?_
 ·refine brE h ?_;exact⟨rb (Qk.2 ⟨[116,101,115,116],by decide,h⟩).symm,rfl⟩
 refine⟨_,fun w=>zF _ _ s [105,110,105,116] w,?_⟩;refine biE (fun h=>?_) fun h1=>?_
 ·refine brE h ?_;exact⟨rb (Qk.2 ⟨[105,110,105,116],by decide,h⟩).symm,rfl⟩
 refine⟨_,fun w=>zF _ _ s [116,104,114,101,97,100] w,?_⟩;refine biE (fun h=>?_) fun h2=>?_
 ·refine brE h ?_;exact⟨rb (Qk.2 ⟨[116,104,114,101,97,100],by decide,h⟩).symm,rfl⟩
 refine⟨_,fun w=>zF _ _ s [115,111,109,101] w,?_⟩;refine biE (fun h=>?_) fun h3=>?_
 ·refine brE h ?_;exact⟨rb (Qk.2 ⟨[115,111,109,101],by decide,h⟩).symm,rfl⟩
 refine⟨_,fun w=>zF _ _ s [110,111,110,101] w,?_⟩;refine biE (fun h=>?_) fun h4=>?_
 ·refine brE h ?_;exact⟨rb (Qk.2 ⟨[110,111,110,101],by decide,h⟩).symm,rfl⟩
 refine⟨_,fun w=>zF _ _ s [97,108,108] w,?_⟩;refine biE (fun h=>?_) fun h5=>?_
 ·refine brE h ?_;exact⟨rb (Qk.2 ⟨[97,108,108],by decide,h⟩).symm,rfl⟩
 refine⟨_,fun w=>zF _ _ s [97,99,113] w,?_⟩;refine biE (fun h=>?_) fun h6=>?_
 ·refine brE h ?_;exact⟨rb (Qk.2 ⟨[97,99,113],by decide,h⟩).symm,rfl⟩
 refine⟨_,fun w=>zF _ _ s [114,101,108] w,?_⟩;refine biE (fun h=>?_) fun h7=>?_
 ·refine brE h ?_;exact⟨rb (Qk.2 ⟨[114,101,108],by decide,h⟩).symm,rfl⟩
 refine⟨_,fun w=>zF _ _ s [115,119,97,112] w,?_⟩;refine biE (fun h=>?_) fun h8=>?_
 ·refine brE h ?_;exact⟨rb (Qk.2 ⟨[115,119,97,112],by decide,h⟩).symm,rfl⟩
 refine⟨_,fun w=>zF _ _ s [102,101,116,99,104] w,?_⟩;refine biE (fun h=>?_) fun h9=>?_
 ·refine brE h ?_;exact⟨rb (Qk.2 ⟨[102,101,116,99,104],by decide,h⟩).symm,rfl⟩
 refine⟨_,fun w=>zF _ _ s [99,97,115] w,?_⟩;refine biE (fun h=>?_) fun h10=>?_
 ·refine brE h ?_;exact⟨rb (Qk.2 ⟨[99,97,115],by decide,h⟩).symm,rfl⟩
 refine⟨_,fun w=>zF _ _ s [102,101,110,99,101] w,?_⟩;refine biE (fun h=>?_) fun h11=>?_
 ·refine brE h ?_;exact⟨rb (Qk.2 ⟨[102,101,110,99,101],by decide,h⟩).symm,rfl⟩
 refine⟨_,fun w=>zF _ _ s [108,111,97,100,115] w,?_⟩;refine biE (fun h=>?_) fun h12=>?_
 ·refine brE h ?_;exact⟨rb (Qk.2 ⟨[108,111,97,100,115],by decide,h⟩).symm,rfl⟩
 refine⟨_,fun w=>zF _ _ s [115,116,111,114,101,115] w,?_⟩;refine biE (fun h=>?_) fun h13=>?_
 ·refine brE h ?_;exact⟨rb (Qk.2 ⟨[115,116,111,114,101,115],by decide,h⟩).symm,rfl⟩
 refine⟨_,fun w=>zF _ _ s [115,107,105,112] w,?_⟩;refine biE (fun h=>?_) fun h14=>?_
 ·refine brE h ?_;exact⟨rb (Qk.2 ⟨[115,107,105,112],by decide,h⟩).symm,rfl⟩
 refine⟨_,fun w=>zF _ _ s [105,102] w,?_⟩;refine biE (fun h=>?_) fun h15=>?_
 ·refine brE h ?_;exact⟨rb (Qk.2 ⟨[105,102],by decide,h⟩).symm,rfl⟩
 refine⟨_,fun w=>zF _ _ s [116,114,117,101] w,?_⟩;refine biE (fun h=>?_) fun h16=>?_
 ·exact⟨rb (Qk.2 ⟨[116,114,117,101],by decide,h⟩).symm,rfl⟩
 exact⟨rb (by unfold zhx ztx;simp only [UE,List.any_nil,h0,h1,h2,h3,h4,h5,h6,h7,h8,h9,h10,h11,h12,h13,h14,h15,h16];rfl),rfl⟩
theorem zvn (s:List UInt8) (hs:s.length<=140737488351232) (w:Wd):Calls PG 222 #[zu s] w fun e w'=>e = .returned (.bool (zfq s))/\w=w':=by
 refine qa 55 [zu s] (.s .p (.c .p (.s .p (.c .p .p)))) Tryz.func222 ?_;refine⟨Unit,fun _=>⟨[(0,zu s)],[]⟩,fun _ X=>(∃ c r,s=c::r/\r.length+1<=16/\qe c=3/\zhx s=false)/\w=X,?_,?_⟩
 ·refine biE (fun h=>?_) fun h=>?_
  ·have h:(s.length:Int)<1:=dT h;have h0:s=[]:=Jf (by omega);subst h0;refine brT ?_;refine brT ?_;refine brT ?_;exact⟨rfl,rfl⟩
  have h:¬ (s.length:Int)<1:=dF h;obtain⟨c,r,rfl⟩:∃ c r,s=c::r:=by
   cases s with
   | nil=>simp at h
   | cons c r=>exact⟨c,r,rfl⟩
  have hdef:zfq (c::r)=(decide (r.length+1<=16)&&(decide (qe c=3)&&(!zhx (c::r)&&(r.all qz&&(!decide (c=114)||(decide (qW r=0)||decide (qW r<r.length))))))):=rfl;have hsz:(((bs (c::r)).size:Nat):Int)=(r.length+1:Nat):=rfl;refine biE (fun h2=>?_) fun h2=>?_
  ·have h2:(16:Int)<((r.length+1:Nat):Int):=dT h2;refine brT ?_;refine brT ?_;exact⟨rb (by rw [hdef,Uj (by omega)];rfl),rfl⟩
  have h2:¬ (16:Int)<((r.length+1:Nat):Int):=dF h2;refine⟨0,rfl,Nat.succ_pos _,c,rfl,?_⟩;refine cmo (zab c _) ?_;rintro e _ ⟨rfl,rfl⟩;refine biE (fun h3=>?_) fun h3=>?_
  ·have h3:¬ qe c=3:=by
    have h1:(!decide ((qe c:Int)=3))=true:=h3;simp at h1;omega
   refine brT ?_;exact⟨rb (by rw [hdef,Uj h3];simp),rfl⟩
  have h3:qe c=3:=by
   have h1:(!decide ((qe c:Int)=3))=false:=h3;simp at h1;omega
  refine cmo (zvs (c::r) _) ?_;rintro e _ ⟨rfl,rfl⟩;refine biE (fun h4=>?_) fun h4=>?_
  ·have h4:zhx (c::r)=true:=h4;exact⟨rb (by rw [hdef,h4];simp),rfl⟩
  ·exact⟨(),(cvE rfl rfl),⟨c,r,rfl,by omega,h3,h4⟩,rfl⟩
 rintro _ _ ⟨⟨c,r,rfl,h1,h3,h4⟩,rfl⟩;have hdef:zfq (c::r)=(r.all qz&&(!decide (c=114)||(decide (qW r=0)||decide (qW r<r.length)))):=by
  show (decide (r.length+1<=16)&&(decide (qe c=3)&&(!zhx (c::r)&&(r.all qz&&(!decide (c=114)||(decide (qW r=0)||decide (qW r<r.length)))))))=_;rw [Uu h1,Uu h3,h4];rfl
 rw [hdef];refine⟨Unit,fun _=>⟨[(0,zu (c::r)),(3,i64 (qW r:Nat))],[]⟩,fun _ X=>r.all qz=true/\w=X,?_,?_⟩
 ·refine⟨Nat,fun k=>⟨[(0,zu (c::r)),(3,i64 (qW (r.take k):Nat)),(4,i64 (k+1:Nat))],[]⟩,fun k X=>k<=r.length/\(∀ d∈r.take k,qz d=true)/\qW (r.take k)<=k/\w=X,fun k=>r.length-k,0,(cvE rfl rfl),⟨Gg _,by simp,Ge _,rfl⟩,?_⟩;rintro k _ ⟨hk,hw,hdk,rfl⟩;dsimp only at hk hw hdk ⊢;refine biE (fun hc=>?_) fun hc=>?_
  ·have hc:((k+1:Nat):Int)<((r.length+1:Nat):Int):=dT hc;have hl:k<r.length:=by omega
   have hat:(bs (c::r)).data.toList[k+1]?=some r[k]:=by
    show (c::r)[k+1]?=_;rw [Ju,gE hl]
   refine⟨k+1,rfl,(by show k+1<r.length+1;omega),r[k],hat,?_⟩;refine cmo (zkS _ _) ?_;rintro e _ ⟨rfl,rfl⟩;refine biE (fun hi=>?_) fun hi=>?_
   ·have hi:(!qz r[k])=true:=hi;have hi:qz r[k]=false:=(by simpa using hi);have:r.all qz=false:=by
     rw [KM];exact⟨r[k],gM _,by rw [hi];simp⟩
    exact⟨rb (by rw [this];rfl),rfl⟩
   have hi:(!qz r[k])=false:=hi;have hi:qz r[k]=true:=by simpa using hi
   have hw':∀ d∈r.take (k+1),qz d=true:=by
    rw [tsg hl];intro d hd;rcases QU.1 hd with hd | hd
    ·exact hw d hd
    ·simp only [KA] at hd;rw [hd];exact hi
   have hds:qW (r.take (k+1))=qW (r.take k)+(if zbH r[k]=true then 1 else 0):=by
    unfold qW;rw [tsg hl,Kv,lap];congr 1;by_cases h:zbH r[k]=true
    ·rw [Gz h,List.filter_cons_of_pos h];rfl
    ·rw [Gy h,List.filter_cons_of_neg h];rfl
   refine⟨k+1,rfl,(by show k+1<r.length+1;omega),r[k],hat,?_⟩;refine cmo (zab _ _) ?_;rintro e _ ⟨rfl,rfl⟩;have hd:decide ((qe r[k]:Int)=4)=zbH r[k]:=zcy (b:=4);refine biE (fun hg=>?_) fun hg=>?_
   ·have hg:zbH r[k]=true:=hd.symm.trans hg;rw [Gz hg] at hds;refine⟨(qW (r.take (k+1)):Int),(zk (by omega)).trans (by omega),?_⟩;refine⟨((k+1+1:Nat):Int),(zk (by omega)).trans (by omega),?_⟩;exact⟨k+1,(cvE rfl rfl),⟨hl,hw',by omega,rfl⟩,zdc (by omega)⟩
   ·have hg:¬ zbH r[k]=true:=(by rw [Qi];exact hd.symm.trans hg);rw [Gy hg] at hds;refine⟨((k+1+1:Nat):Int),(zk (by omega)).trans (by omega),?_⟩;exact⟨k+1,⟨.cons rfl (.cons (by rw [hds];rfl) (.cons rfl .nil)),rfl⟩,⟨hl,hw',by omega,rfl⟩,zdc (by omega)⟩
  ·have hc:¬ ((k+1:Nat):Int)<((r.length+1:Nat):Int):=dF hc;obtain rfl:k=r.length:=by omega
   rw [Qw] at hw;exact⟨(),⟨.cons rfl (.cons (by rw [Qw];rfl) .nil),rfl⟩,Qj.2 hw,rfl⟩
 rintro _ _ ⟨hall,rfl⟩;rw [hall,UA];have hdl:qW r<=r.length:=JL _ _;refine⟨0,rfl,Nat.succ_pos _,c,rfl,?_⟩;have cd:decide ((c.toNat:Int)=114)=decide (c=114):=by rw [QH];exact qG (y:=114)
 refine biE (fun h=>?_) fun h=>?_
 ·have h:(!decide (c=114))=true:=by
   have h:(!decide ((c.toNat:Int)=114))=true:=h
   rwa [cd] at h
  refine brT ?_;exact⟨rb (by rw [h];rfl),rfl⟩
 have h:(!decide (c=114))=false:=by
  have h:(!decide ((c.toNat:Int)=114))=false:=h
  rwa [cd] at h
 rw [h,Ux];refine biE (fun h5=>?_) fun h5=>?_
 ·have h5:qW r=0:=by have h5:(qW r:Int)=0:=dT h5;omega
  exact⟨rb (by rw [Uu h5];rfl),rfl⟩
 have h5:¬ qW r=0:=by have h5:¬ (qW r:Int)=0:=dF h5;omega
 refine⟨(r.length:Nat),(zk (by show -9223372036854775808<=((r.length+1:Nat):Int)-1/\((r.length+1:Nat):Int)-1<=9223372036854775807;omega)).trans (by show ((r.length+1:Nat):Int)-1=_;omega),?_⟩;exact⟨rb (by rw [Uj h5,Ux,QH];omega),rfl⟩
theorem ztj (p:OA) (cap:Nat) (l:List (List UInt8)) (s:List UInt8) (w:Wd) (hl:SlR zma w p l) (hn:l.length<=140737488351232) :
  Calls PG 242 #[.slice p l.length cap,zu s] w fun e w'=>∃ n:Int,e = .returned (i64 n)/\decide (0<=n)=l.any (fun q=>decide (q=s))/\w=w':=by
 refine zJ 19 [.slice p l.length cap,zu s] Tryz.func242 ?_;refine⟨Nat,fun k=>⟨[(0,.slice p l.length cap),(1,zu s),(7,i64 l.length),(8,i64 (k:Nat))],[]⟩,fun k X=>k<=l.length/\(∀ q∈l.take k,¬ q=s)/\w=X,fun k=>l.length-k,0,(cvE rfl rfl),⟨Gg _,by simp,rfl⟩,?_⟩;rintro k _ ⟨hk,hno,rfl⟩;dsimp only at hk hno ⊢;refine biE (fun hc=>?_) fun hc=>?_
 ·have hc:(k:Int)<(l.length:Int):=dT hc;have hkl:k<l.length:=by omega
  obtain⟨b,o,rfl,hb,hat⟩:=hl.at hkl;refine⟨k,rfl,hkl,?_⟩;refine⟨_,zc (hat k hkl) (i:=0) rfl,?_⟩;refine⟨_,fun w=>zF _ _ s l[k] w,?_⟩;refine biE (fun h=>?_) fun h=>?_
  ·have h:s=l[k]:=dT h;refine⟨k,rfl,?_,rfl⟩;rw [Uu (by omega)];symm;rw [Qk];exact⟨l[k],gM _,Uu h.symm⟩
  ·have h:¬ s=l[k]:=dF h;refine⟨(k+1:Nat),(zk (by omega)).trans (by omega),?_⟩;refine⟨k+1,(cvE rfl rfl),⟨hkl,?_,rfl⟩,zdc (by omega)⟩;rw [tsg hkl];intro q hq;rcases QU.1 hq with hq | hq
   ·exact hno q hq
   ·simp only [KA] at hq;rw [hq];exact fun e=>h e.symm
 ·have hc:¬ (k:Int)<(l.length:Int):=dF hc;obtain rfl:k=l.length:=by omega
  rw [Qw] at hno;refine⟨-1,rfl,?_,rfl⟩;symm;show _=false;rw [KN];exact fun q hq=>by simpa using hno q hq
theorem zmG (p:OA) (cap:Nat) (l:List (List UInt8)) (s:List UInt8) (w:Wd) (hl:SlR zma w p l) (hn:l.length<=140737488351232) :
  Calls PG 223 #[.slice p l.length cap,zu s] w fun e w'=>e = .returned (.bool (l.any fun q=>decide (q=s)))/\w=w':=by
 refine zJ 9 [.slice p l.length cap,zu s] Tryz.func223 ?_;refine cmo (ztj p cap l s w hl hn) ?_;rintro e _ ⟨n,rfl,h,rfl⟩;exact⟨rb h,rfl⟩
def GlobC (w : Wd) : Prop := zw w ⟨8, 0, none⟩ (zfo.map u8)
theorem GlobC.below {w w2 : Wd} (h : GlobC w) (hb : Below w.heap.size w w2) : GlobC w2 := zt hb h
def spC (x : InsD) (locs after : Nat) : List Value := [u8 x.op, u8 x.dst, u8 x.loc, .bool x.ar, u8 x.an, .bool x.br, u8 x.bn, u8 x.fn, u8 x.mode, u8 x.skip, i64 locs, i64 after]
theorem u8d (x k : UInt8) : decide ((x.toNat : Int) = (k.toNat : Int)) = decide (x = k) := by rw [QH]; exact qG
theorem ztR (a b : UInt8) : IntKind.u8.wrap ((BitVec.ofInt IntKind.u8.bits (a.toNat : Int) &&& BitVec.ofInt IntKind.u8.bits (b.toNat : Int)).toNat : Int) = ((a &&& b).toNat : Int) := by
  have h : ∀ x : UInt8, BitVec.ofInt 8 (x.toNat : Int) = x.toBitVec := fun x => by
    apply BitVec.eq_of_toNat_eq
    rw [Ks]
    have := x.toNat_lt
    show ((x.toNat : Int) % (2 ^ 8 : Nat)).toNat = x.toNat
    omega
  show IntKind.u8.wrap ((BitVec.ofInt 8 (a.toNat : Int) &&& BitVec.ofInt 8 (b.toNat : Int)).toNat : Int) = _
  rw [h, h]
  have e : (a.toBitVec &&& b.toBitVec).toNat = (a &&& b).toNat := rfl
  rw [e]
  have := (a &&& b).toNat_lt
  exact zgH (by omega)
theorem zfA {g locs after : Nat} {x : InsD} {w : Wd} (bit : UInt8) (h : zw w ⟨g, 0, none⟩ (spC x locs after)) (hop : x.op.toNat ≤ 8) (hG : GlobC w) :
    Calls PG 248 #[.pointer (some ⟨g, 0, none⟩), u8 bit] w fun e w' => e = .returned (.bool (jI x.op bit)) ∧ w = w' := by
  refine q8 (S := sg 15) (zbF _) (args := [.pointer (some ⟨g, 0, none⟩), u8 bit]) Tryz.func248 rfl rfl (JS rfl) rfl ?_
  refine ⟨_, zc h (i := 0) rfl, ?_⟩
  refine ⟨x.op.toNat, rfl, (by show x.op.toNat < 9; omega), ?_⟩
  have hn : (zfo.map u8)[x.op.toNat]? = some (u8 (zfo.getD x.op.toNat 0)) := by
    have hl : x.op.toNat < zfo.length := by show _ < 9; omega
    rw [KU, Jt hl, List.getD_eq_getElem?_getD, Jt hl]; rfl
  refine ⟨u8 (zfo.getD x.op.toNat 0), by rw [Gf]; exact zc hG hn, ?_⟩
  refine ⟨((zfo.getD x.op.toNat 0 &&& bit).toNat : Int), ztR _ _, ?_⟩
  exact ⟨rb (by unfold jI; rw [← u8d]; rfl), rfl⟩
theorem zhZ (r : Bool) (n : UInt8) (w : Wd) : Calls PG 250 #[.agg #[.bool r, u8 n]] w fun e w' => e = .returned (.bool (zmF r n)) ∧ Below w.heap.size w w' := by
  refine q8 (S := sg 11) (zbF _) (args := [.agg #[.bool r, u8 n]]) Tryz.func250 rfl rfl (JS rfl) rfl ?_
  have hb0 : Below w.heap.size w (w.alloc (.cells #[.bool r, u8 n] 94)) := (Gj _ _).alloc (Ge _) _
  have c0 := za (zz w (.cells #[.bool r, u8 n] 94))
  refine ⟨_, zc c0 (i := 0) rfl, ?_⟩
  cases r with
  | false =>
    refine brT ?_
    exact ⟨rfl, hb0⟩
  | true =>
    refine brF ?_
    refine ⟨_, zc c0 (i := 1) rfl, ?_⟩
    refine ⟨rb ?_, hb0⟩
    show decide ((n.toNat : Int) < 8) = decide (n.toNat < 8)
    rw [QH]; omega
theorem zkD {g locs after : Nat} {x : InsD} {w : Wd} (h : zw w ⟨g, 0, none⟩ (spC x locs after)) :
    Calls PG 251 #[.pointer (some ⟨g, 0, none⟩)] w fun e w' => e = .returned (.bool (zfr x)) ∧ w = w' := by
  refine q8 (S := sg 64) (zbF _) (args := [.pointer (some ⟨g, 0, none⟩)]) Tryz.func251 rfl rfl (JS rfl) rfl ?_
  refine ⟨_, zc h (i := 0) rfl, ?_⟩
  refine Gp (fun h1 => ?_) (fun h1 => ?_)
  · have h1 : x.op = 1 := Qc ((u8d x.op 1).symm.trans h1)
    have e : zfr x = (decide (x.mode = 0) || decide (x.mode = 1)) := by unfold zfr; rw [Gz h1]
    rw [e, ← u8d, ← u8d]
    refine ⟨_, zc h (i := 8) rfl, ?_⟩
    refine Gp (fun h2 => ?_) (fun h2 => ?_)
    · exact ⟨rb (by have h2 : decide ((x.mode.toNat : Int) = ((0 : UInt8).toNat : Int)) = true := h2
                    rw [h2]; rfl), rfl⟩
    · refine ⟨_, zc h (i := 8) rfl, ?_⟩
      exact ⟨rb (by have h2 : decide ((x.mode.toNat : Int) = ((0 : UInt8).toNat : Int)) = false := h2
                    rw [h2]; rfl), rfl⟩
  have h1 : ¬ x.op = 1 := KI ((u8d x.op 1).symm.trans h1)
  refine Gp (fun h2 => ?_) (fun h2 => ?_)
  · have h2 : x.op = 2 := Qc ((u8d x.op 2).symm.trans h2)
    have e : zfr x = (decide (x.mode = 0) || decide (x.mode = 2)) := by unfold zfr; rw [Gy h1, Gz h2]
    rw [e, ← u8d, ← u8d]
    refine ⟨_, zc h (i := 8) rfl, ?_⟩
    refine Gp (fun h2 => ?_) (fun h2 => ?_)
    · exact ⟨rb (by have h2 : decide ((x.mode.toNat : Int) = ((0 : UInt8).toNat : Int)) = true := h2
                    rw [h2]; rfl), rfl⟩
    · refine ⟨_, zc h (i := 8) rfl, ?_⟩
      exact ⟨rb (by have h2 : decide ((x.mode.toNat : Int) = ((0 : UInt8).toNat : Int)) = false := h2
                    rw [h2]; rfl), rfl⟩
  have h2 : ¬ x.op = 2 := KI ((u8d x.op 2).symm.trans h2)
  refine Gp (fun h3 => ?_) (fun h3 => ?_)
  · have h3 : x.op = 7 := Qc ((u8d x.op 7).symm.trans h3)
    have e : zfr x = (decide (x.mode = 3) || (decide (x.mode = 4) || decide (x.mode = 5))) := by unfold zfr; rw [Gy h1, Gy h2, Gz h3]
    rw [e, ← u8d, ← u8d, ← u8d]
    refine ⟨_, zc h (i := 8) rfl, ?_⟩
    refine Gp (fun h4 => ?_) (fun h4 => ?_)
    · refine brT ?_
      exact ⟨rb (by have h4 : decide ((x.mode.toNat : Int) = ((3 : UInt8).toNat : Int)) = true := h4
                    rw [h4]; rfl), rfl⟩
    have h4 : decide ((x.mode.toNat : Int) = ((3 : UInt8).toNat : Int)) = false := h4
    refine ⟨_, zc h (i := 8) rfl, ?_⟩
    refine Gp (fun h5 => ?_) (fun h5 => ?_)
    · exact ⟨rb (by have h5 : decide ((x.mode.toNat : Int) = ((4 : UInt8).toNat : Int)) = true := h5
                    rw [h4, h5]; rfl), rfl⟩
    have h5 : decide ((x.mode.toNat : Int) = ((4 : UInt8).toNat : Int)) = false := h5
    refine ⟨_, zc h (i := 8) rfl, ?_⟩
    exact ⟨rb (by rw [h4, h5]; rfl), rfl⟩
  have h3 : ¬ x.op = 7 := KI ((u8d x.op 7).symm.trans h3)
  exact ⟨rb (by unfold zfr; rw [Gy h1, Gy h2, Gy h3]), rfl⟩
theorem zoF {g locs after : Nat} {x : InsD} {w : Wd} (h : zw w ⟨g, 0, none⟩ (spC x locs after)) :
    Calls PG 252 #[.pointer (some ⟨g, 0, none⟩)] w fun e w' => e = .returned (.bool (fnL x)) ∧ w = w' := by
  refine q8 (S := sg 56) (zbF _) (args := [.pointer (some ⟨g, 0, none⟩)]) Tryz.func252 rfl rfl (JS rfl) rfl ?_
  refine ⟨_, zc h (i := 0) rfl, ?_⟩
  refine Gp (fun h1 => ?_) (fun h1 => ?_)
  · have h1 : x.op = 3 := Qc ((u8d x.op 3).symm.trans h1)
    have e : fnL x = (decide (x.fn = 1) || (decide (x.fn = 2) || decide (x.fn = 3))) := by unfold fnL; rw [Gz h1]
    rw [e, ← u8d, ← u8d, ← u8d]
    refine ⟨_, zc h (i := 7) rfl, ?_⟩
    refine Gp (fun h4 => ?_) (fun h4 => ?_)
    · refine brT ?_
      exact ⟨rb (by have h4 : decide ((x.fn.toNat : Int) = ((1 : UInt8).toNat : Int)) = true := h4
                    rw [h4]; rfl), rfl⟩
    have h4 : decide ((x.fn.toNat : Int) = ((1 : UInt8).toNat : Int)) = false := h4
    refine ⟨_, zc h (i := 7) rfl, ?_⟩
    refine Gp (fun h5 => ?_) (fun h5 => ?_)
    · exact ⟨rb (by have h5 : decide ((x.fn.toNat : Int) = ((2 : UInt8).toNat : Int)) = true := h5
                    rw [h4, h5]; rfl), rfl⟩
    have h5 : decide ((x.fn.toNat : Int) = ((2 : UInt8).toNat : Int)) = false := h5
    refine ⟨_, zc h (i := 7) rfl, ?_⟩
    exact ⟨rb (by rw [h4, h5]; rfl), rfl⟩
  have h1 : ¬ x.op = 3 := KI ((u8d x.op 3).symm.trans h1)
  refine Gp (fun h2 => ?_) (fun h2 => ?_)
  · have h2 : x.op = 8 := Qc ((u8d x.op 8).symm.trans h2)
    have e : fnL x = (decide (x.fn = 4) || (decide (x.fn = 5) || decide (x.fn = 6))) := by unfold fnL; rw [Gy h1, Gz h2]
    rw [e, ← u8d, ← u8d, ← u8d]
    refine ⟨_, zc h (i := 7) rfl, ?_⟩
    refine Gp (fun h4 => ?_) (fun h4 => ?_)
    · refine brT ?_
      exact ⟨rb (by have h4 : decide ((x.fn.toNat : Int) = ((4 : UInt8).toNat : Int)) = true := h4
                    rw [h4]; rfl), rfl⟩
    have h4 : decide ((x.fn.toNat : Int) = ((4 : UInt8).toNat : Int)) = false := h4
    refine ⟨_, zc h (i := 7) rfl, ?_⟩
    refine Gp (fun h5 => ?_) (fun h5 => ?_)
    · exact ⟨rb (by have h5 : decide ((x.fn.toNat : Int) = ((5 : UInt8).toNat : Int)) = true := h5
                    rw [h4, h5]; rfl), rfl⟩
    have h5 : decide ((x.fn.toNat : Int) = ((5 : UInt8).toNat : Int)) = false := h5
    refine ⟨_, zc h (i := 7) rfl, ?_⟩
    exact ⟨rb (by rw [h4, h5]; rfl), rfl⟩
  have h2 : ¬ x.op = 8 := KI ((u8d x.op 8).symm.trans h2)
  exact ⟨rb (by unfold fnL; rw [Gy h1, Gy h2]), rfl⟩
set_option maxRecDepth 4000
def zrq:InsD:=⟨0,0,0,false,0,false,0,0,0,0⟩
def nd0 (x:InsD):InsD:={ zrq with op:=x.op }
def nd1 (x:InsD):InsD:={ nd0 x with dst:=if jI x.op 1 then x.dst else 0 }
def nd2 (x:InsD):InsD:={ nd1 x with loc:=if jI x.op 2 then x.loc else 0 }
def nd3 (x:InsD):InsD:={ nd2 x with ar:=jI x.op 4&&x.ar,an:=if jI x.op 4 then x.an else 0 }
def nd4 (x:InsD):InsD:={ nd3 x with br:=jI x.op 8&&x.br,bn:=if jI x.op 8 then x.bn else 0 }
def nd5 (x:InsD):InsD:={ nd4 x with fn:=if jI x.op 16 then x.fn else 0 }
def nd6 (x:InsD):InsD:={ nd5 x with mode:=if jI x.op 32 then x.mode else 0 }
def nd7 (x:InsD):InsD:={ nd6 x with skip:=if jI x.op 64 then x.skip else 0 }
theorem zp1 {g locs after:Nat} {x:InsD} {w:Wd} (h:zw w ⟨g,0,none⟩ (spC x locs after)) (hg:g<w.heap.size) (hop:x.op.toNat<=8) (hG:GlobC w) :
  CB 245 #[At0 g] w (.agg (qF.enc (zgO x)).toArray):=by
 refine qa 67 [At0 g] (.s .p (.c .p (.c .p (.c .p (.c .p (.c .p (.c .p (.c .p (.c .p .p))))))))) Tryz.func245 ?_;obtain⟨r,hr⟩:=nm (w.heap.size);obtain⟨W0,hW0⟩:=nm (w.alloc (.cells (qF.enc zrq).toArray 96));have hb0:Bw w W0:=by rw [hW0];exact (zba _ _)
 have f0:W0.heap[r]?=some (.cells (qF.enc zrq).toArray 96 (0,0)):=by rw [hW0,hr];exact zz w _
 have s0:W0.heap.size=r+1:=by rw [hW0,wz,hr]
 let Good:InsD->Wd->Prop:=fun y X=>Bw w X/\X.heap[r]?=some (.cells (qF.enc zrq).toArray 96 (0,0))/\X.heap[r+1]?=some (.cells (qF.enc y).toArray 96 (0,0))
 have good:∀ y X,Good y X->zw X ⟨g,0,none⟩ (spC x locs after)/\GlobC X/\g<X.heap.size:=fun y X ⟨hb,_,_⟩=>⟨jf hb hg h,hG.below hb,by have:=hb.size;omega⟩;have turn:∀ y z X Y,Good y X->X.grownBy Y (some (r+1))->Y.heap[r+1]?=some (.cells (qF.enc z).toArray 96 (0,0))->Good z Y:=fun y z X Y ⟨hb,h1,h2⟩ hg' h3 =>
  ⟨hb.grown hg' hb.size (fun k e=>by simp only [KZ] at e;omega),(hg'.block _ (hlt h1) (fun e=>by simp only [KZ] at e;omega)).trans h1,h3⟩
 have start:∀ Y,Bw W0 Y->Y.heap[W0.heap.size]?=some (.cells (Value.agg (qF.enc (nd0 x)).toArray).cells 96 (0,0))->Good (nd0 x) Y:=fun Y hY fY =>
  ⟨(zst hb0 hY),zb hY f0,by rw [<- s0];exact fY⟩
 have h0:zw W0 ⟨g,0,none⟩ (spC x locs after):=jf hb0 hg h;have p2:some (Value.pointer (some ⟨w.heap.size,0,none⟩))=some (At0 r):=by rw [hr]
 have p3:some (Value.pointer (some ⟨W0.heap.size,0,none⟩))=some (At0 (r+1)):=by rw [s0]
 refine⟨Unit,fun _=>⟨[(0,At0 g),(2,At0 r),(3,At0 (r+1))],[]⟩,fun _ X=>Good (nd0 x) X,?_,?_⟩
 ·subst hW0;exact⟨_,zc h0 (i:=0) rfl,qF.enc (nd0 x),rfl,zn (v := .agg (qF.enc (nd0 x)).toArray) k96 rfl rfl rfl fun Y hbY fY sY=>⟨(),⟨.cons rfl (.cons p2 (.cons p3 .nil)),rfl⟩,start Y hbY fY⟩⟩
 clear start h0 f0 hb0 p2 p3 s0;rintro _ Y hY;refine⟨Unit,fun _=>⟨[(0,At0 g),(2,At0 r),(3,At0 (r+1))],[]⟩,fun _ X=>Good (nd1 x) X,?_,?_⟩
 ·obtain⟨hc,hGY,hgY⟩:=good _ Y hY;refine cmo (zfA 1 hc hop hGY) ?_;rintro e _ ⟨rfl,rfl⟩;refine biE (fun hh=>?_) fun hh=>?_
  ·have hh:jI x.op 1=true:=hh;have e:nd1 x={ nd0 x with dst:=x.dst }:=by unfold nd1;rw [Gz hh]
   exact⟨_,zc hc (i:=1) rfl,zaQ k5 rfl (hY.2.2) (o:=1) (by show 1<10;omega) (v:=u8 x.dst) rfl rfl fun Z fZ gZ sZ=>⟨(),(cvE rfl rfl),turn _ _ Y Z hY gZ (by rw [e];exact fZ)⟩⟩
  ·have hh:jI x.op 1=false:=hh;have e:nd1 x=nd0 x:=by unfold nd1;rw [Gy (by rw [hh];decide)];rfl
   exact⟨(),(cvE rfl rfl),by rw [e];exact hY⟩
 clear hY Y;rintro _ Y hY;refine⟨Unit,fun _=>⟨[(0,At0 g),(2,At0 r),(3,At0 (r+1))],[]⟩,fun _ X=>Good (nd2 x) X,?_,?_⟩
 ·obtain⟨hc,hGY,hgY⟩:=good _ Y hY;refine cmo (zfA 2 hc hop hGY) ?_;rintro e _ ⟨rfl,rfl⟩;refine biE (fun hh=>?_) fun hh=>?_
  ·have hh:jI x.op 2=true:=hh;have e:nd2 x={ nd1 x with loc:=x.loc }:=by unfold nd2;rw [Gz hh]
   exact⟨_,zc hc (i:=2) rfl,zaQ k5 rfl (hY.2.2) (o:=2) (by show 2<10;omega) (v:=u8 x.loc) rfl rfl fun Z fZ gZ sZ=>⟨(),(cvE rfl rfl),turn _ _ Y Z hY gZ (by rw [e];exact fZ)⟩⟩
  ·have hh:jI x.op 2=false:=hh;have e:nd2 x=nd1 x:=by unfold nd2;rw [Gy (by rw [hh];decide)];rfl
   exact⟨(),(cvE rfl rfl),by rw [e];exact hY⟩
 clear hY Y;rintro _ Y hY;refine⟨Unit,fun _=>⟨[(0,At0 g),(2,At0 r),(3,At0 (r+1))],[]⟩,fun _ X=>Good (nd3 x) X,?_,?_⟩
 ·obtain⟨hc,hGY,hgY⟩:=good _ Y hY;refine cmo (zfA 4 hc hop hGY) ?_;rintro e _ ⟨rfl,rfl⟩;refine biE (fun hh=>?_) fun hh=>?_
  ·have hh:jI x.op 4=true:=hh;have e:nd3 x={ nd2 x with ar:=x.ar,an:=x.an }:=by unfold nd3;rw [hh,UA,Gz rfl]
   exact⟨[.bool x.ar,u8 x.an],rfl,zV (n:=3) (m:=2) hc,hgY,jk k94 hY.2.2 (o:=3) (v := .agg #[.bool x.ar,u8 x.an]) rfl (by show 3+2<=10;omega) rfl fun Z fZ gZ sZ=>⟨(),(cvE rfl rfl),turn _ _ Y Z hY gZ (by rw [e];exact fZ)⟩⟩
  ·have hh:jI x.op 4=false:=hh;have e:nd3 x=nd2 x:=by unfold nd3;rw [hh,Ul,Gy (by decide)];rfl
   exact⟨(),(cvE rfl rfl),by rw [e];exact hY⟩
 clear hY Y;rintro _ Y hY;refine⟨Unit,fun _=>⟨[(0,At0 g),(2,At0 r),(3,At0 (r+1))],[]⟩,fun _ X=>Good (nd4 x) X,?_,?_⟩
 ·obtain⟨hc,hGY,hgY⟩:=good _ Y hY;refine cmo (zfA 8 hc hop hGY) ?_;rintro e _ ⟨rfl,rfl⟩;refine biE (fun hh=>?_) fun hh=>?_
  ·have hh:jI x.op 8=true:=hh;have e:nd4 x={ nd3 x with br:=x.br,bn:=x.bn }:=by unfold nd4;rw [hh,UA,Gz rfl]
   exact⟨[.bool x.br,u8 x.bn],rfl,zV (n:=5) (m:=2) hc,hgY,jk k94 hY.2.2 (o:=5) (v := .agg #[.bool x.br,u8 x.bn]) rfl (by show 5+2<=10;omega) rfl fun Z fZ gZ sZ=>⟨(),(cvE rfl rfl),turn _ _ Y Z hY gZ (by rw [e];exact fZ)⟩⟩
  ·have hh:jI x.op 8=false:=hh;have e:nd4 x=nd3 x:=by unfold nd4;rw [hh,Ul,Gy (by decide)];rfl
   exact⟨(),(cvE rfl rfl),by rw [e];exact hY⟩
 clear hY Y;rintro _ Y hY;refine⟨Unit,fun _=>⟨[(0,At0 g),(2,At0 r),(3,At0 (r+1))],[]⟩,fun _ X=>Good (nd5 x) X,?_,?_⟩
 ·obtain⟨hc,hGY,hgY⟩:=good _ Y hY;refine cmo (zfA 16 hc hop hGY) ?_;rintro e _ ⟨rfl,rfl⟩;refine biE (fun hh=>?_) fun hh=>?_
  ·have hh:jI x.op 16=true:=hh;have e:nd5 x={ nd4 x with fn:=x.fn }:=by unfold nd5;rw [Gz hh]
   exact⟨_,zc hc (i:=7) rfl,zaQ k5 rfl (hY.2.2) (o:=7) (by show 7<10;omega) (v:=u8 x.fn) rfl rfl fun Z fZ gZ sZ=>⟨(),(cvE rfl rfl),turn _ _ Y Z hY gZ (by rw [e];exact fZ)⟩⟩
  ·have hh:jI x.op 16=false:=hh;have e:nd5 x=nd4 x:=by unfold nd5;rw [Gy (by rw [hh];decide)];rfl
   exact⟨(),(cvE rfl rfl),by rw [e];exact hY⟩
 clear hY Y;rintro _ Y hY;refine⟨Unit,fun _=>⟨[(0,At0 g),(2,At0 r),(3,At0 (r+1))],[]⟩,fun _ X=>Good (nd6 x) X,?_,?_⟩
 ·obtain⟨hc,hGY,hgY⟩:=good _ Y hY;refine cmo (zfA 32 hc hop hGY) ?_;rintro e _ ⟨rfl,rfl⟩;refine biE (fun hh=>?_) fun hh=>?_
  ·have hh:jI x.op 32=true:=hh;have e:nd6 x={ nd5 x with mode:=x.mode }:=by unfold nd6;rw [Gz hh]
   exact⟨_,zc hc (i:=8) rfl,zaQ k5 rfl (hY.2.2) (o:=8) (by show 8<10;omega) (v:=u8 x.mode) rfl rfl fun Z fZ gZ sZ=>⟨(),(cvE rfl rfl),turn _ _ Y Z hY gZ (by rw [e];exact fZ)⟩⟩
  ·have hh:jI x.op 32=false:=hh;have e:nd6 x=nd5 x:=by unfold nd6;rw [Gy (by rw [hh];decide)];rfl
   exact⟨(),(cvE rfl rfl),by rw [e];exact hY⟩
 clear hY Y;rintro _ Y hY;refine⟨Unit,fun _=>⟨[(0,At0 g),(2,At0 r),(3,At0 (r+1))],[]⟩,fun _ X=>Good (nd7 x) X,?_,?_⟩
 ·obtain⟨hc,hGY,hgY⟩:=good _ Y hY;refine cmo (zfA 64 hc hop hGY) ?_;rintro e _ ⟨rfl,rfl⟩;refine biE (fun hh=>?_) fun hh=>?_
  ·have hh:jI x.op 64=true:=hh;have e:nd7 x={ nd6 x with skip:=x.skip }:=by unfold nd7;rw [Gz hh]
   exact⟨_,zc hc (i:=9) rfl,zaQ k5 rfl (hY.2.2) (o:=9) (by show 9<10;omega) (v:=u8 x.skip) rfl rfl fun Z fZ gZ sZ=>⟨(),(cvE rfl rfl),turn _ _ Y Z hY gZ (by rw [e];exact fZ)⟩⟩
  ·have hh:jI x.op 64=false:=hh;have e:nd7 x=nd6 x:=by unfold nd7;rw [Gy (by rw [hh];decide)];rfl
   exact⟨(),(cvE rfl rfl),by rw [e];exact hY⟩
 clear hY Y;rintro _ Y hY;exact⟨_,rfl,za hY.2.2,hlt hY.2.2,zr (v := .agg (qF.enc (nd7 x)).toArray) k96 hY.2.1 rfl rfl rfl ⟨_,rfl,za (zm hY.2.1),rfl,zj hY.1 (by omega) _⟩⟩
end Go.Proofs.YtnadlhpkpnfmbaaGreatDoor
namespace Go.Vc
open Go.RowKit
def qJ (cs:List Value) (o n:Nat):List Value:=(cs.drop o).take n
theorem zge (cs:List Value) (o n m:Nat):qJ cs o (n+m)=qJ cs o n++qJ cs (o+n) m:=by
 unfold qJ;rw [List.take_add,Un]
theorem zes {cs:List Value} {o n:Nat} (h:o+n<=cs.length):(qJ cs o n).length=n:=by
 unfold qJ;rw [Qu,Qt];omega
def vOf (g:Bool) (a:List Value):Value:=match g with | true => .agg a.toArray | false=>a.headD undef
structure TyEq (P:Program) (T:TypeId) (g:Bool) (n k:Nat) (G:List Value->Prop):Prop where
 ag:∀ w,(isAgg T).run P w = .ok g w
 info:∃ i,P.info? T=some i
 cl:P.cellsOf T=n
 one:g=false->n=1
 eq:∀ d w a b,a.length=n->b.length=n->G a->G b->∃ r:Bool,(Op.equalIn (d+k) T (vOf g a) (vOf g b)).run P w = .ok r w/\(r=true↔a=b)
section
variable {P:Program}
theorem TyEq.up {T:TypeId} {g:Bool} {n k:Nat} {G:List Value->Prop} (h:TyEq P T g n k G) (m:Nat):TyEq P T g n (m+k) G :=
 ⟨h.ag,h.info,h.cl,h.one,fun d w a b h1 h2 h3 h4=>by have:=h.eq (d+m) w a b h1 h2 h3 h4;rwa [UI] at this⟩
theorem TyEq.part {T:TypeId} {g:Bool} {n k:Nat} {G:List Value->Prop} (h:TyEq P T g n k G) (xs:Array Value) (o:Nat) (hs:o+n<=xs.size) (w:Wd):(Go.part T xs o).run P w = .ok (vOf g (qJ xs.toList o n)) w:=by
 obtain⟨i,hi⟩:=h.info;have hsz:=run_sizeOf w hi;rw [h.cl] at hsz;simp only [Go.part,Ga,h.ag,Qa]
 cases g with
 | true =>
  simp only [Gx,Ga,hsz,Qa,Gb,vOf];congr 2;apply Qe.1;simp [qJ,JT,List.extract_eq_take_drop]
 | false =>
  have h1:=h.one rfl;subst h1;have ho:o<xs.size:=by omega
  simp only [Kt,Gt,Jm ho,Gb,vOf];congr 1;unfold qJ;rw [Jo (by simpa using ho)];simp
inductive Tile (P:Program) (k:Nat):List Field->Nat->Nat->(List Value->Prop)->Prop
 | nil {s:Nat}:Tile P k [] s s (fun _=>True)
 | cons {f : Field} {fs : List Field} {s e n : Nat} {g : Bool} {G G' : List Value → Prop} (hn : f.name ≠ "_") (ho : f.offset = s) (ht : TyEq P f.type g n k G) (hr : Tile P k fs (s + n) e G') : Tile P k (f :: fs) s e (fun cs => G (cs.take n) ∧ G' (cs.drop n))
theorem Tile.le {k:Nat} {fs:List Field} {s e:Nat} {G:List Value->Prop} (h:Tile P k fs s e G):s<=e:=by
 induction h with
 | nil=>exact Ge _
 | cons _ _ _ _ ih=>omega
theorem Tile.eq {k:Nat} {fs:List Field} {s e:Nat} {G:List Value->Prop} (h:Tile P k fs s e G):∀ (d:Nat) (xs ys:Array Value) (w:Wd),e<=xs.size->e<=ys.size->G (qJ xs.toList s (e-s))->G (qJ ys.toList s (e-s)) ->
  ∃ r:Bool,(Op.eqFields (d+k) xs ys fs).run P w = .ok r w/\(r=true↔qJ xs.toList s (e-s)=qJ ys.toList s (e-s)):=by
 induction h with
 | nil=>intro d xs ys w _ _ _ _;exact⟨true,rfl,by simp [qJ]⟩
 | @cons f fs s e n g G G' hn ho ht hr ih =>
  intro d xs ys w hx hy hgx hgy;have hle:=hr.le;have e1:e-s=n+(e-(s+n)):=by omega
  rw [e1,zge] at hgx hgy;rw [e1,zge,zge];have lx:(qJ xs.toList s n).length=n:=zes (by simp;omega);have ly:(qJ ys.toList s n).length=n:=zes (by simp;omega);obtain⟨gx1,gx2⟩:=hgx;obtain⟨gy1,gy2⟩:=hgy;rw [Jg (by omega),JE (by omega)] at gx1 gy1;rw [List.drop_append_of_le_length (by omega),JA (by omega),QW] at gx2 gy2;obtain⟨r1,h1,h2⟩:=ht.eq d w _ _ lx ly gx1 gy1;obtain⟨r2,h3,h4⟩:=ih d xs ys w hx hy gx2 gy2;simp only [Op.eqFields,hn,ne_eq,not_false_eq_true,Gx,Ga,ho,ht.part xs s (by omega) w,ht.part ys s (by omega) w,Qa,h1];have hap:(qJ xs.toList s n++qJ xs.toList (s+n) (e-(s+n))=qJ ys.toList s n++qJ ys.toList (s+n) (e-(s+n)))↔(qJ xs.toList s n=qJ ys.toList s n/\qJ xs.toList (s+n) (e-(s+n))=qJ ys.toList (s+n) (e-(s+n))) :=
   ⟨fun h=>List.append_inj h (by rw [lx,ly]),fun h=>by rw [h.1,h.2]⟩
  rw [hap,<- h2,<- h4]
  cases r1 with
  | true=>exact⟨r2,by simpa using h3,by simp⟩
  | false=>exact⟨false,by simp,by simp⟩
theorem TyEq.struct {T:TypeId} {k n:Nat} {G:List Value->Prop} (hu:P.underlying T=some (.struct (P.fieldsOf T))) (hp:P.stoodInHeld T=false) (hag:∀ w,(isAgg T).run P w = .ok true w) (hi:∃ i,P.info? T=some i) (hc:P.cellsOf T=n)
  (ht:Tile P k (P.fieldsOf T).toList 0 n G):TyEq P T true n (k+1) G :=
 ⟨hag,hi,hc,fun h=>(by cases h),fun d w a b ha hb ga gb=>by
  have e:∀ l:List Value,l.length=n->qJ l.toArray.toList 0 (n-0)=l:=fun l hl=>by
   unfold qJ;rw [Up,UX];exact JE (by show l.length<=n;omega)
  obtain⟨r,h1,h2⟩:=ht.eq d a.toArray b.toArray w (by simp;omega) (by simp;omega) (by rw [e a ha];exact ga) (by rw [e b hb];exact gb);rw [e a ha,e b hb] at h2;refine⟨r,?_,h2⟩;have:=run_equalIn_struct (P:=P) w (d+k) T a.toArray b.toArray hu hp;rw [<- UI];exact this.trans h1⟩
theorem zoS {n m:Nat} (hn:0<n) {a b:List Value} (ha:a.length=m*n) (hb:b.length=m*n) (h:∀ i,i<m->qJ a (i*n) n=qJ b (i*n) n):a=b:=by
 apply KQ;intro j;by_cases hj:j<m*n
 ·have hd:j/n<m:=Nat.div_lt_of_lt_mul (by rw [UV];exact hj);have h1:=Gs (fun l=>l[j%n]?) (h _ hd);simp only [qJ,Kx,Gz (Gn j hn),Kw] at h1;rw [UV,Ub] at h1;exact h1
 ·rw [JJ (by omega),JJ (by omega)]
theorem TyEq.array {T e:TypeId} {g:Bool} {n k m:Nat} {G:List Value->Prop} (hn:0<n) (hu:P.underlying T=some (.array m e)) (hag:∀ w,(isAgg T).run P w = .ok true w) (hi:∃ i,P.info? T=some i) (hc:P.cellsOf T=m*n) (ht:TyEq P e g n k G) :
  TyEq P T true (m*n) (k+1) (fun cs=>∀ i,i<m->G (qJ cs (i*n) n)) :=
 ⟨hag,hi,hc,fun h=>(by cases h),fun d w a b ha hb ga gb=>by
  obtain⟨ie,hie⟩:=ht.info;have key:∀ is:List Nat,(∀ i∈is,i<m)->∃ r:Bool,(Op.eqItems (d+k) e n a.toArray b.toArray is).run P w = .ok r w/\(r=true↔∀ i∈is,qJ a (i*n) n=qJ b (i*n) n):=by
   intro is
   induction is with
   | nil=>intro _;exact⟨true,rfl,by simp⟩
   | cons i is ih =>
    intro him;have hi:=him i Kz;have hle:i*n+n<=m*n:=(by rw [<- Nat.succ_mul];exact Nat.mul_le_mul_right _ hi);obtain⟨r2,h3,h4⟩:=ih fun j hj=>him j (JW _ hj);obtain⟨r1,h1,h2⟩:=ht.eq d w (qJ a (i*n) n) (qJ b (i*n) n) (zes (by omega)) (zes (by omega)) (ga i hi) (gb i hi);have p1:=ht.part a.toArray (i*n) (by simp;omega) w;have p2:=ht.part b.toArray (i*n) (by simp;omega) w;have ea:a.toArray.toList=a:=rfl;have eb:b.toArray.toList=b:=rfl;rw [ea] at p1;rw [eb] at p2;simp only [Op.eqItems,Ga,p1,p2,Qa,h1]
    cases r1 with
    | true =>
     refine⟨r2,by simpa using h3,?_⟩;rw [h4];have:=h2.1 rfl;simp [this]
    | false =>
     refine⟨false,by simp,?_⟩;simp only [Kt,false_iff];intro h;have:=h2.2 (h i Kz)
     cases this
  obtain⟨r,h1,h2⟩:=key (List.range m) fun i hi=>Ur.1 hi;refine⟨r,?_,?_⟩
  ·have:=run_equalIn_array (P:=P) w (d+k) a.toArray b.toArray hu hie;rw [ht.cl] at this;rw [<- UI];exact this.trans h1
  ·rw [h2];exact⟨fun h=>zoS hn ha hb fun i hi=>h i (Ur.2 hi),fun h i _=>by rw [h]⟩⟩
theorem TyEq.int {T:TypeId} {q:IntKind} (hu:P.underlying T=some (.int q)) (hag:∀ w,(isAgg T).run P w = .ok false w) (hi:∃ i,P.info? T=some i) (hc:P.cellsOf T=1):TyEq P T false 1 1 (fun cs=>∃ x,cs=[.int q x]) :=
 ⟨hag,hi,hc,fun _=>rfl,fun d w a b _ _ ⟨x,hx⟩ ⟨y,hy⟩=>by
  subst hx hy;refine⟨decide (x=y),?_,by simp⟩;simp only [vOf,List.headD_cons,Op.equalIn,Ga,Uv hu,Qa,Gx,Gb];congr 1⟩
theorem TyEq.bool {T:TypeId} (hu:P.underlying T=some .bool) (hag:∀ w,(isAgg T).run P w = .ok false w) (hi:∃ i,P.info? T=some i) (hc:P.cellsOf T=1):TyEq P T false 1 1 (fun cs=>∃ x,cs=[.bool x]) :=
 ⟨hag,hi,hc,fun _=>rfl,fun d w a b _ _ ⟨x,hx⟩ ⟨y,hy⟩=>by
  subst hx hy;refine⟨x == y,?_,by simp⟩;simp only [vOf,List.headD_cons,Op.equalIn,Ga,Uv hu,Qa,Gb]⟩
end
end Go.Vc
namespace Go.Proofs.YtnadlhpkpnfmbaaGreatDoor
open Go.Vc Go.RowKit Go.Sei
def zxE (q:IntKind) (cs:List Value):Prop:=∃ x,cs=[.int q x]
def zwZ (cs:List Value):Prop:=∃ x,cs=[.bool x]
theorem tU8:TyEq PG 5 false 1 1 (zxE .u8) := .int Tryz.underlying5 (fun w=>Tryz.isAgg5 w) (jL (by kernel_rfl) (by kernel_rfl)).1 (by kernel_rfl)
theorem zvK:TyEq PG 4 false 1 1 zwZ := .bool Tryz.underlying4 (fun w=>Tryz.isAgg4 w) (jL (by kernel_rfl) (by kernel_rfl)).1 (by kernel_rfl)
theorem uf {T:TypeId} {F:Array Field} (h:Tryz.prog.underlying T=some (.struct F)):Tryz.prog.underlying T=some (.struct (Tryz.prog.fieldsOf T))/\Tryz.prog.fieldsOf T=F:=by
 have:Tryz.prog.fieldsOf T=F:=by unfold Program.fieldsOf;rw [h]
 exact⟨by rw [this];exact h,this⟩
open Classical in
noncomputable def cdec (p:Prop):Bool:=decide p
theorem zs0 {p:Prop} [h:Decidable p]:cdec p=decide p:=by unfold cdec;congr
theorem zfJ {p q:Prop} [Decidable q] (h:p↔q):cdec p=decide q:=by
 have:p=q:=propext h;subst this;exact zs0
section
variable {T:TypeId} {n k:Nat} {G:List Value->Prop} (h:TyEq PG T true n k G) (d:Nat) (hd:d+k=10000) (hg:Tryz.prog.eqGuardType Tryz.prog.depth T=false) {a b:List Value} (ha:a.length=n) (hb:b.length=n) (ga:G a) (gb:G b)
include h hd hg ha hb ga gb
omit hg in
theorem equal_ty (w:Wd):(Op.equal T (.agg a.toArray) (.agg b.toArray)).run PG w = .ok (cdec (a=b)) w:=by
 obtain⟨r,h1,h2⟩:=h.eq d w a b ha hb ga gb;have e:r=cdec (a=b):=by
  unfold cdec
  cases r with
  | true=>simp [h2.1 rfl]
  | false =>
   have:¬ a=b:=fun e=>by have:=h2.2 e;cases this
   simp [this]
 rw [hd] at h1;rw [<- e];exact h1
theorem zug (x y:Operand) (w:Wd):(do eqGuard .neq T x y (.agg a.toArray) (.agg b.toArray);binOp .neq T (.agg a.toArray) (.agg b.toArray)).run PG w = .ok (.bool (!cdec (a=b))) w:=by
 have he:=equal_ty h d hd ha hb ga gb w;have h1:(eqGuard .neq T x y (.agg a.toArray) (.agg b.toArray)).run PG w = .ok () w:=by
  simp only [eqGuard,Uy,Kt,Gt,Ga,run_program,Qa,hg,Bool.not_false,Gx,Gb]
 rw [Ga,h1];simp only [Qa,binOp,Ga,he,Gb]
theorem zmn (x y:Operand) (w:Wd):(do eqGuard .eql T x y (.agg a.toArray) (.agg b.toArray);binOp .eql T (.agg a.toArray) (.agg b.toArray)).run PG w = .ok (.bool (cdec (a=b))) w:=by
 have he:=equal_ty h d hd ha hb ga gb w;have h1:(eqGuard .eql T x y (.agg a.toArray) (.agg b.toArray)).run PG w = .ok () w:=by
  simp only [eqGuard,Uy,Kt,Gt,Ga,run_program,Qa,hg,Bool.not_false,Gx,Gb]
 rw [Ga,h1];simp only [Qa,binOp,Ga,he,Gb]
end
theorem zw7:∃ G,TyEq PG 94 true 2 2 G/\∀ r n,G [.bool r,u8 n]:=by
 refine⟨_,.struct (uf Tryz.underlying94).1 (by kernel_rfl) (fun w=>Tryz.isAgg94 w) (jL (by kernel_rfl) (by kernel_rfl)).1 (by kernel_rfl)
  (by rw [(uf Tryz.underlying94).2];exact .cons (by decide) rfl zvK (.cons (by decide) rfl tU8 .nil)),fun r n=>?_⟩
 exact⟨⟨_,rfl⟩,⟨_,rfl⟩,trivial⟩
theorem zw5:∃ G,TyEq PG 96 true 10 3 G/\∀ x,G (qF.enc x):=by
 obtain⟨G,h1,h2⟩:=zw7;refine⟨_,.struct (uf Tryz.underlying96).1 (by kernel_rfl) (fun w=>Tryz.isAgg96 w) (jL (by kernel_rfl) (by kernel_rfl)).1 (by kernel_rfl)
  (by rw [(uf Tryz.underlying96).2];exact .cons (by decide) rfl (tU8.up 1) (.cons (by decide) rfl (tU8.up 1) (.cons (by decide) rfl (tU8.up 1) (.cons (by decide) rfl h1 (.cons (by decide) rfl h1 (.cons (by decide) rfl (tU8.up 1) (.cons (by decide) rfl (tU8.up 1) (.cons (by decide) rfl (tU8.up 1) .nil)))))))),fun x=>?_⟩
 exact⟨⟨_,rfl⟩,⟨_,rfl⟩,⟨_,rfl⟩,h2 _ _,h2 _ _,⟨_,rfl⟩,⟨_,rfl⟩,⟨_,rfl⟩,trivial⟩
theorem zck {a b:UInt8} (h:u8 a=u8 b):a=b:=by
 unfold u8 at h;simp only [Value.int.injEq,Gw] at h;exact qG.1 h
theorem zss {a b:InsD}:qF.enc a=qF.enc b↔a=b:=by
 constructor
 ·intro h;obtain⟨a0,a1,a2,a3,a4,a5,a6,a7,a8,a9⟩:=a;obtain⟨b0,b1,b2,b3,b4,b5,b6,b7,b8,b9⟩:=b;simp only [qF,QN,Gr,Value.bool.injEq] at h;obtain⟨h0,h1,h2,rfl,h4,rfl,h6,h7,h8,h9⟩:=h;rw [zck h0,zck h1,zck h2,zck h4,zck h6,zck h7,zck h8,zck h9]
 ·exact fun h=>by rw [h]
theorem zsL (x y:Operand) (a b:InsD) (w:Wd):(do eqGuard .eql 96 x y (.agg (qF.enc a).toArray) (.agg (qF.enc b).toArray);binOp .eql 96 (.agg (qF.enc a).toArray) (.agg (qF.enc b).toArray)).run PG w = .ok (.bool (decide (a=b))) w:=by
 obtain⟨G,h,hG⟩:=zw5;rw [zmn h 9997 rfl (by kernel_rfl) rfl rfl (hG a) (hG b) x y w,zfJ zss]
structure SpV (X:Wd) (g bx:Nat) (x:InsD) (locs after:Nat):Prop where
 c:X.heap[g]?=some (.cells (spC x locs after).toArray 314 (0,0))
 b:X.heap[bx]?=some (.cells #[At0 g] 340 (0,0))
 G:GlobC X
theorem SpV.below {X Y:Wd} {g bx locs after:Nat} {x:InsD} (h:SpV X g bx x locs after) (hb:Bw X Y):SpV Y g bx x locs after:=⟨zb hb h.c,zb hb h.b,h.G.below hb⟩
theorem SpV.cells {X:Wd} {g bx locs after:Nat} {x:InsD} (h:SpV X g bx x locs after):zw X ⟨g,0,none⟩ (spC x locs after):=za h.c
section
variable {g bx locs after:Nat} {x:InsD} {w:Wd}
theorem zsX (h:SpV w g bx x locs after):CB 243 #[At0 bx] w (.bool (decide (1<=x.op.toNat)&&decide (x.op.toNat<=8))):=by
 refine zJ 16 [At0 bx] Tryz.func243 ?_;refine⟨_,zc (za h.b) (i:=0) rfl,_,zc h.cells (i:=0) rfl,biE (fun h1=>?_) fun h1=>?_⟩
 ·have h1:(1:Int)<=x.op.toNat:=dT h1;refine⟨_,zc (za h.b) (i:=0) rfl,_,zc h.cells (i:=0) rfl,rb ?_,Gj _ _⟩;rw [Uu (p:=1<=x.op.toNat) (by omega),UA,QH];show (x.op.toNat:Int)<=8↔_;omega
 ·have h1:¬ (1:Int)<=x.op.toNat:=dF h1;refine⟨rb ?_,Gj _ _⟩;rw [Uj (p:=1<=x.op.toNat) (by omega)];rfl
theorem zsW (h:SpV w g bx x locs after) (hop:x.op.toNat<=8):CB 244 #[At0 bx] w (.bool (decide (x=zgO x))):=by
 refine zJ 9 [At0 bx] Tryz.func244 ?_;have hd:SpV w.drew g bx x locs after:=h.below (Gj _ w).drew;refine DrawE.ord [] [0,1,2,3,4,5,6,7] (by kernel_rfl) ⟨_,zc (za hd.b) (i:=0) rfl,qF.enc x,rfl,zV (n:=0) (m:=10) hd.cells,hlt hd.c,_,zc (za hd.b) (i:=0) rfl,cmo (zp1 hd.cells (hlt hd.c) hop hd.G) ?_⟩;rintro e V ⟨rfl,hb⟩;exact⟨hb,_,fun w=>zsL _ _ x (zgO x) w,rfl,(Gj _ w).drew.trans hb⟩
theorem zsV (h:SpV w g bx x locs after):CB 246 #[At0 bx] w (.bool (decide (x.dst.toNat<8))):=by
 refine zJ 8 [At0 bx] Tryz.func246 ?_;refine⟨_,zc (za h.b) (i:=0) rfl,_,zc h.cells (i:=1) rfl,rb ?_,Gj _ _⟩;show decide ((x.dst.toNat:Int)<8)=_;rw [QH];omega
theorem zsU (h:SpV w g bx x locs after) (hop:x.op.toNat<=8):CB 247 #[At0 bx] w (.bool (!jI x.op 2||decide (x.loc.toNat<locs))):=by
 refine zJ 18 [At0 bx] Tryz.func247 ?_;have hd:SpV w.drew g bx x locs after:=h.below (Gj _ w).drew;refine DrawE.ord [] [0,1,2,3,4,5,6,7,8,9,10,11,12,13,14,15,16] (by kernel_rfl) ⟨_,zc (za hd.b) (i:=0) rfl,cmo (zfA 2 hd.cells hop hd.G) ?_⟩;rintro e _ ⟨rfl,rfl⟩;refine⟨Gj _ _,biE (fun h1=>?_) fun h1=>?_⟩
 ·have h1:(!jI x.op 2)=true:=h1;exact⟨rb (by rw [h1];rfl),(Gj _ w).drew⟩
 ·have h1:(!jI x.op 2)=false:=h1;refine⟨_,zc (za hd.b) (i:=0) rfl,_,zc hd.cells (i:=2) rfl,_,qN _,_,zc (za hd.b) (i:=0) rfl,_,zc hd.cells (i:=10) rfl,rb ?_,(Gj _ w).drew⟩;rw [h1,Ux,QH];omega
theorem zsT (h:SpV w g bx x locs after):CB 249 #[At0 bx] w (.bool (zmF x.ar x.an&&zmF x.br x.bn)):=by
 refine zJ 16 [At0 bx] Tryz.func249 ?_;refine⟨_,zc (za h.b) (i:=0) rfl,[.bool x.ar,u8 x.an],rfl,zV (n:=3) (m:=2) h.cells,hlt h.c,cmo (zhZ x.ar x.an w) ?_⟩;rintro e V ⟨rfl,hb⟩;have hV:=h.below hb;refine biE (fun h1=>?_) fun h1=>?_
 ·have h1:zmF x.ar x.an=true:=h1;refine⟨_,zc (za hV.b) (i:=0) rfl,[.bool x.br,u8 x.bn],rfl,zV (n:=5) (m:=2) hV.cells,hlt hV.c,cmo (zhZ x.br x.bn V) ?_⟩;rintro e U ⟨rfl,hb2⟩;exact⟨rb (by rw [h1,UA]),(zst hb hb2)⟩
 ·have h1:zmF x.ar x.an=false:=h1;exact⟨rb (by rw [h1,Ul]),hb⟩
theorem zsS (h:SpV w g bx x locs after) (hop:x.op.toNat<=8):CB 253 #[At0 bx] w (.bool (!jI x.op 64||(decide (1<=x.skip.toNat)&&decide (x.skip.toNat<=after)))):=by
 refine zJ 26 [At0 bx] Tryz.func253 ?_;have hd:SpV w.drew g bx x locs after:=h.below (Gj _ w).drew;refine DrawE.ord [] [0,1,2,3,4,5,6,7,8,9,10,11,12,13,14,15,16,17,18,19,20,21,22,23,24] (by kernel_rfl) ⟨_,zc (za hd.b) (i:=0) rfl,cmo (zfA 64 hd.cells hop hd.G) ?_⟩;rintro e _ ⟨rfl,rfl⟩;refine⟨Gj _ _,biE (fun h1=>?_) fun h1=>?_⟩
 ·have h1:(!jI x.op 64)=true:=h1;exact⟨rb (by rw [h1];rfl),(Gj _ w).drew⟩
 ·have h1:(!jI x.op 64)=false:=h1;rw [h1,Ux];refine⟨_,zc (za hd.b) (i:=0) rfl,_,zc hd.cells (i:=9) rfl,biE (fun h2=>?_) fun h2=>?_⟩
  ·have h2:(1:Int)<=x.skip.toNat:=dT h2;refine⟨_,zc (za hd.b) (i:=0) rfl,_,zc hd.cells (i:=9) rfl,_,qN _,_,zc (za hd.b) (i:=0) rfl,_,zc hd.cells (i:=11) rfl,rb ?_,(Gj _ w).drew⟩;rw [Uu (p:=1<=x.skip.toNat) (by omega),UA,QH];omega
  ·have h2:¬ (1:Int)<=x.skip.toNat:=dF h2;refine⟨rb ?_,(Gj _ w).drew⟩;rw [Uj (p:=1<=x.skip.toNat) (by omega)];rfl
end
def zjD (g bx:Nat):List Value:=[.func (.func 243) #[] #[At0 bx],.func (.func 244) #[] #[At0 bx],.func (.func 246) #[] #[At0 bx],
 .func (.func 247) #[] #[At0 bx],.func (.func 249) #[] #[At0 bx],.func (.func 251) #[At0 g] #[],.func (.func 252) #[At0 g] #[],
 .func (.func 253) #[] #[At0 bx]]
theorem zsR {g:Nat} {w:Wd}:Calls PG 224 #[At0 g] w fun e w'=>e = .returned (.slice (some ⟨w.heap.size+1,0,none⟩) 8 8) /\
  w'.heap[w.heap.size]?=some (.cells #[At0 g] 340 (0,0))/\w'.heap[w.heap.size+1]?=some (.cells (zjD g w.heap.size).toArray 41 (0,0))/\w'.heap.size=w.heap.size+2/\Bw w w':=by
 refine zJ 14 [At0 g] Tryz.func224 ?_;obtain⟨W,hW⟩:=nm (w.alloc (.cells #[At0 g] 340));have hb:W.heap[w.heap.size]?=some (.cells #[At0 g] 340 (0,0)):=by rw [hW];exact zz w _
 have hs:W.heap.size=w.heap.size+1:=by rw [hW,wz]
 have hbb:Bw w W:=by rw [hW];exact (zba w _)
 refine⟨_,zc (za (zz w _)) (i:=0) rfl,_,zc (za (zz w _)) (i:=0) rfl,⟨by decide,by decide,rfl⟩,zjD g w.heap.size,rfl,?_⟩;have hs1:=wz w (.cells #[At0 g] 340);refine⟨?_,?_,?_,?_,?_⟩
 ·show Ending.returned (.slice (some ⟨(w.alloc (.cells #[At0 g] 340)).heap.size,0,none⟩) 8 8)=_;rw [hs1]
 ·exact qm _ (zz w _)
 ·rw [<- hs1];exact zz _ _
 ·rw [wz,wz]
 ·exact ((zba w _)).alloc (by simp) _
structure ThI (X:Wd) (L:Nat) (x:InsD) (locs after:Nat):Prop where
 c:X.heap[L]?=some (.cells (spC x locs after).toArray 314 (0,0))
 b:X.heap[L+1]?=some (.cells #[At0 L] 340 (0,0))
 s:X.heap[L+2]?=some (.cells (zjD L (L+1)).toArray 41 (0,0))
theorem ThI.below {X Y:Wd} {L:Nat} {x:InsD} {locs after:Nat} (h:ThI X L x locs after) (hb:Bw X Y):ThI Y L x locs after:=⟨zb hb h.c,zb hb h.b,zb hb h.s⟩
def zsu:InsD:=⟨0,0,0,false,0,false,0,0,0,0⟩
theorem zlr {l:List Bool}:∀ {n:Nat},(∀ j,j<n->l[j]?=some true)->n=l.length->l.all id=true:=by
 intro n h e;rw [Qj];intro b hb;obtain⟨j,hj,rfl⟩:=Kh hb;have:=h j (by omega);rw [gE hj] at this;exact Ug this
theorem zq8 {l:List Bool} {j:Nat} (h:l[j]?=some false):l.all id=false:=by
 rw [KM];obtain⟨hj,e⟩:=Jq.1 h;exact⟨l[j],gM _,by rw [e];decide⟩
theorem zd7 {l:List InsD} {k locs:Nat} (hkl:k<l.length) {i:Nat} (h:(q6 l[k] locs (l.length-1-k))[i]?=some false) {w X:Wd} (hb:Bw w X) :
  Ending.returned (.bool false) = .returned (.bool (jX l locs))/\Bw w X:=by
 refine⟨rb ?_,hb⟩;symm;unfold jX;rw [Bool.and_eq_false_iff];refine .inr ?_;rw [KM];refine⟨k,Ur.2 hkl,?_⟩;rw [gE hkl];show ¬ zqn l[k] locs (l.length-1-k)=true;unfold zqn;rw [zq8 h];simp
theorem zlw {p:OA} {cap locs:Nat} {l:List InsD} {w:Wd} (hl:SlR qF w p l) (hG:GlobC w) (hn:l.length<=140737488351232) :
  CB 189 #[.slice p l.length cap,i64 locs] w (.bool (jX l locs)):=by
 refine zJ 43 [.slice p l.length cap,i64 locs] Tryz.func189 ?_;obtain⟨L,hL⟩:=nm (w.heap.size);refine biE (fun h=>?_) fun h=>?_
 ·have h:(12:Int)<l.length:=dT h;exact⟨rb (by unfold jX;rw [Uj (by omega)];rfl),Gj _ _⟩
 have h12:¬ (12:Int)<l.length:=dF h;refine⟨spC zsu locs 0,rfl,zn (X:=w) (v := .agg (spC zsu locs 0).toArray) zxp rfl rfl rfl fun V hbV fV sV=>cmo zsR ?_⟩;rintro e W0 ⟨rfl,hbx,hsl,hsz,hb0⟩;rw [sV,<- hL] at hsz hbx hsl;have hI0:ThI W0 L zsu locs 0:=⟨hL▸zb hb0 fV,hbx,hsl⟩;have hbw:Bw w W0:=zst hbV hb0;have p1:some (Value.pointer (some ⟨w.heap.size,0,none⟩))=some (At0 L):=by rw [hL]
 have p2:some (Value.slice (some ⟨V.heap.size+1,0,none⟩) 8 8)=some (Value.slice (some ⟨L+2,0,none⟩) 8 8):=by rw [sV,hL]
 clear hbx hsl fV sV hb0 hbV;refine⟨Nat,fun k=>⟨[(0,.slice p l.length cap),(1,i64 locs),(5,At0 L),(6,.slice (some ⟨L+2,0,none⟩) 8 8),(17,.slice p l.length cap),(18,i64 l.length),(19,i64 (k:Nat))],[]⟩,
  fun k X=>k<=l.length/\(∀ i,i<k->∀ x,l[i]?=some x->zqn x locs (l.length-1-i)=true)/\(∃ x aft,ThI X L x locs aft)/\Bw w X,fun k=>l.length-k,0,
  ⟨.cons rfl (.cons rfl (.cons p1 (.cons p2 (.cons rfl (.cons rfl (.cons rfl .nil)))))),rfl⟩,⟨Gg _,fun i hi=>by omega,⟨zsu,0,hI0⟩,hbw⟩,?_⟩
 rintro k X ⟨hk,hdone,⟨x0,a0,hI⟩,hbX⟩;dsimp only at hk hdone ⊢;refine biE (fun hc=>?_) fun hc=>?_
 ·have hc:(k:Int)<(l.length:Int):=dT hc;have hkl:k<l.length:=by omega
  obtain⟨b,o,rfl,hbl,hat⟩:=hl.at hkl;refine⟨k,rfl,hkl,?_⟩;have hx:=hat k hkl;refine⟨qF.enc l[k],rfl,jf hbX hbl hx,nL hbl hbX.size,zn (X:=X) (v := .agg (qF.enc l[k]).toArray) k96 rfl rfl rfl fun Y hbY fY sY=>⟨qF.enc l[k],rfl,za fY,hlt fY,((l.length-1:Nat):Int),(zk (by omega)).trans (by omega),((l.length-1-k:Nat):Int),(zk (by omega)).trans (by omega),?_⟩⟩;have hY:=hI.below hbY;refine jk k96 hY.c (o:=0) (v := .agg (qF.enc l[k]).toArray) rfl (by show 0+10<=12;omega) rfl fun Z fZ gZ sZ=>jk k3 fZ (o:=11) (v:=i64 (l.length-1-k:Nat)) rfl (by show 11+1<=12;omega) rfl fun U fU gU sU=>?_;have hIU:ThI U L l[k] locs (l.length-1-k):=⟨fU,(gU.block _ (by have:=hlt hY.b;omega) (by simp)).trans ((gZ.block _ (hlt hY.b) (by simp)).trans hY.b),(gU.block _ (by have:=hlt hY.s;omega) (by simp)).trans ((gZ.block _ (hlt hY.s) (by simp)).trans hY.s)⟩;have hbU:Bw w U:=by
   have h1:Bw w Y:=zst hbX hbY;have h2:∀ (A B:Wd),Bw w A->A.grownBy B (some L)->Bw w B:=fun A B ha hg=>ha.trans ⟨hg.os,hg.tape,hg.output,hg.size,fun j hj=>hg.block j (nL hj ha.size) (by simp;omega)⟩;exact h2 _ _ (h2 _ _ h1 gZ) gU
  refine⟨Nat,fun j=>⟨[(0,.slice (some ⟨b,o,none⟩) l.length cap),(1,i64 locs),(5,At0 L),(6,.slice (some ⟨L+2,0,none⟩) 8 8),(17,.slice (some ⟨b,o,none⟩) l.length cap),(18,i64 l.length),(19,i64 (k:Nat)),(32,.slice (some ⟨L+2,0,none⟩) 8 8),(33,i64 8),(34,i64 (j:Nat))],[]⟩,
   fun j X=>j<=8/\(∀ i,i<j->(q6 l[k] locs (l.length-1-k))[i]?=some true)/\ThI X L l[k] locs (l.length-1-k)/\Bw w X,fun j=>8-j,0,
   (cvE rfl rfl),⟨Gg _,fun i hi=>by omega,hIU,hbU⟩,?_⟩
  clear hIU hbU;rintro j X2 ⟨hj,hpre,hI2,hb2⟩;dsimp only at hj hpre ⊢;have hG2:GlobC X2:=hG.below hb2;have hS:SpV X2 L (L+1) l[k] locs (l.length-1-k):=⟨hI2.c,hI2.b,hG2⟩;refine biE (fun hc2=>?_) fun hc2=>?_
  ·have hc2:(j:Int)<8:=dT hc2;refine⟨j,rfl,(by omega),?_⟩;have ho:0<j->l[k].op.toNat<=8:=fun h0=>by
    have:=Ug (hpre 0 h0);rw [bAT] at this;exact dT this.2
   have hat2:∀ {v:Value},(zjD L (L+1))[j]?=some v->X2.cell? ⟨L+2,0+j*1,none⟩=some v:=fun hv=>by
    have:=zc (za hI2.s) (i:=j) (by simpa using hv);rw [Gf];exact this
   have hcs:j=0\/j=1\/j=2\/j=3\/j=4\/j=5\/j=6\/j=7:=by omega
   rcases hcs with rfl | rfl | rfl | rfl | rfl | rfl | rfl | rfl
   ·refine⟨_,hat2 rfl,cmo (zsX hS) ?_⟩;rintro e W ⟨rfl,hbW⟩;have hI3:=hI2.below hbW;refine biE (fun hb=>?_) fun hb=>?_
    ·have hb:(!((q6 l[k] locs (l.length-1-k))[0]'(by show 0<8;decide)))=true:=hb;have hb:(q6 l[k] locs (l.length-1-k))[0]?=some false:=(by rw [gE (by show 0<8;decide)];exact Gs some (by rw [<- UL ((q6 l[k] locs (l.length-1-k))[0]'(by show 0<8;decide)),hb];rfl));exact zd7 hkl hb ((zst hb2 hbW))
    ·have hb:(!((q6 l[k] locs (l.length-1-k))[0]'(by show 0<8;decide)))=false:=hb;have hb:(q6 l[k] locs (l.length-1-k))[0]?=some true:=(by rw [gE (by show 0<8;decide)];exact Gs some (by rw [<- UL ((q6 l[k] locs (l.length-1-k))[0]'(by show 0<8;decide)),hb];rfl));refine⟨_,(zk (by omega)).trans rfl,1,(cvE rfl rfl),⟨by omega,fun i hi=>?_,hI3,(zst hb2 hbW)⟩,by decide⟩;by_cases hik:i=0
     ·rw [hik];exact hb
     ·exact hpre i (by omega)
   ·refine⟨_,hat2 rfl,cmo (zsW hS (ho (by omega))) ?_⟩;rintro e W ⟨rfl,hbW⟩;have hI3:=hI2.below hbW;refine biE (fun hb=>?_) fun hb=>?_
    ·have hb:(!((q6 l[k] locs (l.length-1-k))[1]'(by show 1<8;decide)))=true:=hb;have hb:(q6 l[k] locs (l.length-1-k))[1]?=some false:=(by rw [gE (by show 1<8;decide)];exact Gs some (by rw [<- UL ((q6 l[k] locs (l.length-1-k))[1]'(by show 1<8;decide)),hb];rfl));exact zd7 hkl hb ((zst hb2 hbW))
    ·have hb:(!((q6 l[k] locs (l.length-1-k))[1]'(by show 1<8;decide)))=false:=hb;have hb:(q6 l[k] locs (l.length-1-k))[1]?=some true:=(by rw [gE (by show 1<8;decide)];exact Gs some (by rw [<- UL ((q6 l[k] locs (l.length-1-k))[1]'(by show 1<8;decide)),hb];rfl));refine⟨_,(zk (by omega)).trans rfl,2,(cvE rfl rfl),⟨by omega,fun i hi=>?_,hI3,(zst hb2 hbW)⟩,by decide⟩;by_cases hik:i=1
     ·rw [hik];exact hb
     ·exact hpre i (by omega)
   ·refine⟨_,hat2 rfl,cmo (zsV hS) ?_⟩;rintro e W ⟨rfl,hbW⟩;have hI3:=hI2.below hbW;refine biE (fun hb=>?_) fun hb=>?_
    ·have hb:(!((q6 l[k] locs (l.length-1-k))[2]'(by show 2<8;decide)))=true:=hb;have hb:(q6 l[k] locs (l.length-1-k))[2]?=some false:=(by rw [gE (by show 2<8;decide)];exact Gs some (by rw [<- UL ((q6 l[k] locs (l.length-1-k))[2]'(by show 2<8;decide)),hb];rfl));exact zd7 hkl hb ((zst hb2 hbW))
    ·have hb:(!((q6 l[k] locs (l.length-1-k))[2]'(by show 2<8;decide)))=false:=hb;have hb:(q6 l[k] locs (l.length-1-k))[2]?=some true:=(by rw [gE (by show 2<8;decide)];exact Gs some (by rw [<- UL ((q6 l[k] locs (l.length-1-k))[2]'(by show 2<8;decide)),hb];rfl));refine⟨_,(zk (by omega)).trans rfl,3,(cvE rfl rfl),⟨by omega,fun i hi=>?_,hI3,(zst hb2 hbW)⟩,by decide⟩;by_cases hik:i=2
     ·rw [hik];exact hb
     ·exact hpre i (by omega)
   ·refine⟨_,hat2 rfl,cmo (zsU hS (ho (by omega))) ?_⟩;rintro e W ⟨rfl,hbW⟩;have hI3:=hI2.below hbW;refine biE (fun hb=>?_) fun hb=>?_
    ·have hb:(!((q6 l[k] locs (l.length-1-k))[3]'(by show 3<8;decide)))=true:=hb;have hb:(q6 l[k] locs (l.length-1-k))[3]?=some false:=(by rw [gE (by show 3<8;decide)];exact Gs some (by rw [<- UL ((q6 l[k] locs (l.length-1-k))[3]'(by show 3<8;decide)),hb];rfl));exact zd7 hkl hb ((zst hb2 hbW))
    ·have hb:(!((q6 l[k] locs (l.length-1-k))[3]'(by show 3<8;decide)))=false:=hb;have hb:(q6 l[k] locs (l.length-1-k))[3]?=some true:=(by rw [gE (by show 3<8;decide)];exact Gs some (by rw [<- UL ((q6 l[k] locs (l.length-1-k))[3]'(by show 3<8;decide)),hb];rfl));refine⟨_,(zk (by omega)).trans rfl,4,(cvE rfl rfl),⟨by omega,fun i hi=>?_,hI3,(zst hb2 hbW)⟩,by decide⟩;by_cases hik:i=3
     ·rw [hik];exact hb
     ·exact hpre i (by omega)
   ·refine⟨_,hat2 rfl,cmo (zsT hS) ?_⟩;rintro e W ⟨rfl,hbW⟩;have hI3:=hI2.below hbW;refine biE (fun hb=>?_) fun hb=>?_
    ·have hb:(!((q6 l[k] locs (l.length-1-k))[4]'(by show 4<8;decide)))=true:=hb;have hb:(q6 l[k] locs (l.length-1-k))[4]?=some false:=(by rw [gE (by show 4<8;decide)];exact Gs some (by rw [<- UL ((q6 l[k] locs (l.length-1-k))[4]'(by show 4<8;decide)),hb];rfl));exact zd7 hkl hb ((zst hb2 hbW))
    ·have hb:(!((q6 l[k] locs (l.length-1-k))[4]'(by show 4<8;decide)))=false:=hb;have hb:(q6 l[k] locs (l.length-1-k))[4]?=some true:=(by rw [gE (by show 4<8;decide)];exact Gs some (by rw [<- UL ((q6 l[k] locs (l.length-1-k))[4]'(by show 4<8;decide)),hb];rfl));refine⟨_,(zk (by omega)).trans rfl,5,(cvE rfl rfl),⟨by omega,fun i hi=>?_,hI3,(zst hb2 hbW)⟩,by decide⟩;by_cases hik:i=4
     ·rw [hik];exact hb
     ·exact hpre i (by omega)
   ·refine⟨_,hat2 rfl,cmo (zkD hS.cells) ?_⟩;rintro e _ ⟨rfl,rfl⟩;have hbW:Bw X2 X2:=Gj _ _;have hI3:=hI2;refine biE (fun hb=>?_) fun hb=>?_
    ·have hb:(!((q6 l[k] locs (l.length-1-k))[5]'(by show 5<8;decide)))=true:=hb;have hb:(q6 l[k] locs (l.length-1-k))[5]?=some false:=(by rw [gE (by show 5<8;decide)];exact Gs some (by rw [<- UL ((q6 l[k] locs (l.length-1-k))[5]'(by show 5<8;decide)),hb];rfl));exact zd7 hkl hb ((zst hb2 hbW))
    ·have hb:(!((q6 l[k] locs (l.length-1-k))[5]'(by show 5<8;decide)))=false:=hb;have hb:(q6 l[k] locs (l.length-1-k))[5]?=some true:=(by rw [gE (by show 5<8;decide)];exact Gs some (by rw [<- UL ((q6 l[k] locs (l.length-1-k))[5]'(by show 5<8;decide)),hb];rfl));refine⟨_,(zk (by omega)).trans rfl,6,(cvE rfl rfl),⟨by omega,fun i hi=>?_,hI3,(zst hb2 hbW)⟩,by decide⟩;by_cases hik:i=5
     ·rw [hik];exact hb
     ·exact hpre i (by omega)
   ·refine⟨_,hat2 rfl,cmo (zoF hS.cells) ?_⟩;rintro e _ ⟨rfl,rfl⟩;have hbW:Bw X2 X2:=Gj _ _;have hI3:=hI2;refine biE (fun hb=>?_) fun hb=>?_
    ·have hb:(!((q6 l[k] locs (l.length-1-k))[6]'(by show 6<8;decide)))=true:=hb;have hb:(q6 l[k] locs (l.length-1-k))[6]?=some false:=(by rw [gE (by show 6<8;decide)];exact Gs some (by rw [<- UL ((q6 l[k] locs (l.length-1-k))[6]'(by show 6<8;decide)),hb];rfl));exact zd7 hkl hb ((zst hb2 hbW))
    ·have hb:(!((q6 l[k] locs (l.length-1-k))[6]'(by show 6<8;decide)))=false:=hb;have hb:(q6 l[k] locs (l.length-1-k))[6]?=some true:=(by rw [gE (by show 6<8;decide)];exact Gs some (by rw [<- UL ((q6 l[k] locs (l.length-1-k))[6]'(by show 6<8;decide)),hb];rfl));refine⟨_,(zk (by omega)).trans rfl,7,(cvE rfl rfl),⟨by omega,fun i hi=>?_,hI3,(zst hb2 hbW)⟩,by decide⟩;by_cases hik:i=6
     ·rw [hik];exact hb
     ·exact hpre i (by omega)
   ·refine⟨_,hat2 rfl,cmo (zsS hS (ho (by omega))) ?_⟩;rintro e W ⟨rfl,hbW⟩;have hI3:=hI2.below hbW;refine biE (fun hb=>?_) fun hb=>?_
    ·have hb:(!((q6 l[k] locs (l.length-1-k))[7]'(by show 7<8;decide)))=true:=hb;have hb:(q6 l[k] locs (l.length-1-k))[7]?=some false:=(by rw [gE (by show 7<8;decide)];exact Gs some (by rw [<- UL ((q6 l[k] locs (l.length-1-k))[7]'(by show 7<8;decide)),hb];rfl));exact zd7 hkl hb ((zst hb2 hbW))
    ·have hb:(!((q6 l[k] locs (l.length-1-k))[7]'(by show 7<8;decide)))=false:=hb;have hb:(q6 l[k] locs (l.length-1-k))[7]?=some true:=(by rw [gE (by show 7<8;decide)];exact Gs some (by rw [<- UL ((q6 l[k] locs (l.length-1-k))[7]'(by show 7<8;decide)),hb];rfl));refine⟨_,(zk (by omega)).trans rfl,8,(cvE rfl rfl),⟨by omega,fun i hi=>?_,hI3,(zst hb2 hbW)⟩,by decide⟩;by_cases hik:i=7
     ·rw [hik];exact hb
     ·exact hpre i (by omega)
  ·have hc2:¬ (j:Int)<8:=dF hc2;obtain rfl:j=8:=by omega
   have hok:zqn l[k] locs (l.length-1-k)=true:=zlr hpre rfl;refine nxI (by omega) ⟨k+1,(cvE rfl rfl),⟨hkl,fun i hi x hlx=>?_,⟨_,_,hI2⟩,hb2⟩,zdc (by omega)⟩;by_cases hik:i=k
   ·subst hik;rw [gE hkl] at hlx;rw [<- Ug hlx];exact hok
   ·exact hdone i (by omega) x hlx
 ·have hc:¬ (k:Int)<(l.length:Int):=dF hc;obtain rfl:k=l.length:=by omega
  refine⟨rb ?_,hbX⟩;unfold jX;rw [Uu (by omega),UA,Eq.comm,Qj];intro i hi;have hi:i<l.length:=Ur.1 hi;rw [gE hi];exact hdone i hi _ (gE hi)
end Go.Proofs.YtnadlhpkpnfmbaaGreatDoor
