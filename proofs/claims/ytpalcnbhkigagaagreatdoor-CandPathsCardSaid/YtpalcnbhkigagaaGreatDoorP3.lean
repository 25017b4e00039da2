/- Contracts of functions, and plain facts, for the law that the last text of this claim proves. -/
import Derived.Test.YtpalcnbhkigagaaGreatDoorP2
import Derived.Test.YtpalcnbhkigagaaGreatDoorP1
import Derived.Laws.StructEq
import Derived.ChangeKeysEq
import Derived.Lib.AppendZerosOnto
import Derived.Laws.OwnMore
set_option linter.unusedSimpArgs false
set_option linter.unusedVariables false
namespace Go.Proofs.YtpalcnbhkigagaaGreatDoor
open Go.Vc Go.RowKit Go.Sei
theorem zr7 (s:List UInt8) (w:Wd):Calls PG 119 #[qk s] w fun e w'=>e = .returned (.bool (zgD s))/\w=w':=by
 refine zI 22 [qk s] Tryz.func119 ?_;refine⟨_,fun w=>jc _ _ s [116,101,115,116] w,?_⟩;refine biE (fun h=>?_) fun h0=>?_
 ·refine brE h ?_;exact⟨rb (Ql.2 ⟨[116,101,115,116],by decide,h⟩).symm,rfl⟩
 refine⟨_,fun w=>jc _ _ s [105,110,105,116] w,?_⟩;refine biE (fun h=>?_) fun h1=>?_
 ·refine brE h ?_;exact⟨rb (Ql.2 ⟨[105,110,105,116],by decide,h⟩).symm,rfl⟩
 refine⟨_,fun w=>jc _ _ s [116,104,114,101,97,100] w,?_⟩;refine biE (fun h=>?_) fun h2=>?_
 ·refine brE h ?_;exact⟨rb (Ql.2 ⟨[116,104,114,101,97,100],by decide,h⟩).symm,rfl⟩
 refine⟨_,fun w=>jc _ _ s [115,111,109,101] w,?_⟩;refine biE (fun h=>?_) fun h3=>?_
 ·refine brE h ?_;exact⟨rb (Ql.2 ⟨[115,111,109,101],by decide,h⟩).symm,rfl⟩
 refine⟨_,fun w=>jc _ _ s [110,111,110,101] w,?_⟩;refine biE (fun h=>?_) fun h4=>?_
 ·refine brE h ?_;exact⟨rb (Ql.2 ⟨[110,111,110,101],by decide,h⟩).symm,rfl⟩
 refine⟨_,fun w=>jc _ _ s [97,108,108] w,?_⟩;refine biE (fun h=>?_) fun h5=>?_
 ·refine brE h ?_;exact⟨rb (Ql.2 ⟨[97,108,108],by decide,h⟩).symm,rfl⟩
 refine⟨_,fun w=>jc _ _ s [97,99,113] w,?_⟩;refine biE (fun h=>?_) fun h6=>?_
 ·refine brE h ?_;exact⟨rb (Ql.2 ⟨[97,99,113],by decide,h⟩).symm,rfl⟩
 refine⟨_,fun w=>jc _ _ s [114,101,108] w,?_⟩;refine biE (fun h=>?_) fun h7=>?_
 ·refine brE h ?_;exact⟨rb (Ql.2 ⟨[114,101,108],by decide,h⟩).symm,rfl⟩
 refine⟨_,fun w=>jc _ _ s [115,119,97,112] w,?_⟩;refine biE (fun h=>?_) fun h8=>?_
 ·refine brE h ?_;exact⟨rb (Ql.2 ⟨[115,119,97,112],by decide,h⟩).symm,rfl⟩
 refine⟨_,fun w=>jc _ _ s [102,101,116,99,104] w,?_⟩;refine biE (fun h=>?_) fun h9=>?_
 ·refine brE h ?_;exact⟨rb (Ql.2 ⟨[102,101,116,99,104],by decide,h⟩).symm,rfl⟩
 refine⟨_,fun w=>jc _ _ s [99,97,115] w,?_⟩;refine biE (fun h=>?_) fun h10=>?_
 ·refine brE h ?_;exact⟨rb (Ql.2 ⟨[99,97,115],by decide,h⟩).symm,rfl⟩
 refine⟨_,fun w=>jc _ _ s [102,101,110,99,101] w,?_⟩;refine biE (fun h=>?_) fun h11=>?_
 ·refine brE h ?_;exact⟨rb (Ql.2 ⟨[102,101,110,99,101],by decide,h⟩).symm,rfl⟩
 refine⟨_,fun w=>jc _ _ s [108,111,97,100,115] w,?_⟩;refine biE (fun h=>?_) fun h12=>?_
 ·refine brE h ?_;exact⟨rb (Ql.2 ⟨[108,111,97,100,115],by decide,h⟩).symm,rfl⟩
 refine⟨_,fun w=>jc _ _ s [115,116,111,114,101,115] w,?_⟩;refine biE (fun h=>?_) fun h13=>?_
 ·refine brE h ?_;exact⟨rb (Ql.2 ⟨[115,116,111,114,101,115],by decide,h⟩).symm,rfl⟩
 refine⟨_,fun w=>jc _ _ s [115,107,105,112] w,?_⟩;refine biE (fun h=>?_) fun h14=>?_
 ·refine brE h ?_;exact⟨rb (Ql.2 ⟨[115,107,105,112],by decide,h⟩).symm,rfl⟩
 refine⟨_,fun w=>jc _ _ s [105,102] w,?_⟩;refine biE (fun h=>?_) fun h15=>?_
 ·refine brE h ?_;exact⟨rb (Ql.2 ⟨[105,102],by decide,h⟩).symm,rfl⟩
 refine⟨_,fun w=>jc _ _ s [116,114,117,101] w,?_⟩;refine biE (fun h=>?_) fun h16=>?_
 ·exact⟨rb (Ql.2 ⟨[116,114,117,101],by decide,h⟩).symm,rfl⟩
 exact⟨rb (by unfold zgD zqU;simp only [List.any_cons,List.any_nil,h0,h1,h2,h3,h4,h5,h6,h7,h8,h9,h10,h11,h12,h13,h14,h15,h16];rfl),rfl⟩
theorem zr4 (s:List UInt8) (hs:s.length<=140737488351232) (w:Wd):Calls PG 89 #[qk s] w fun e w'=>e = .returned (.bool (zel s))/\w=w':=by
 refine je 55 [qk s] (.s .p (.c .p (.s .p (.c .p .p)))) Tryz.func89 ?_;refine⟨Unit,fun _=>⟨[(0,qk s)],[]⟩,fun _ X=>(∃ c r,s=c::r/\r.length+1<=16/\z7 c=3/\zgD s=false)/\w=X,?_,?_⟩
 ·refine biE (fun h=>?_) fun h=>?_
  ·have h:(s.length:Int)<1:=dT h;have h0:s=[]:=Jg (by omega);subst h0;refine brT ?_;refine brT ?_;refine brT ?_;exact⟨rfl,rfl⟩
  have h:¬ (s.length:Int)<1:=dF h;obtain⟨c,r,rfl⟩:∃ c r,s=c::r:=by
   cases s with
   | nil=>simp at h
   | cons c r=>exact⟨c,r,rfl⟩
  have hdef:zel (c::r)=(decide (r.length+1<=16)&&(decide (z7 c=3)&&(!zgD (c::r)&&(r.all qt&&(!decide (c=114)||(decide (qM r=0)||decide (qM r<r.length))))))):=rfl;have hsz:(((bs (c::r)).size:Nat):Int)=(r.length+1:Nat):=rfl;refine biE (fun h2=>?_) fun h2=>?_
  ·have h2:(16:Int)<((r.length+1:Nat):Int):=dT h2;refine brT ?_;refine brT ?_;exact⟨rb (by rw [hdef,Uh (by omega)];rfl),rfl⟩
  have h2:¬ (16:Int)<((r.length+1:Nat):Int):=dF h2;refine⟨0,rfl,Nat.succ_pos _,c,rfl,?_⟩;refine cmo (jQ c _) ?_;rintro e _ ⟨rfl,rfl⟩;refine biE (fun h3=>?_) fun h3=>?_
  ·have h3:¬ z7 c=3:=by
    have h1:(!decide ((z7 c:Int)=3))=true:=h3;simp at h1;omega
   refine brT ?_;exact⟨rb (by rw [hdef,Uh h3];simp),rfl⟩
  have h3:z7 c=3:=by
   have h1:(!decide ((z7 c:Int)=3))=false:=h3;simp at h1;omega
  refine cmo (zr7 (c::r) _) ?_;rintro e _ ⟨rfl,rfl⟩;refine biE (fun h4=>?_) fun h4=>?_
  ·have h4:zgD (c::r)=true:=h4;exact⟨rb (by rw [hdef,h4];simp),rfl⟩
  ·exact⟨(),(cvE rfl rfl),⟨c,r,rfl,by omega,h3,h4⟩,rfl⟩
 rintro _ _ ⟨⟨c,r,rfl,h1,h3,h4⟩,rfl⟩;have hdef:zel (c::r)=(r.all qt&&(!decide (c=114)||(decide (qM r=0)||decide (qM r<r.length)))):=by
  show (decide (r.length+1<=16)&&(decide (z7 c=3)&&(!zgD (c::r)&&(r.all qt&&(!decide (c=114)||(decide (qM r=0)||decide (qM r<r.length)))))))=_;rw [Us h1,Us h3,h4];rfl
 rw [hdef];refine⟨Unit,fun _=>⟨[(0,qk (c::r)),(3,i64 (qM r:Nat))],[]⟩,fun _ X=>r.all qt=true/\w=X,?_,?_⟩
 ·refine⟨Nat,fun k=>⟨[(0,qk (c::r)),(3,i64 (qM (r.take k):Nat)),(4,i64 (k+1:Nat))],[]⟩,fun k X=>k<=r.length/\(∀ d∈r.take k,qt d=true)/\qM (r.take k)<=k/\w=X,fun k=>r.length-k,0,(cvE rfl rfl),⟨UZ _,by simp,UW _,rfl⟩,?_⟩;rintro k _ ⟨hk,hw,hdk,rfl⟩;dsimp only at hk hw hdk ⊢;refine biE (fun hc=>?_) fun hc=>?_
  ·have hc:((k+1:Nat):Int)<((r.length+1:Nat):Int):=dT hc;have hl:k<r.length:=by omega
   have hat:(bs (c::r)).data.toList[k+1]?=some r[k]:=by
    show (c::r)[k+1]?=_;rw [Jw,gE hl]
   refine⟨k+1,rfl,(by show k+1<r.length+1;omega),r[k],hat,?_⟩;refine cmo (zjR _ _) ?_;rintro e _ ⟨rfl,rfl⟩;refine biE (fun hi=>?_) fun hi=>?_
   ·have hi:(!qt r[k])=true:=hi;have hi:qt r[k]=false:=(by simpa using hi);have:r.all qt=false:=by
     rw [KN];exact⟨r[k],gM _,by rw [hi];simp⟩
    exact⟨rb (by rw [this];rfl),rfl⟩
   have hi:(!qt r[k])=false:=hi;have hi:qt r[k]=true:=by simpa using hi
   have hw':∀ d∈r.take (k+1),qt d=true:=by
    rw [tsg hl];intro d hd;rcases QS.1 hd with hd | hd
    ·exact hw d hd
    ·simp only [KB] at hd;rw [hd];exact hi
   have hds:qM (r.take (k+1))=qM (r.take k)+(if za4 r[k]=true then 1 else 0):=by
    unfold qM;rw [tsg hl,Kw,lap];congr 1;by_cases h:za4 r[k]=true
    ·rw [Gp h,List.filter_cons_of_pos h];rfl
    ·rw [Gn h,List.filter_cons_of_neg h];rfl
   refine⟨k+1,rfl,(by show k+1<r.length+1;omega),r[k],hat,?_⟩;refine cmo (jQ _ _) ?_;rintro e _ ⟨rfl,rfl⟩;have hd:decide ((z7 r[k]:Int)=4)=za4 r[k]:=zbM (b:=4);refine biE (fun hg=>?_) fun hg=>?_
   ·have hg:za4 r[k]=true:=hd.symm.trans hg;rw [Gp hg] at hds;refine⟨(qM (r.take (k+1)):Int),(ze (by omega)).trans (by omega),?_⟩;refine⟨((k+1+1:Nat):Int),(ze (by omega)).trans (by omega),?_⟩;exact⟨k+1,(cvE rfl rfl),⟨hl,hw',by omega,rfl⟩,zdc (by omega)⟩
   ·have hg:¬ za4 r[k]=true:=(by rw [Qj];exact hd.symm.trans hg);rw [Gn hg] at hds;refine⟨((k+1+1:Nat):Int),(ze (by omega)).trans (by omega),?_⟩;exact⟨k+1,⟨.cons rfl (.cons (by rw [hds];rfl) (.cons rfl .nil)),rfl⟩,⟨hl,hw',by omega,rfl⟩,zdc (by omega)⟩
  ·have hc:¬ ((k+1:Nat):Int)<((r.length+1:Nat):Int):=dF hc;obtain rfl:k=r.length:=by omega
   rw [Qx] at hw;exact⟨(),⟨.cons rfl (.cons (by rw [Qx];rfl) .nil),rfl⟩,Qk.2 hw,rfl⟩
 rintro _ _ ⟨hall,rfl⟩;rw [hall,Uy];have hdl:qM r<=r.length:=JM _ _;refine⟨0,rfl,Nat.succ_pos _,c,rfl,?_⟩;have cd:decide ((c.toNat:Int)=114)=decide (c=114):=by rw [QG];exact jj (y:=114)
 refine biE (fun h=>?_) fun h=>?_
 ·have h:(!decide (c=114))=true:=by
   have h:(!decide ((c.toNat:Int)=114))=true:=h
   rwa [cd] at h
  refine brT ?_;exact⟨rb (by rw [h];rfl),rfl⟩
 have h:(!decide (c=114))=false:=by
  have h:(!decide ((c.toNat:Int)=114))=false:=h
  rwa [cd] at h
 rw [h,Uv];refine biE (fun h5=>?_) fun h5=>?_
 ·have h5:qM r=0:=by have h5:(qM r:Int)=0:=dT h5;omega
  exact⟨rb (by rw [Us h5];rfl),rfl⟩
 have h5:¬ qM r=0:=by have h5:¬ (qM r:Int)=0:=dF h5;omega
 refine⟨(r.length:Nat),(ze (by show -9223372036854775808<=((r.length+1:Nat):Int)-1/\((r.length+1:Nat):Int)-1<=9223372036854775807;omega)).trans (by show ((r.length+1:Nat):Int)-1=_;omega),?_⟩;exact⟨rb (by rw [Uh h5,Uv,QG];omega),rfl⟩
theorem zqL (p:OA) (cap:Nat) (l:List (List UInt8)) (s:List UInt8) (w:Wd) (hl:SlR zjI w p l) (hn:l.length<=140737488351232) :
  Calls PG 121 #[.slice p l.length cap,qk s] w fun e w'=>∃ n:Int,e = .returned (i64 n)/\decide (0<=n)=l.any (fun q=>decide (q=s))/\w=w':=by
 refine zI 19 [.slice p l.length cap,qk s] Tryz.func121 ?_;refine⟨Nat,fun k=>⟨[(0,.slice p l.length cap),(1,qk s),(7,i64 l.length),(8,i64 (k:Nat))],[]⟩,fun k X=>k<=l.length/\(∀ q∈l.take k,¬ q=s)/\w=X,fun k=>l.length-k,0,(cvE rfl rfl),⟨UZ _,by simp,rfl⟩,?_⟩;rintro k _ ⟨hk,hno,rfl⟩;dsimp only at hk hno ⊢;refine biE (fun hc=>?_) fun hc=>?_
 ·have hc:(k:Int)<(l.length:Int):=dT hc;have hkl:k<l.length:=by omega
  obtain⟨b,o,rfl,hb,hat⟩:=hl.at hkl;refine⟨k,rfl,hkl,?_⟩;refine⟨_,zb (hat k hkl) (i:=0) rfl,?_⟩;refine⟨_,fun w=>jc _ _ s l[k] w,?_⟩;refine biE (fun h=>?_) fun h=>?_
  ·have h:s=l[k]:=dT h;refine⟨k,rfl,?_,rfl⟩;rw [Us (by omega)];symm;rw [Ql];exact⟨l[k],gM _,Us h.symm⟩
  ·have h:¬ s=l[k]:=dF h;refine⟨(k+1:Nat),(ze (by omega)).trans (by omega),?_⟩;refine⟨k+1,(cvE rfl rfl),⟨hkl,?_,rfl⟩,zdc (by omega)⟩;rw [tsg hkl];intro q hq;rcases QS.1 hq with hq | hq
   ·exact hno q hq
   ·simp only [KB] at hq;rw [hq];exact fun e=>h e.symm
 ·have hc:¬ (k:Int)<(l.length:Int):=dF hc;obtain rfl:k=l.length:=by omega
  rw [Qx] at hno;refine⟨-1,rfl,?_,rfl⟩;symm;show _=false;rw [KO];exact fun q hq=>by simpa using hno q hq
theorem zli (p:OA) (cap:Nat) (l:List (List UInt8)) (s:List UInt8) (w:Wd) (hl:SlR zjI w p l) (hn:l.length<=140737488351232) :
  Calls PG 90 #[.slice p l.length cap,qk s] w fun e w'=>e = .returned (.bool (l.any fun q=>decide (q=s)))/\w=w':=by
 refine zI 9 [.slice p l.length cap,qk s] Tryz.func90 ?_;refine cmo (zqL p cap l s w hl hn) ?_;rintro e _ ⟨n,rfl,h,rfl⟩;exact⟨rb h,rfl⟩
def GlobC (w : Wd) : Prop := zu w ⟨2, 0, none⟩ (zej.map u8)
theorem GlobC.below {w w2 : Wd} (h : GlobC w) (hb : Below w.heap.size w w2) : GlobC w2 := zm hb h
def spC (x : InsD) (locs after : Nat) : List Value := [u8 x.op, u8 x.dst, u8 x.loc, .bool x.ar, u8 x.an, .bool x.br, u8 x.bn, u8 x.fn, u8 x.mode, u8 x.skip, i64 locs, i64 after]
theorem u8d (x k : UInt8) : decide ((x.toNat : Int) = (k.toNat : Int)) = decide (x = k) := by rw [QG]; exact jj
theorem zq7 (a b : UInt8) : IntKind.u8.wrap ((BitVec.ofInt IntKind.u8.bits (a.toNat : Int) &&& BitVec.ofInt IntKind.u8.bits (b.toNat : Int)).toNat : Int) = ((a &&& b).toNat : Int) := by
  have h : ∀ x : UInt8, BitVec.ofInt 8 (x.toNat : Int) = x.toBitVec := fun x => by
    apply BitVec.eq_of_toNat_eq
    rw [Kt]
    have := x.toNat_lt
    show ((x.toNat : Int) % (2 ^ 8 : Nat)).toNat = x.toNat
    omega
  show IntKind.u8.wrap ((BitVec.ofInt 8 (a.toNat : Int) &&& BitVec.ofInt 8 (b.toNat : Int)).toNat : Int) = _
  rw [h, h]
  have e : (a.toBitVec &&& b.toBitVec).toNat = (a &&& b).toNat := rfl
  rw [e]
  have := (a &&& b).toNat_lt
  exact zdZ (by omega)
theorem zep {g locs after : Nat} {x : InsD} {w : Wd} (bit : UInt8) (h : zu w ⟨g, 0, none⟩ (spC x locs after)) (hop : x.op.toNat ≤ 8) (hG : GlobC w) :
    Calls PG 127 #[.pointer (some ⟨g, 0, none⟩), u8 bit] w fun e w' => e = .returned (.bool (jB x.op bit)) ∧ w = w' := by
  refine jp (S := sg 15) (zbc _) (args := [.pointer (some ⟨g, 0, none⟩), u8 bit]) Tryz.func127 rfl rfl (JS rfl) rfl ?_
  refine ⟨_, zb h (i := 0) rfl, ?_⟩
  refine ⟨x.op.toNat, rfl, (by show x.op.toNat < 9; omega), ?_⟩
  have hn : (zej.map u8)[x.op.toNat]? = some (u8 (zej.getD x.op.toNat 0)) := by
    have hl : x.op.toNat < zej.length := by show _ < 9; omega
    rw [KV, Jv hl, List.getD_eq_getElem?_getD, Jv hl]; rfl
  refine ⟨u8 (zej.getD x.op.toNat 0), by rw [UX]; exact zb hG hn, ?_⟩
  refine ⟨((zej.getD x.op.toNat 0 &&& bit).toNat : Int), zq7 _ _, ?_⟩
  exact ⟨rb (by unfold jB; rw [← u8d]; rfl), rfl⟩
theorem zgZ (r : Bool) (n : UInt8) (w : Wd) : Calls PG 129 #[.agg #[.bool r, u8 n]] w fun e w' => e = .returned (.bool (ziY r n)) ∧ Below w.heap.size w w' := by
  refine jp (S := sg 11) (zbc _) (args := [.agg #[.bool r, u8 n]]) Tryz.func129 rfl rfl (JS rfl) rfl ?_
  have hb0 : Below w.heap.size w (w.alloc (.cells #[.bool r, u8 n] 39)) := (Gb _ _).alloc (UW _) _
  have c0 := za (zz w (.cells #[.bool r, u8 n] 39))
  refine ⟨_, zb c0 (i := 0) rfl, ?_⟩
  cases r with
  | false =>
    refine brT ?_
    exact ⟨rfl, hb0⟩
  | true =>
    refine brF ?_
    refine ⟨_, zb c0 (i := 1) rfl, ?_⟩
    refine ⟨rb ?_, hb0⟩
    show decide ((n.toNat : Int) < 8) = decide (n.toNat < 8)
    rw [QG]; omega
theorem zjJ {g locs after : Nat} {x : InsD} {w : Wd} (h : zu w ⟨g, 0, none⟩ (spC x locs after)) :
    Calls PG 130 #[.pointer (some ⟨g, 0, none⟩)] w fun e w' => e = .returned (.bool (zem x)) ∧ w = w' := by
  refine jp (S := sg 64) (zbc _) (args := [.pointer (some ⟨g, 0, none⟩)]) Tryz.func130 rfl rfl (JS rfl) rfl ?_
  refine ⟨_, zb h (i := 0) rfl, ?_⟩
  refine Gg (fun h1 => ?_) (fun h1 => ?_)
  · have h1 : x.op = 1 := Qd ((u8d x.op 1).symm.trans h1)
    have e : zem x = (decide (x.mode = 0) || decide (x.mode = 1)) := by unfold zem; rw [Gp h1]
    rw [e, ← u8d, ← u8d]
    refine ⟨_, zb h (i := 8) rfl, ?_⟩
    refine Gg (fun h2 => ?_) (fun h2 => ?_)
    · exact ⟨rb (by have h2 : decide ((x.mode.toNat : Int) = ((0 : UInt8).toNat : Int)) = true := h2
                    rw [h2]; rfl), rfl⟩
    · refine ⟨_, zb h (i := 8) rfl, ?_⟩
      exact ⟨rb (by have h2 : decide ((x.mode.toNat : Int) = ((0 : UInt8).toNat : Int)) = false := h2
                    rw [h2]; rfl), rfl⟩
  have h1 : ¬ x.op = 1 := KJ ((u8d x.op 1).symm.trans h1)
  refine Gg (fun h2 => ?_) (fun h2 => ?_)
  · have h2 : x.op = 2 := Qd ((u8d x.op 2).symm.trans h2)
    have e : zem x = (decide (x.mode = 0) || decide (x.mode = 2)) := by unfold zem; rw [Gn h1, Gp h2]
    rw [e, ← u8d, ← u8d]
    refine ⟨_, zb h (i := 8) rfl, ?_⟩
    refine Gg (fun h2 => ?_) (fun h2 => ?_)
    · exact ⟨rb (by have h2 : decide ((x.mode.toNat : Int) = ((0 : UInt8).toNat : Int)) = true := h2
                    rw [h2]; rfl), rfl⟩
    · refine ⟨_, zb h (i := 8) rfl, ?_⟩
      exact ⟨rb (by have h2 : decide ((x.mode.toNat : Int) = ((0 : UInt8).toNat : Int)) = false := h2
                    rw [h2]; rfl), rfl⟩
  have h2 : ¬ x.op = 2 := KJ ((u8d x.op 2).symm.trans h2)
  refine Gg (fun h3 => ?_) (fun h3 => ?_)
  · have h3 : x.op = 7 := Qd ((u8d x.op 7).symm.trans h3)
    have e : zem x = (decide (x.mode = 3) || (decide (x.mode = 4) || decide (x.mode = 5))) := by unfold zem; rw [Gn h1, Gn h2, Gp h3]
    rw [e, ← u8d, ← u8d, ← u8d]
    refine ⟨_, zb h (i := 8) rfl, ?_⟩
    refine Gg (fun h4 => ?_) (fun h4 => ?_)
    · refine brT ?_
      exact ⟨rb (by have h4 : decide ((x.mode.toNat : Int) = ((3 : UInt8).toNat : Int)) = true := h4
                    rw [h4]; rfl), rfl⟩
    have h4 : decide ((x.mode.toNat : Int) = ((3 : UInt8).toNat : Int)) = false := h4
    refine ⟨_, zb h (i := 8) rfl, ?_⟩
    refine Gg (fun h5 => ?_) (fun h5 => ?_)
    · exact ⟨rb (by have h5 : decide ((x.mode.toNat : Int) = ((4 : UInt8).toNat : Int)) = true := h5
                    rw [h4, h5]; rfl), rfl⟩
    have h5 : decide ((x.mode.toNat : Int) = ((4 : UInt8).toNat : Int)) = false := h5
    refine ⟨_, zb h (i := 8) rfl, ?_⟩
    exact ⟨rb (by rw [h4, h5]; rfl), rfl⟩
  have h3 : ¬ x.op = 7 := KJ ((u8d x.op 7).symm.trans h3)
  exact ⟨rb (by unfold zem; rw [Gn h1, Gn h2, Gn h3]), rfl⟩
theorem zm0 {g locs after : Nat} {x : InsD} {w : Wd} (h : zu w ⟨g, 0, none⟩ (spC x locs after)) :
    Calls PG 131 #[.pointer (some ⟨g, 0, none⟩)] w fun e w' => e = .returned (.bool (fnL x)) ∧ w = w' := by
  refine jp (S := sg 56) (zbc _) (args := [.pointer (some ⟨g, 0, none⟩)]) Tryz.func131 rfl rfl (JS rfl) rfl ?_
  refine ⟨_, zb h (i := 0) rfl, ?_⟩
  refine Gg (fun h1 => ?_) (fun h1 => ?_)
  · have h1 : x.op = 3 := Qd ((u8d x.op 3).symm.trans h1)
    have e : fnL x = (decide (x.fn = 1) || (decide (x.fn = 2) || decide (x.fn = 3))) := by unfold fnL; rw [Gp h1]
    rw [e, ← u8d, ← u8d, ← u8d]
    refine ⟨_, zb h (i := 7) rfl, ?_⟩
    refine Gg (fun h4 => ?_) (fun h4 => ?_)
    · refine brT ?_
      exact ⟨rb (by have h4 : decide ((x.fn.toNat : Int) = ((1 : UInt8).toNat : Int)) = true := h4
                    rw [h4]; rfl), rfl⟩
    have h4 : decide ((x.fn.toNat : Int) = ((1 : UInt8).toNat : Int)) = false := h4
    refine ⟨_, zb h (i := 7) rfl, ?_⟩
    refine Gg (fun h5 => ?_) (fun h5 => ?_)
    · exact ⟨rb (by have h5 : decide ((x.fn.toNat : Int) = ((2 : UInt8).toNat : Int)) = true := h5
                    rw [h4, h5]; rfl), rfl⟩
    have h5 : decide ((x.fn.toNat : Int) = ((2 : UInt8).toNat : Int)) = false := h5
    refine ⟨_, zb h (i := 7) rfl, ?_⟩
    exact ⟨rb (by rw [h4, h5]; rfl), rfl⟩
  have h1 : ¬ x.op = 3 := KJ ((u8d x.op 3).symm.trans h1)
  refine Gg (fun h2 => ?_) (fun h2 => ?_)
  · have h2 : x.op = 8 := Qd ((u8d x.op 8).symm.trans h2)
    have e : fnL x = (decide (x.fn = 4) || (decide (x.fn = 5) || decide (x.fn = 6))) := by unfold fnL; rw [Gn h1, Gp h2]
    rw [e, ← u8d, ← u8d, ← u8d]
    refine ⟨_, zb h (i := 7) rfl, ?_⟩
    refine Gg (fun h4 => ?_) (fun h4 => ?_)
    · refine brT ?_
      exact ⟨rb (by have h4 : decide ((x.fn.toNat : Int) = ((4 : UInt8).toNat : Int)) = true := h4
                    rw [h4]; rfl), rfl⟩
    have h4 : decide ((x.fn.toNat : Int) = ((4 : UInt8).toNat : Int)) = false := h4
    refine ⟨_, zb h (i := 7) rfl, ?_⟩
    refine Gg (fun h5 => ?_) (fun h5 => ?_)
    · exact ⟨rb (by have h5 : decide ((x.fn.toNat : Int) = ((5 : UInt8).toNat : Int)) = true := h5
                    rw [h4, h5]; rfl), rfl⟩
    have h5 : decide ((x.fn.toNat : Int) = ((5 : UInt8).toNat : Int)) = false := h5
    refine ⟨_, zb h (i := 7) rfl, ?_⟩
    exact ⟨rb (by rw [h4, h5]; rfl), rfl⟩
  have h2 : ¬ x.op = 8 := KJ ((u8d x.op 8).symm.trans h2)
  exact ⟨rb (by unfold fnL; rw [Gn h1, Gn h2]), rfl⟩
set_option maxRecDepth 4000
def zpu:InsD:=⟨0,0,0,false,0,false,0,0,0,0⟩
def nd0 (x:InsD):InsD:={ zpu with op:=x.op }
def nd1 (x:InsD):InsD:={ nd0 x with dst:=if jB x.op 1 then x.dst else 0 }
def nd2 (x:InsD):InsD:={ nd1 x with loc:=if jB x.op 2 then x.loc else 0 }
def nd3 (x:InsD):InsD:={ nd2 x with ar:=jB x.op 4&&x.ar,an:=if jB x.op 4 then x.an else 0 }
def nd4 (x:InsD):InsD:={ nd3 x with br:=jB x.op 8&&x.br,bn:=if jB x.op 8 then x.bn else 0 }
def nd5 (x:InsD):InsD:={ nd4 x with fn:=if jB x.op 16 then x.fn else 0 }
def nd6 (x:InsD):InsD:={ nd5 x with mode:=if jB x.op 32 then x.mode else 0 }
def nd7 (x:InsD):InsD:={ nd6 x with skip:=if jB x.op 64 then x.skip else 0 }
theorem zof {g locs after:Nat} {x:InsD} {w:Wd} (h:zu w ⟨g,0,none⟩ (spC x locs after)) (hg:g<w.heap.size) (hop:x.op.toNat<=8) (hG:GlobC w) :
  CB 124 #[At0 g] w (.agg (zG.enc (zfJ x)).toArray):=by
 refine je 67 [At0 g] (.s .p (.c .p (.c .p (.c .p (.c .p (.c .p (.c .p (.c .p (.c .p .p))))))))) Tryz.func124 ?_;obtain⟨r,hr⟩:=nm (w.heap.size);obtain⟨W0,hW0⟩:=nm (w.alloc (.cells (zG.enc zpu).toArray 41));have hb0:Bw w W0:=by rw [hW0];exact (zba _ _)
 have f0:W0.heap[r]?=some (.cells (zG.enc zpu).toArray 41 (0,0)):=by rw [hW0,hr];exact zz w _
 have s0:W0.heap.size=r+1:=by rw [hW0,wz,hr]
 let Good:InsD->Wd->Prop:=fun y X=>Bw w X/\X.heap[r]?=some (.cells (zG.enc zpu).toArray 41 (0,0))/\X.heap[r+1]?=some (.cells (zG.enc y).toArray 41 (0,0))
 have good:∀ y X,Good y X->zu X ⟨g,0,none⟩ (spC x locs after)/\GlobC X/\g<X.heap.size:=fun y X ⟨hb,_,_⟩=>⟨jL hb hg h,hG.below hb,by have:=hb.size;omega⟩;have turn:∀ y z X Y,Good y X->X.grownBy Y (some (r+1))->Y.heap[r+1]?=some (.cells (zG.enc z).toArray 41 (0,0))->Good z Y:=fun y z X Y ⟨hb,h1,h2⟩ hg' h3 =>
  ⟨hb.grown hg' hb.size (fun k e=>by simp only [Qa] at e;omega),(hg'.block _ (hlt h1) (fun e=>by simp only [Qa] at e;omega)).trans h1,h3⟩
 have start:∀ Y,Bw W0 Y->Y.heap[W0.heap.size]?=some (.cells (Value.agg (zG.enc (nd0 x)).toArray).cells 41 (0,0))->Good (nd0 x) Y:=fun Y hY fY =>
  ⟨(zst hb0 hY),zc hY f0,by rw [<- s0];exact fY⟩
 have h0:zu W0 ⟨g,0,none⟩ (spC x locs after):=jL hb0 hg h;have p2:some (Value.pointer (some ⟨w.heap.size,0,none⟩))=some (At0 r):=by rw [hr]
 have p3:some (Value.pointer (some ⟨W0.heap.size,0,none⟩))=some (At0 (r+1)):=by rw [s0]
 refine⟨Unit,fun _=>⟨[(0,At0 g),(2,At0 r),(3,At0 (r+1))],[]⟩,fun _ X=>Good (nd0 x) X,?_,?_⟩
 ·subst hW0;exact⟨_,zb h0 (i:=0) rfl,zG.enc (nd0 x),rfl,zn (v := .agg (zG.enc (nd0 x)).toArray) k41 rfl rfl rfl fun Y hbY fY sY=>⟨(),⟨.cons rfl (.cons p2 (.cons p3 .nil)),rfl⟩,start Y hbY fY⟩⟩
 clear start h0 f0 hb0 p2 p3 s0;rintro _ Y hY;refine⟨Unit,fun _=>⟨[(0,At0 g),(2,At0 r),(3,At0 (r+1))],[]⟩,fun _ X=>Good (nd1 x) X,?_,?_⟩
 ·obtain⟨hc,hGY,hgY⟩:=good _ Y hY;refine cmo (zep 1 hc hop hGY) ?_;rintro e _ ⟨rfl,rfl⟩;refine biE (fun hh=>?_) fun hh=>?_
  ·have hh:jB x.op 1=true:=hh;have e:nd1 x={ nd0 x with dst:=x.dst }:=by unfold nd1;rw [Gp hh]
   exact⟨_,zb hc (i:=1) rfl,qQ k5 rfl (hY.2.2) (o:=1) (by show 1<10;omega) (v:=u8 x.dst) rfl rfl fun Z fZ gZ sZ=>⟨(),(cvE rfl rfl),turn _ _ Y Z hY gZ (by rw [e];exact fZ)⟩⟩
  ·have hh:jB x.op 1=false:=hh;have e:nd1 x=nd0 x:=by unfold nd1;rw [Gn (by rw [hh];decide)];rfl
   exact⟨(),(cvE rfl rfl),by rw [e];exact hY⟩
 clear hY Y;rintro _ Y hY;refine⟨Unit,fun _=>⟨[(0,At0 g),(2,At0 r),(3,At0 (r+1))],[]⟩,fun _ X=>Good (nd2 x) X,?_,?_⟩
 ·obtain⟨hc,hGY,hgY⟩:=good _ Y hY;refine cmo (zep 2 hc hop hGY) ?_;rintro e _ ⟨rfl,rfl⟩;refine biE (fun hh=>?_) fun hh=>?_
  ·have hh:jB x.op 2=true:=hh;have e:nd2 x={ nd1 x with loc:=x.loc }:=by unfold nd2;rw [Gp hh]
   exact⟨_,zb hc (i:=2) rfl,qQ k5 rfl (hY.2.2) (o:=2) (by show 2<10;omega) (v:=u8 x.loc) rfl rfl fun Z fZ gZ sZ=>⟨(),(cvE rfl rfl),turn _ _ Y Z hY gZ (by rw [e];exact fZ)⟩⟩
  ·have hh:jB x.op 2=false:=hh;have e:nd2 x=nd1 x:=by unfold nd2;rw [Gn (by rw [hh];decide)];rfl
   exact⟨(),(cvE rfl rfl),by rw [e];exact hY⟩
 clear hY Y;rintro _ Y hY;refine⟨Unit,fun _=>⟨[(0,At0 g),(2,At0 r),(3,At0 (r+1))],[]⟩,fun _ X=>Good (nd3 x) X,?_,?_⟩
 ·obtain⟨hc,hGY,hgY⟩:=good _ Y hY;refine cmo (zep 4 hc hop hGY) ?_;rintro e _ ⟨rfl,rfl⟩;refine biE (fun hh=>?_) fun hh=>?_
  ·have hh:jB x.op 4=true:=hh;have e:nd3 x={ nd2 x with ar:=x.ar,an:=x.an }:=by unfold nd3;rw [hh,Uy,Gp rfl]
   exact⟨[.bool x.ar,u8 x.an],rfl,zF (n:=3) (m:=2) hc,hgY,jV k39 hY.2.2 (o:=3) (v := .agg #[.bool x.ar,u8 x.an]) rfl (by show 3+2<=10;omega) rfl fun Z fZ gZ sZ=>⟨(),(cvE rfl rfl),turn _ _ Y Z hY gZ (by rw [e];exact fZ)⟩⟩
  ·have hh:jB x.op 4=false:=hh;have e:nd3 x=nd2 x:=by unfold nd3;rw [hh,Uj,Gn (by decide)];rfl
   exact⟨(),(cvE rfl rfl),by rw [e];exact hY⟩
 clear hY Y;rintro _ Y hY;refine⟨Unit,fun _=>⟨[(0,At0 g),(2,At0 r),(3,At0 (r+1))],[]⟩,fun _ X=>Good (nd4 x) X,?_,?_⟩
 ·obtain⟨hc,hGY,hgY⟩:=good _ Y hY;refine cmo (zep 8 hc hop hGY) ?_;rintro e _ ⟨rfl,rfl⟩;refine biE (fun hh=>?_) fun hh=>?_
  ·have hh:jB x.op 8=true:=hh;have e:nd4 x={ nd3 x with br:=x.br,bn:=x.bn }:=by unfold nd4;rw [hh,Uy,Gp rfl]
   exact⟨[.bool x.br,u8 x.bn],rfl,zF (n:=5) (m:=2) hc,hgY,jV k39 hY.2.2 (o:=5) (v := .agg #[.bool x.br,u8 x.bn]) rfl (by show 5+2<=10;omega) rfl fun Z fZ gZ sZ=>⟨(),(cvE rfl rfl),turn _ _ Y Z hY gZ (by rw [e];exact fZ)⟩⟩
  ·have hh:jB x.op 8=false:=hh;have e:nd4 x=nd3 x:=by unfold nd4;rw [hh,Uj,Gn (by decide)];rfl
   exact⟨(),(cvE rfl rfl),by rw [e];exact hY⟩
 clear hY Y;rintro _ Y hY;refine⟨Unit,fun _=>⟨[(0,At0 g),(2,At0 r),(3,At0 (r+1))],[]⟩,fun _ X=>Good (nd5 x) X,?_,?_⟩
 ·obtain⟨hc,hGY,hgY⟩:=good _ Y hY;refine cmo (zep 16 hc hop hGY) ?_;rintro e _ ⟨rfl,rfl⟩;refine biE (fun hh=>?_) fun hh=>?_
  ·have hh:jB x.op 16=true:=hh;have e:nd5 x={ nd4 x with fn:=x.fn }:=by unfold nd5;rw [Gp hh]
   exact⟨_,zb hc (i:=7) rfl,qQ k5 rfl (hY.2.2) (o:=7) (by show 7<10;omega) (v:=u8 x.fn) rfl rfl fun Z fZ gZ sZ=>⟨(),(cvE rfl rfl),turn _ _ Y Z hY gZ (by rw [e];exact fZ)⟩⟩
  ·have hh:jB x.op 16=false:=hh;have e:nd5 x=nd4 x:=by unfold nd5;rw [Gn (by rw [hh];decide)];rfl
   exact⟨(),(cvE rfl rfl),by rw [e];exact hY⟩
 clear hY Y;rintro _ Y hY;refine⟨Unit,fun _=>⟨[(0,At0 g),(2,At0 r),(3,At0 (r+1))],[]⟩,fun _ X=>Good (nd6 x) X,?_,?_⟩
 ·obtain⟨hc,hGY,hgY⟩:=good _ Y hY;refine cmo (zep 32 hc hop hGY) ?_;rintro e _ ⟨rfl,rfl⟩;refine biE (fun hh=>?_) fun hh=>?_
  ·have hh:jB x.op 32=true:=hh;have e:nd6 x={ nd5 x with mode:=x.mode }:=by unfold nd6;rw [Gp hh]
   exact⟨_,zb hc (i:=8) rfl,qQ k5 rfl (hY.2.2) (o:=8) (by show 8<10;omega) (v:=u8 x.mode) rfl rfl fun Z fZ gZ sZ=>⟨(),(cvE rfl rfl),turn _ _ Y Z hY gZ (by rw [e];exact fZ)⟩⟩
  ·have hh:jB x.op 32=false:=hh;have e:nd6 x=nd5 x:=by unfold nd6;rw [Gn (by rw [hh];decide)];rfl
   exact⟨(),(cvE rfl rfl),by rw [e];exact hY⟩
 clear hY Y;rintro _ Y hY;refine⟨Unit,fun _=>⟨[(0,At0 g),(2,At0 r),(3,At0 (r+1))],[]⟩,fun _ X=>Good (nd7 x) X,?_,?_⟩
 ·obtain⟨hc,hGY,hgY⟩:=good _ Y hY;refine cmo (zep 64 hc hop hGY) ?_;rintro e _ ⟨rfl,rfl⟩;refine biE (fun hh=>?_) fun hh=>?_
  ·have hh:jB x.op 64=true:=hh;have e:nd7 x={ nd6 x with skip:=x.skip }:=by unfold nd7;rw [Gp hh]
   exact⟨_,zb hc (i:=9) rfl,qQ k5 rfl (hY.2.2) (o:=9) (by show 9<10;omega) (v:=u8 x.skip) rfl rfl fun Z fZ gZ sZ=>⟨(),(cvE rfl rfl),turn _ _ Y Z hY gZ (by rw [e];exact fZ)⟩⟩
  ·have hh:jB x.op 64=false:=hh;have e:nd7 x=nd6 x:=by unfold nd7;rw [Gn (by rw [hh];decide)];rfl
   exact⟨(),(cvE rfl rfl),by rw [e];exact hY⟩
 clear hY Y;rintro _ Y hY;exact⟨_,rfl,za hY.2.2,hlt hY.2.2,zE (v := .agg (zG.enc (nd7 x)).toArray) k41 hY.2.1 rfl rfl rfl ⟨_,rfl,za (zx hY.2.1),rfl,zy hY.1 (by omega) _⟩⟩
end Go.Proofs.YtpalcnbhkigagaaGreatDoor
namespace Go.Vc
open Go.RowKit
def zV (cs:List Value) (o n:Nat):List Value:=(cs.drop o).take n
theorem zfc (cs:List Value) (o n m:Nat):zV cs o (n+m)=zV cs o n++zV cs (o+n) m:=by
 unfold zV;rw [List.take_add,Uk]
theorem zdm {cs:List Value} {o n:Nat} (h:o+n<=cs.length):(zV cs o n).length=n:=by
 unfold zV;rw [Qv,Qu];omega
def vOf (g:Bool) (a:List Value):Value:=match g with | true => .agg a.toArray | false=>a.headD undef
structure TyEq (P:Program) (T:TypeId) (g:Bool) (n k:Nat) (G:List Value->Prop):Prop where
 ag:∀ w,(isAgg T).run P w = .ok g w
 info:∃ i,P.info? T=some i
 cl:P.cellsOf T=n
 one:g=false->n=1
 eq:∀ d w a b,a.length=n->b.length=n->G a->G b->∃ r:Bool,(Op.equalIn (d+k) T (vOf g a) (vOf g b)).run P w = .ok r w/\(r=true↔a=b)
section
variable {P:Program}
theorem TyEq.up {T:TypeId} {g:Bool} {n k:Nat} {G:List Value->Prop} (h:TyEq P T g n k G) (m:Nat):TyEq P T g n (m+k) G :=
 ⟨h.ag,h.info,h.cl,h.one,fun d w a b h1 h2 h3 h4=>by have:=h.eq (d+m) w a b h1 h2 h3 h4;rwa [UD] at this⟩
theorem TyEq.part {T:TypeId} {g:Bool} {n k:Nat} {G:List Value->Prop} (h:TyEq P T g n k G) (xs:Array Value) (o:Nat) (hs:o+n<=xs.size) (w:Wd):(Go.part T xs o).run P w = .ok (vOf g (zV xs.toList o n)) w:=by
 obtain⟨i,hi⟩:=h.info;have hsz:=run_sizeOf w hi;rw [h.cl] at hsz;simp only [Go.part,UT,h.ag,Qb]
 cases g with
 | true =>
  simp only [Gm,UT,hsz,Qb,UU,vOf];congr 2;apply Qf.1;simp [zV,JT,List.extract_eq_take_drop]
 | false =>
  have h1:=h.one rfl;subst h1;have ho:o<xs.size:=by omega
  simp only [Ku,Gk,Jo ho,UU,vOf];congr 1;unfold zV;rw [Jq (by simpa using ho)];simp
inductive Tile (P:Program) (k:Nat):List Field->Nat->Nat->(List Value->Prop)->Prop
 | nil {s:Nat}:Tile P k [] s s (fun _=>True)
 | cons {f : Field} {fs : List Field} {s e n : Nat} {g : Bool} {G G' : List Value → Prop} (hn : f.name ≠ "_") (ho : f.offset = s) (ht : TyEq P f.type g n k G) (hr : Tile P k fs (s + n) e G') : Tile P k (f :: fs) s e (fun cs => G (cs.take n) ∧ G' (cs.drop n))
theorem Tile.le {k:Nat} {fs:List Field} {s e:Nat} {G:List Value->Prop} (h:Tile P k fs s e G):s<=e:=by
 induction h with
 | nil=>exact UW _
 | cons _ _ _ _ ih=>omega
theorem Tile.eq {k:Nat} {fs:List Field} {s e:Nat} {G:List Value->Prop} (h:Tile P k fs s e G):∀ (d:Nat) (xs ys:Array Value) (w:Wd),e<=xs.size->e<=ys.size->G (zV xs.toList s (e-s))->G (zV ys.toList s (e-s)) ->
  ∃ r:Bool,(Op.eqFields (d+k) xs ys fs).run P w = .ok r w/\(r=true↔zV xs.toList s (e-s)=zV ys.toList s (e-s)):=by
 induction h with
 | nil=>intro d xs ys w _ _ _ _;exact⟨true,rfl,by simp [zV]⟩
 | @cons f fs s e n g G G' hn ho ht hr ih =>
  intro d xs ys w hx hy hgx hgy;have hle:=hr.le;have e1:e-s=n+(e-(s+n)):=by omega
  rw [e1,zfc] at hgx hgy;rw [e1,zfc,zfc];have lx:(zV xs.toList s n).length=n:=zdm (by simp;omega);have ly:(zV ys.toList s n).length=n:=zdm (by simp;omega);obtain⟨gx1,gx2⟩:=hgx;obtain⟨gy1,gy2⟩:=hgy;rw [Jh (by omega),JH (by omega)] at gx1 gy1;rw [Jf (by omega),JC (by omega),QU] at gx2 gy2;obtain⟨r1,h1,h2⟩:=ht.eq d w _ _ lx ly gx1 gy1;obtain⟨r2,h3,h4⟩:=ih d xs ys w hx hy gx2 gy2;simp only [Op.eqFields,hn,ne_eq,not_false_eq_true,Gm,UT,ho,ht.part xs s (by omega) w,ht.part ys s (by omega) w,Qb,h1];have hap:(zV xs.toList s n++zV xs.toList (s+n) (e-(s+n))=zV ys.toList s n++zV ys.toList (s+n) (e-(s+n)))↔(zV xs.toList s n=zV ys.toList s n/\zV xs.toList (s+n) (e-(s+n))=zV ys.toList (s+n) (e-(s+n))) :=
   ⟨fun h=>List.append_inj h (by rw [lx,ly]),fun h=>by rw [h.1,h.2]⟩
  rw [hap,<- h2,<- h4]
  cases r1 with
  | true=>exact⟨r2,by simpa using h3,by simp⟩
  | false=>exact⟨false,by simp,by simp⟩
theorem TyEq.struct {T:TypeId} {k n:Nat} {G:List Value->Prop} (hu:P.underlying T=some (.struct (P.fieldsOf T))) (hp:P.stoodInHeld T=false) (hag:∀ w,(isAgg T).run P w = .ok true w) (hi:∃ i,P.info? T=some i) (hc:P.cellsOf T=n)
  (ht:Tile P k (P.fieldsOf T).toList 0 n G):TyEq P T true n (k+1) G :=
 ⟨hag,hi,hc,fun h=>(by cases h),fun d w a b ha hb ga gb=>by
  have e:∀ l:List Value,l.length=n->zV l.toArray.toList 0 (n-0)=l:=fun l hl=>by
   unfold zV;rw [Um,UP];exact JH (by show l.length<=n;omega)
  obtain⟨r,h1,h2⟩:=ht.eq d a.toArray b.toArray w (by simp;omega) (by simp;omega) (by rw [e a ha];exact ga) (by rw [e b hb];exact gb);rw [e a ha,e b hb] at h2;refine⟨r,?_,h2⟩;have:=run_equalIn_struct (P:=P) w (d+k) T a.toArray b.toArray hu hp;rw [<- UD];exact this.trans h1⟩
theorem zm9 {n m:Nat} (hn:0<n) {a b:List Value} (ha:a.length=m*n) (hb:b.length=m*n) (h:∀ i,i<m->zV a (i*n) n=zV b (i*n) n):a=b:=by
 apply KR;intro j;by_cases hj:j<m*n
 ·have hd:j/n<m:=Nat.div_lt_of_lt_mul (by rw [UN];exact hj);have h1:=Gj (fun l=>l[j%n]?) (h _ hd);simp only [zV,Ky,Gp (Gf j hn),Kx] at h1;rw [UN,QZ] at h1;exact h1
 ·rw [JK (by omega),JK (by omega)]
theorem TyEq.array {T e:TypeId} {g:Bool} {n k m:Nat} {G:List Value->Prop} (hn:0<n) (hu:P.underlying T=some (.array m e)) (hag:∀ w,(isAgg T).run P w = .ok true w) (hi:∃ i,P.info? T=some i) (hc:P.cellsOf T=m*n) (ht:TyEq P e g n k G) :
  TyEq P T true (m*n) (k+1) (fun cs=>∀ i,i<m->G (zV cs (i*n) n)) :=
 ⟨hag,hi,hc,fun h=>(by cases h),fun d w a b ha hb ga gb=>by
  obtain⟨ie,hie⟩:=ht.info;have key:∀ is:List Nat,(∀ i∈is,i<m)->∃ r:Bool,(Op.eqItems (d+k) e n a.toArray b.toArray is).run P w = .ok r w/\(r=true↔∀ i∈is,zV a (i*n) n=zV b (i*n) n):=by
   intro is
   induction is with
   | nil=>intro _;exact⟨true,rfl,by simp⟩
   | cons i is ih =>
    intro him;have hi:=him i KA;have hle:i*n+n<=m*n:=(by rw [<- UQ];exact Kd _ hi);obtain⟨r2,h3,h4⟩:=ih fun j hj=>him j (JY _ hj);obtain⟨r1,h1,h2⟩:=ht.eq d w (zV a (i*n) n) (zV b (i*n) n) (zdm (by omega)) (zdm (by omega)) (ga i hi) (gb i hi);have p1:=ht.part a.toArray (i*n) (by simp;omega) w;have p2:=ht.part b.toArray (i*n) (by simp;omega) w;have ea:a.toArray.toList=a:=rfl;have eb:b.toArray.toList=b:=rfl;rw [ea] at p1;rw [eb] at p2;simp only [Op.eqItems,UT,p1,p2,Qb,h1]
    cases r1 with
    | true =>
     refine⟨r2,by simpa using h3,?_⟩;rw [h4];have:=h2.1 rfl;simp [this]
    | false =>
     refine⟨false,by simp,?_⟩;simp only [Ku,false_iff];intro h;have:=h2.2 (h i KA)
     cases this
  obtain⟨r,h1,h2⟩:=key (List.range m) fun i hi=>Uo.1 hi;refine⟨r,?_,?_⟩
  ·have:=run_equalIn_array (P:=P) w (d+k) a.toArray b.toArray hu hie;rw [ht.cl] at this;rw [<- UD];exact this.trans h1
  ·rw [h2];exact⟨fun h=>zm9 hn ha hb fun i hi=>h i (Uo.2 hi),fun h i _=>by rw [h]⟩⟩
theorem TyEq.int {T:TypeId} {q:IntKind} (hu:P.underlying T=some (.int q)) (hag:∀ w,(isAgg T).run P w = .ok false w) (hi:∃ i,P.info? T=some i) (hc:P.cellsOf T=1):TyEq P T false 1 1 (fun cs=>∃ x,cs=[.int q x]) :=
 ⟨hag,hi,hc,fun _=>rfl,fun d w a b _ _ ⟨x,hx⟩ ⟨y,hy⟩=>by
  subst hx hy;refine⟨decide (x=y),?_,by simp⟩;simp only [vOf,List.headD_cons,Op.equalIn,UT,Ut hu,Qb,Gm,UU];congr 1⟩
theorem TyEq.bool {T:TypeId} (hu:P.underlying T=some .bool) (hag:∀ w,(isAgg T).run P w = .ok false w) (hi:∃ i,P.info? T=some i) (hc:P.cellsOf T=1):TyEq P T false 1 1 (fun cs=>∃ x,cs=[.bool x]) :=
 ⟨hag,hi,hc,fun _=>rfl,fun d w a b _ _ ⟨x,hx⟩ ⟨y,hy⟩=>by
  subst hx hy;refine⟨x == y,?_,by simp⟩;simp only [vOf,List.headD_cons,Op.equalIn,UT,Ut hu,Qb,UU]⟩
end
end Go.Vc
namespace Go.Proofs.YtpalcnbhkigagaaGreatDoor
open Go.Vc Go.RowKit Go.Sei
def zqM (q:IntKind) (cs:List Value):Prop:=∃ x,cs=[.int q x]
def zsL (cs:List Value):Prop:=∃ x,cs=[.bool x]
theorem tU8:TyEq PG 5 false 1 1 (zqM .u8) := .int Tryz.underlying5 (fun w=>Tryz.isAgg5 w) (qC (by kernel_rfl) (by kernel_rfl)).1 (by kernel_rfl)
theorem zsp:TyEq PG 4 false 1 1 zsL := .bool Tryz.underlying4 (fun w=>Tryz.isAgg4 w) (qC (by kernel_rfl) (by kernel_rfl)).1 (by kernel_rfl)
theorem uf {T:TypeId} {F:Array Field} (h:Tryz.prog.underlying T=some (.struct F)):Tryz.prog.underlying T=some (.struct (Tryz.prog.fieldsOf T))/\Tryz.prog.fieldsOf T=F:=by
 have:Tryz.prog.fieldsOf T=F:=by unfold Program.fieldsOf;rw [h]
 exact⟨by rw [this];exact h,this⟩
open Classical in
noncomputable def cdec (p:Prop):Bool:=decide p
theorem zqw {p:Prop} [h:Decidable p]:cdec p=decide p:=by unfold cdec;congr
theorem zbA {p q:Prop} [Decidable q] (h:p↔q):cdec p=decide q:=by
 have:p=q:=propext h;subst this;exact zqw
section
variable {T:TypeId} {n k:Nat} {G:List Value->Prop} (h:TyEq PG T true n k G) (d:Nat) (hd:d+k=10000) (hg:Tryz.prog.eqGuardType Tryz.prog.depth T=false) {a b:List Value} (ha:a.length=n) (hb:b.length=n) (ga:G a) (gb:G b)
include h hd hg ha hb ga gb
omit hg in
theorem equal_ty (w:Wd):(Op.equal T (.agg a.toArray) (.agg b.toArray)).run PG w = .ok (cdec (a=b)) w:=by
 obtain⟨r,h1,h2⟩:=h.eq d w a b ha hb ga gb;have e:r=cdec (a=b):=by
  unfold cdec
  cases r with
  | true=>simp [h2.1 rfl]
  | false =>
   have:¬ a=b:=fun e=>by have:=h2.2 e;cases this
   simp [this]
 rw [hd] at h1;rw [<- e];exact h1
theorem zrw (x y:Operand) (w:Wd):(do eqGuard .neq T x y (.agg a.toArray) (.agg b.toArray);binOp .neq T (.agg a.toArray) (.agg b.toArray)).run PG w = .ok (.bool (!cdec (a=b))) w:=by
 have he:=equal_ty h d hd ha hb ga gb w;have h1:(eqGuard .neq T x y (.agg a.toArray) (.agg b.toArray)).run PG w = .ok () w:=by
  simp only [eqGuard,Uw,Ku,Gk,UT,run_program,Qb,hg,Bool.not_false,Gm,UU]
 rw [UT,h1];simp only [Qb,binOp,UT,he,UU]
theorem ze5 (x y:Operand) (w:Wd):(do eqGuard .eql T x y (.agg a.toArray) (.agg b.toArray);binOp .eql T (.agg a.toArray) (.agg b.toArray)).run PG w = .ok (.bool (cdec (a=b))) w:=by
 have he:=equal_ty h d hd ha hb ga gb w;have h1:(eqGuard .eql T x y (.agg a.toArray) (.agg b.toArray)).run PG w = .ok () w:=by
  simp only [eqGuard,Uw,Ku,Gk,UT,run_program,Qb,hg,Bool.not_false,Gm,UU]
 rw [UT,h1];simp only [Qb,binOp,UT,he,UU]
end
theorem zsS:∃ G,TyEq PG 39 true 2 2 G/\∀ r n,G [.bool r,u8 n]:=by
 refine⟨_,.struct (uf Tryz.underlying39).1 (by kernel_rfl) (fun w=>Tryz.isAgg39 w) (qC (by kernel_rfl) (by kernel_rfl)).1 (by kernel_rfl)
  (by rw [(uf Tryz.underlying39).2];exact .cons (by decide) rfl zsp (.cons (by decide) rfl tU8 .nil)),fun r n=>?_⟩
 exact⟨⟨_,rfl⟩,⟨_,rfl⟩,trivial⟩
theorem zsR:∃ G,TyEq PG 41 true 10 3 G/\∀ x,G (zG.enc x):=by
 obtain⟨G,h1,h2⟩:=zsS;refine⟨_,.struct (uf Tryz.underlying41).1 (by kernel_rfl) (fun w=>Tryz.isAgg41 w) (qC (by kernel_rfl) (by kernel_rfl)).1 (by kernel_rfl)
  (by rw [(uf Tryz.underlying41).2];exact .cons (by decide) rfl (tU8.up 1) (.cons (by decide) rfl (tU8.up 1) (.cons (by decide) rfl (tU8.up 1) (.cons (by decide) rfl h1 (.cons (by decide) rfl h1 (.cons (by decide) rfl (tU8.up 1) (.cons (by decide) rfl (tU8.up 1) (.cons (by decide) rfl (tU8.up 1) .nil)))))))),fun x=>?_⟩
 exact⟨⟨_,rfl⟩,⟨_,rfl⟩,⟨_,rfl⟩,h2 _ _,h2 _ _,⟨_,rfl⟩,⟨_,rfl⟩,⟨_,rfl⟩,trivial⟩
theorem zbD {a b:UInt8} (h:u8 a=u8 b):a=b:=by
 unfold u8 at h;simp only [Value.int.injEq,true_and] at h;exact jj.1 h
theorem zpZ {a b:InsD}:zG.enc a=zG.enc b↔a=b:=by
 constructor
 ·intro h;obtain⟨a0,a1,a2,a3,a4,a5,a6,a7,a8,a9⟩:=a;obtain⟨b0,b1,b2,b3,b4,b5,b6,b7,b8,b9⟩:=b;simp only [zG,QL,Gi,Value.bool.injEq] at h;obtain⟨h0,h1,h2,rfl,h4,rfl,h6,h7,h8,h9⟩:=h;rw [zbD h0,zbD h1,zbD h2,zbD h4,zbD h6,zbD h7,zbD h8,zbD h9]
 ·exact fun h=>by rw [h]
theorem zqf (x y:Operand) (a b:InsD) (w:Wd):(do eqGuard .eql 41 x y (.agg (zG.enc a).toArray) (.agg (zG.enc b).toArray);binOp .eql 41 (.agg (zG.enc a).toArray) (.agg (zG.enc b).toArray)).run PG w = .ok (.bool (decide (a=b))) w:=by
 obtain⟨G,h,hG⟩:=zsR;rw [ze5 h 9997 rfl (by kernel_rfl) rfl rfl (hG a) (hG b) x y w,zbA zpZ]
structure SpV (X:Wd) (g bx:Nat) (x:InsD) (locs after:Nat):Prop where
 c:X.heap[g]?=some (.cells (spC x locs after).toArray 178 (0,0))
 b:X.heap[bx]?=some (.cells #[At0 g] 209 (0,0))
 G:GlobC X
theorem SpV.below {X Y:Wd} {g bx locs after:Nat} {x:InsD} (h:SpV X g bx x locs after) (hb:Bw X Y):SpV Y g bx x locs after:=⟨zc hb h.c,zc hb h.b,h.G.below hb⟩
theorem SpV.cells {X:Wd} {g bx locs after:Nat} {x:InsD} (h:SpV X g bx x locs after):zu X ⟨g,0,none⟩ (spC x locs after):=za h.c
section
variable {g bx locs after:Nat} {x:InsD} {w:Wd}
theorem zqt (h:SpV w g bx x locs after):CB 122 #[At0 bx] w (.bool (decide (1<=x.op.toNat)&&decide (x.op.toNat<=8))):=by
 refine zI 16 [At0 bx] Tryz.func122 ?_;refine⟨_,zb (za h.b) (i:=0) rfl,_,zb h.cells (i:=0) rfl,biE (fun h1=>?_) fun h1=>?_⟩
 ·have h1:(1:Int)<=x.op.toNat:=dT h1;refine⟨_,zb (za h.b) (i:=0) rfl,_,zb h.cells (i:=0) rfl,rb ?_,Gb _ _⟩;rw [Us (p:=1<=x.op.toNat) (by omega),Uy,QG];show (x.op.toNat:Int)<=8↔_;omega
 ·have h1:¬ (1:Int)<=x.op.toNat:=dF h1;refine⟨rb ?_,Gb _ _⟩;rw [Uh (p:=1<=x.op.toNat) (by omega)];rfl
theorem zqs (h:SpV w g bx x locs after) (hop:x.op.toNat<=8):CB 123 #[At0 bx] w (.bool (decide (x=zfJ x))):=by
 refine zI 9 [At0 bx] Tryz.func123 ?_;have hd:SpV w.drew g bx x locs after:=h.below (Gb _ w).drew;refine DrawE.ord [] [0,1,2,3,4,5,6,7] (by kernel_rfl) ⟨_,zb (za hd.b) (i:=0) rfl,zG.enc x,rfl,zF (n:=0) (m:=10) hd.cells,hlt hd.c,_,zb (za hd.b) (i:=0) rfl,cmo (zof hd.cells (hlt hd.c) hop hd.G) ?_⟩;rintro e V ⟨rfl,hb⟩;exact⟨hb,_,fun w=>zqf _ _ x (zfJ x) w,rfl,(Gb _ w).drew.trans hb⟩
theorem zqr (h:SpV w g bx x locs after):CB 125 #[At0 bx] w (.bool (decide (x.dst.toNat<8))):=by
 refine zI 8 [At0 bx] Tryz.func125 ?_;refine⟨_,zb (za h.b) (i:=0) rfl,_,zb h.cells (i:=1) rfl,rb ?_,Gb _ _⟩;show decide ((x.dst.toNat:Int)<8)=_;rw [QG];omega
theorem zqq (h:SpV w g bx x locs after) (hop:x.op.toNat<=8):CB 126 #[At0 bx] w (.bool (!jB x.op 2||decide (x.loc.toNat<locs))):=by
 refine zI 18 [At0 bx] Tryz.func126 ?_;have hd:SpV w.drew g bx x locs after:=h.below (Gb _ w).drew;refine DrawE.ord [] [0,1,2,3,4,5,6,7,8,9,10,11,12,13,14,15,16] (by kernel_rfl) ⟨_,zb (za hd.b) (i:=0) rfl,cmo (zep 2 hd.cells hop hd.G) ?_⟩;rintro e _ ⟨rfl,rfl⟩;refine⟨Gb _ _,biE (fun h1=>?_) fun h1=>?_⟩
 ·have h1:(!jB x.op 2)=true:=h1;exact⟨rb (by rw [h1];rfl),(Gb _ w).drew⟩
 ·have h1:(!jB x.op 2)=false:=h1;refine⟨_,zb (za hd.b) (i:=0) rfl,_,zb hd.cells (i:=2) rfl,_,qG _,_,zb (za hd.b) (i:=0) rfl,_,zb hd.cells (i:=10) rfl,rb ?_,(Gb _ w).drew⟩;rw [h1,Uv,QG];omega
theorem zqp (h:SpV w g bx x locs after):CB 128 #[At0 bx] w (.bool (ziY x.ar x.an&&ziY x.br x.bn)):=by
 refine zI 16 [At0 bx] Tryz.func128 ?_;refine⟨_,zb (za h.b) (i:=0) rfl,[.bool x.ar,u8 x.an],rfl,zF (n:=3) (m:=2) h.cells,hlt h.c,cmo (zgZ x.ar x.an w) ?_⟩;rintro e V ⟨rfl,hb⟩;have hV:=h.below hb;refine biE (fun h1=>?_) fun h1=>?_
 ·have h1:ziY x.ar x.an=true:=h1;refine⟨_,zb (za hV.b) (i:=0) rfl,[.bool x.br,u8 x.bn],rfl,zF (n:=5) (m:=2) hV.cells,hlt hV.c,cmo (zgZ x.br x.bn V) ?_⟩;rintro e U ⟨rfl,hb2⟩;exact⟨rb (by rw [h1,Uy]),(zst hb hb2)⟩
 ·have h1:ziY x.ar x.an=false:=h1;exact⟨rb (by rw [h1,Uj]),hb⟩
theorem zqo (h:SpV w g bx x locs after) (hop:x.op.toNat<=8):CB 132 #[At0 bx] w (.bool (!jB x.op 64||(decide (1<=x.skip.toNat)&&decide (x.skip.toNat<=after)))):=by
 refine zI 26 [At0 bx] Tryz.func132 ?_;have hd:SpV w.drew g bx x locs after:=h.below (Gb _ w).drew;refine DrawE.ord [] [0,1,2,3,4,5,6,7,8,9,10,11,12,13,14,15,16,17,18,19,20,21,22,23,24] (by kernel_rfl) ⟨_,zb (za hd.b) (i:=0) rfl,cmo (zep 64 hd.cells hop hd.G) ?_⟩;rintro e _ ⟨rfl,rfl⟩;refine⟨Gb _ _,biE (fun h1=>?_) fun h1=>?_⟩
 ·have h1:(!jB x.op 64)=true:=h1;exact⟨rb (by rw [h1];rfl),(Gb _ w).drew⟩
 ·have h1:(!jB x.op 64)=false:=h1;rw [h1,Uv];refine⟨_,zb (za hd.b) (i:=0) rfl,_,zb hd.cells (i:=9) rfl,biE (fun h2=>?_) fun h2=>?_⟩
  ·have h2:(1:Int)<=x.skip.toNat:=dT h2;refine⟨_,zb (za hd.b) (i:=0) rfl,_,zb hd.cells (i:=9) rfl,_,qG _,_,zb (za hd.b) (i:=0) rfl,_,zb hd.cells (i:=11) rfl,rb ?_,(Gb _ w).drew⟩;rw [Us (p:=1<=x.skip.toNat) (by omega),Uy,QG];omega
  ·have h2:¬ (1:Int)<=x.skip.toNat:=dF h2;refine⟨rb ?_,(Gb _ w).drew⟩;rw [Uh (p:=1<=x.skip.toNat) (by omega)];rfl
end
def ziP (g bx:Nat):List Value:=[.func (.func 122) #[] #[At0 bx],.func (.func 123) #[] #[At0 bx],.func (.func 125) #[] #[At0 bx],
 .func (.func 126) #[] #[At0 bx],.func (.func 128) #[] #[At0 bx],.func (.func 130) #[At0 g] #[],.func (.func 131) #[At0 g] #[],
 .func (.func 132) #[] #[At0 bx]]
theorem zqn {g:Nat} {w:Wd}:Calls PG 91 #[At0 g] w fun e w'=>e = .returned (.slice (some ⟨w.heap.size+1,0,none⟩) 8 8) /\
  w'.heap[w.heap.size]?=some (.cells #[At0 g] 209 (0,0))/\w'.heap[w.heap.size+1]?=some (.cells (ziP g w.heap.size).toArray 33 (0,0))/\w'.heap.size=w.heap.size+2/\Bw w w':=by
 refine zI 14 [At0 g] Tryz.func91 ?_;obtain⟨W,hW⟩:=nm (w.alloc (.cells #[At0 g] 209));have hb:W.heap[w.heap.size]?=some (.cells #[At0 g] 209 (0,0)):=by rw [hW];exact zz w _
 have hs:W.heap.size=w.heap.size+1:=by rw [hW,wz]
 have hbb:Bw w W:=by rw [hW];exact (zba w _)
 refine⟨_,zb (za (zz w _)) (i:=0) rfl,_,zb (za (zz w _)) (i:=0) rfl,⟨by decide,by decide,rfl⟩,ziP g w.heap.size,rfl,?_⟩;have hs1:=wz w (.cells #[At0 g] 209);refine⟨?_,?_,?_,?_,?_⟩
 ·show Ending.returned (.slice (some ⟨(w.alloc (.cells #[At0 g] 209)).heap.size,0,none⟩) 8 8)=_;rw [hs1]
 ·exact qF _ (zz w _)
 ·rw [<- hs1];exact zz _ _
 ·rw [wz,wz]
 ·exact ((zba w _)).alloc (by simp) _
structure ThI (X:Wd) (L:Nat) (x:InsD) (locs after:Nat):Prop where
 c:X.heap[L]?=some (.cells (spC x locs after).toArray 178 (0,0))
 b:X.heap[L+1]?=some (.cells #[At0 L] 209 (0,0))
 s:X.heap[L+2]?=some (.cells (ziP L (L+1)).toArray 33 (0,0))
theorem ThI.below {X Y:Wd} {L:Nat} {x:InsD} {locs after:Nat} (h:ThI X L x locs after) (hb:Bw X Y):ThI Y L x locs after:=⟨zc hb h.c,zc hb h.b,zc hb h.s⟩
def zp0:InsD:=⟨0,0,0,false,0,false,0,0,0,0⟩
theorem zkk {l:List Bool}:∀ {n:Nat},(∀ j,j<n->l[j]?=some true)->n=l.length->l.all id=true:=by
 intro n h e;rw [Qk];intro b hb;obtain⟨j,hj,rfl⟩:=Kj hb;have:=h j (by omega);rw [gE hj] at this;exact Uf this
theorem zpf {l:List Bool} {j:Nat} (h:l[j]?=some false):l.all id=false:=by
 rw [KN];obtain⟨hj,e⟩:=Js.1 h;exact⟨l[j],gM _,by rw [e];decide⟩
theorem zcW {l:List InsD} {k locs:Nat} (hkl:k<l.length) {i:Nat} (h:(qI l[k] locs (l.length-1-k))[i]?=some false) {w X:Wd} (hb:Bw w X) :
  Ending.returned (.bool false) = .returned (.bool (qa l locs))/\Bw w X:=by
 refine⟨rb ?_,hb⟩;symm;unfold qa;rw [Bool.and_eq_false_iff];refine .inr ?_;rw [KN];refine⟨k,Uo.2 hkl,?_⟩;rw [gE hkl];show ¬ zha l[k] locs (l.length-1-k)=true;unfold zha;rw [zpf h];simp
theorem zkl {p:OA} {cap locs:Nat} {l:List InsD} {w:Wd} (hl:SlR zG w p l) (hG:GlobC w) (hn:l.length<=140737488351232) :
  CB 67 #[.slice p l.length cap,i64 locs] w (.bool (qa l locs)):=by
 refine zI 43 [.slice p l.length cap,i64 locs] Tryz.func67 ?_;obtain⟨L,hL⟩:=nm (w.heap.size);refine biE (fun h=>?_) fun h=>?_
 ·have h:(12:Int)<l.length:=dT h;exact⟨rb (by unfold qa;rw [Uh (by omega)];rfl),Gb _ _⟩
 have h12:¬ (12:Int)<l.length:=dF h;refine⟨spC zp0 locs 0,rfl,zn (X:=w) (v := .agg (spC zp0 locs 0).toArray) zsY rfl rfl rfl fun V hbV fV sV=>cmo zqn ?_⟩;rintro e W0 ⟨rfl,hbx,hsl,hsz,hb0⟩;rw [sV,<- hL] at hsz hbx hsl;have hI0:ThI W0 L zp0 locs 0:=⟨hL▸zc hb0 fV,hbx,hsl⟩;have hbw:Bw w W0:=zst hbV hb0;have p1:some (Value.pointer (some ⟨w.heap.size,0,none⟩))=some (At0 L):=by rw [hL]
 have p2:some (Value.slice (some ⟨V.heap.size+1,0,none⟩) 8 8)=some (Value.slice (some ⟨L+2,0,none⟩) 8 8):=by rw [sV,hL]
 clear hbx hsl fV sV hb0 hbV;refine⟨Nat,fun k=>⟨[(0,.slice p l.length cap),(1,i64 locs),(5,At0 L),(6,.slice (some ⟨L+2,0,none⟩) 8 8),(17,.slice p l.length cap),(18,i64 l.length),(19,i64 (k:Nat))],[]⟩,
  fun k X=>k<=l.length/\(∀ i,i<k->∀ x,l[i]?=some x->zha x locs (l.length-1-i)=true)/\(∃ x aft,ThI X L x locs aft)/\Bw w X,fun k=>l.length-k,0,
  ⟨.cons rfl (.cons rfl (.cons p1 (.cons p2 (.cons rfl (.cons rfl (.cons rfl .nil)))))),rfl⟩,⟨UZ _,fun i hi=>by omega,⟨zp0,0,hI0⟩,hbw⟩,?_⟩
 rintro k X ⟨hk,hdone,⟨x0,a0,hI⟩,hbX⟩;dsimp only at hk hdone ⊢;refine biE (fun hc=>?_) fun hc=>?_
 ·have hc:(k:Int)<(l.length:Int):=dT hc;have hkl:k<l.length:=by omega
  obtain⟨b,o,rfl,hbl,hat⟩:=hl.at hkl;refine⟨k,rfl,hkl,?_⟩;have hx:=hat k hkl;refine⟨zG.enc l[k],rfl,jL hbX hbl hx,nL hbl hbX.size,zn (X:=X) (v := .agg (zG.enc l[k]).toArray) k41 rfl rfl rfl fun Y hbY fY sY=>⟨zG.enc l[k],rfl,za fY,hlt fY,((l.length-1:Nat):Int),(ze (by omega)).trans (by omega),((l.length-1-k:Nat):Int),(ze (by omega)).trans (by omega),?_⟩⟩;have hY:=hI.below hbY;refine jV k41 hY.c (o:=0) (v := .agg (zG.enc l[k]).toArray) rfl (by show 0+10<=12;omega) rfl fun Z fZ gZ sZ=>jV k3 fZ (o:=11) (v:=i64 (l.length-1-k:Nat)) rfl (by show 11+1<=12;omega) rfl fun U fU gU sU=>?_;have hIU:ThI U L l[k] locs (l.length-1-k):=⟨fU,(gU.block _ (by have:=hlt hY.b;omega) (by simp)).trans ((gZ.block _ (hlt hY.b) (by simp)).trans hY.b),(gU.block _ (by have:=hlt hY.s;omega) (by simp)).trans ((gZ.block _ (hlt hY.s) (by simp)).trans hY.s)⟩;have hbU:Bw w U:=by
   have h1:Bw w Y:=zst hbX hbY;have h2:∀ (A B:Wd),Bw w A->A.grownBy B (some L)->Bw w B:=fun A B ha hg=>ha.trans ⟨hg.os,hg.tape,hg.output,hg.size,fun j hj=>hg.block j (nL hj ha.size) (by simp;omega)⟩;exact h2 _ _ (h2 _ _ h1 gZ) gU
  refine⟨Nat,fun j=>⟨[(0,.slice (some ⟨b,o,none⟩) l.length cap),(1,i64 locs),(5,At0 L),(6,.slice (some ⟨L+2,0,none⟩) 8 8),(17,.slice (some ⟨b,o,none⟩) l.length cap),(18,i64 l.length),(19,i64 (k:Nat)),(32,.slice (some ⟨L+2,0,none⟩) 8 8),(33,i64 8),(34,i64 (j:Nat))],[]⟩,
   fun j X=>j<=8/\(∀ i,i<j->(qI l[k] locs (l.length-1-k))[i]?=some true)/\ThI X L l[k] locs (l.length-1-k)/\Bw w X,fun j=>8-j,0,
   (cvE rfl rfl),⟨UZ _,fun i hi=>by omega,hIU,hbU⟩,?_⟩
  clear hIU hbU;rintro j X2 ⟨hj,hpre,hI2,hb2⟩;dsimp only at hj hpre ⊢;have hG2:GlobC X2:=hG.below hb2;have hS:SpV X2 L (L+1) l[k] locs (l.length-1-k):=⟨hI2.c,hI2.b,hG2⟩;refine biE (fun hc2=>?_) fun hc2=>?_
  ·have hc2:(j:Int)<8:=dT hc2;refine⟨j,rfl,(by omega),?_⟩;have ho:0<j->l[k].op.toNat<=8:=fun h0=>by
    have:=Uf (hpre 0 h0);rw [bAT] at this;exact dT this.2
   have hat2:∀ {v:Value},(ziP L (L+1))[j]?=some v->X2.cell? ⟨L+2,0+j*1,none⟩=some v:=fun hv=>by
    have:=zb (za hI2.s) (i:=j) (by simpa using hv);rw [UX];exact this
   have hcs:j=0\/j=1\/j=2\/j=3\/j=4\/j=5\/j=6\/j=7:=by omega
   rcases hcs with rfl | rfl | rfl | rfl | rfl | rfl | rfl | rfl
   ·refine⟨_,hat2 rfl,cmo (zqt hS) ?_⟩;rintro e W ⟨rfl,hbW⟩;have hI3:=hI2.below hbW;refine biE (fun hb=>?_) fun hb=>?_
    ·have hb:(!((qI l[k] locs (l.length-1-k))[0]'(by show 0<8;decide)))=true:=hb;have hb:(qI l[k] locs (l.length-1-k))[0]?=some false:=(by rw [gE (by show 0<8;decide)];exact Gj some (by rw [<- UG ((qI l[k] locs (l.length-1-k))[0]'(by show 0<8;decide)),hb];rfl));exact zcW hkl hb ((zst hb2 hbW))
    ·have hb:(!((qI l[k] locs (l.length-1-k))[0]'(by show 0<8;decide)))=false:=hb;have hb:(qI l[k] locs (l.length-1-k))[0]?=some true:=(by rw [gE (by show 0<8;decide)];exact Gj some (by rw [<- UG ((qI l[k] locs (l.length-1-k))[0]'(by show 0<8;decide)),hb];rfl));refine⟨_,(ze (by omega)).trans rfl,1,(cvE rfl rfl),⟨by omega,fun i hi=>?_,hI3,(zst hb2 hbW)⟩,by decide⟩;by_cases hik:i=0
     ·rw [hik];exact hb
     ·exact hpre i (by omega)
   ·refine⟨_,hat2 rfl,cmo (zqs hS (ho (by omega))) ?_⟩;rintro e W ⟨rfl,hbW⟩;have hI3:=hI2.below hbW;refine biE (fun hb=>?_) fun hb=>?_
    ·have hb:(!((qI l[k] locs (l.length-1-k))[1]'(by show 1<8;decide)))=true:=hb;have hb:(qI l[k] locs (l.length-1-k))[1]?=some false:=(by rw [gE (by show 1<8;decide)];exact Gj some (by rw [<- UG ((qI l[k] locs (l.length-1-k))[1]'(by show 1<8;decide)),hb];rfl));exact zcW hkl hb ((zst hb2 hbW))
    ·have hb:(!((qI l[k] locs (l.length-1-k))[1]'(by show 1<8;decide)))=false:=hb;have hb:(qI l[k] locs (l.length-1-k))[1]?=some true:=(by rw [gE (by show 1<8;decide)];exact Gj some (by rw [<- UG ((qI l[k] locs (l.length-1-k))[1]'(by show 1<8;decide)),hb];rfl));refine⟨_,(ze (by omega)).trans rfl,2,(cvE rfl rfl),⟨by omega,fun i hi=>?_,hI3,(zst hb2 hbW)⟩,by decide⟩;by_cases hik:i=1
     ·rw [hik];exact hb
     ·exact hpre i (by omega)
   ·refine⟨_,hat2 rfl,cmo (zqr hS) ?_⟩;rintro e W ⟨rfl,hbW⟩;have hI3:=hI2.below hbW;refine biE (fun hb=>?_) fun hb=>?_
    ·have hb:(!((qI l[k] locs (l.length-1-k))[2]'(by show 2<8;decide)))=true:=hb;have hb:(qI l[k] locs (l.length-1-k))[2]?=some false:=(by rw [gE (by show 2<8;decide)];exact Gj some (by rw [<- UG ((qI l[k] locs (l.length-1-k))[2]'(by show 2<8;decide)),hb];rfl));exact zcW hkl hb ((zst hb2 hbW))
    ·have hb:(!((qI l[k] locs (l.length-1-k))[2]'(by show 2<8;decide)))=false:=hb;have hb:(qI l[k] locs (l.length-1-k))[2]?=some true:=(by rw [gE (by show 2<8;decide)];exact Gj some (by rw [<- UG ((qI l[k] locs (l.length-1-k))[2]'(by show 2<8;decide)),hb];rfl));refine⟨_,(ze (by omega)).trans rfl,3,(cvE rfl rfl),⟨by omega,fun i hi=>?_,hI3,(zst hb2 hbW)⟩,by decide⟩;by_cases hik:i=2
     ·rw [hik];exact hb
     ·exact hpre i (by omega)
   ·refine⟨_,hat2 rfl,cmo (zqq hS (ho (by omega))) ?_⟩;rintro e W ⟨rfl,hbW⟩;have hI3:=hI2.below hbW;refine biE (fun hb=>?_) fun hb=>?_
    ·have hb:(!((qI l[k] locs (l.length-1-k))[3]'(by show 3<8;decide)))=true:=hb;have hb:(qI l[k] locs (l.length-1-k))[3]?=some false:=(by rw [gE (by show 3<8;decide)];exact Gj some (by rw [<- UG ((qI l[k] locs (l.length-1-k))[3]'(by show 3<8;decide)),hb];rfl));exact zcW hkl hb ((zst hb2 hbW))
    ·have hb:(!((qI l[k] locs (l.length-1-k))[3]'(by show 3<8;decide)))=false:=hb;have hb:(qI l[k] locs (l.length-1-k))[3]?=some true:=(by rw [gE (by show 3<8;decide)];exact Gj some (by rw [<- UG ((qI l[k] locs (l.length-1-k))[3]'(by show 3<8;decide)),hb];rfl));refine⟨_,(ze (by omega)).trans rfl,4,(cvE rfl rfl),⟨by omega,fun i hi=>?_,hI3,(zst hb2 hbW)⟩,by decide⟩;by_cases hik:i=3
     ·rw [hik];exact hb
     ·exact hpre i (by omega)
   ·refine⟨_,hat2 rfl,cmo (zqp hS) ?_⟩;rintro e W ⟨rfl,hbW⟩;have hI3:=hI2.below hbW;refine biE (fun hb=>?_) fun hb=>?_
    ·have hb:(!((qI l[k] locs (l.length-1-k))[4]'(by show 4<8;decide)))=true:=hb;have hb:(qI l[k] locs (l.length-1-k))[4]?=some false:=(by rw [gE (by show 4<8;decide)];exact Gj some (by rw [<- UG ((qI l[k] locs (l.length-1-k))[4]'(by show 4<8;decide)),hb];rfl));exact zcW hkl hb ((zst hb2 hbW))
    ·have hb:(!((qI l[k] locs (l.length-1-k))[4]'(by show 4<8;decide)))=false:=hb;have hb:(qI l[k] locs (l.length-1-k))[4]?=some true:=(by rw [gE (by show 4<8;decide)];exact Gj some (by rw [<- UG ((qI l[k] locs (l.length-1-k))[4]'(by show 4<8;decide)),hb];rfl));refine⟨_,(ze (by omega)).trans rfl,5,(cvE rfl rfl),⟨by omega,fun i hi=>?_,hI3,(zst hb2 hbW)⟩,by decide⟩;by_cases hik:i=4
     ·rw [hik];exact hb
     ·exact hpre i (by omega)
   ·refine⟨_,hat2 rfl,cmo (zjJ hS.cells) ?_⟩;rintro e _ ⟨rfl,rfl⟩;have hbW:Bw X2 X2:=Gb _ _;have hI3:=hI2;refine biE (fun hb=>?_) fun hb=>?_
    ·have hb:(!((qI l[k] locs (l.length-1-k))[5]'(by show 5<8;decide)))=true:=hb;have hb:(qI l[k] locs (l.length-1-k))[5]?=some false:=(by rw [gE (by show 5<8;decide)];exact Gj some (by rw [<- UG ((qI l[k] locs (l.length-1-k))[5]'(by show 5<8;decide)),hb];rfl));exact zcW hkl hb ((zst hb2 hbW))
    ·have hb:(!((qI l[k] locs (l.length-1-k))[5]'(by show 5<8;decide)))=false:=hb;have hb:(qI l[k] locs (l.length-1-k))[5]?=some true:=(by rw [gE (by show 5<8;decide)];exact Gj some (by rw [<- UG ((qI l[k] locs (l.length-1-k))[5]'(by show 5<8;decide)),hb];rfl));refine⟨_,(ze (by omega)).trans rfl,6,(cvE rfl rfl),⟨by omega,fun i hi=>?_,hI3,(zst hb2 hbW)⟩,by decide⟩;by_cases hik:i=5
     ·rw [hik];exact hb
     ·exact hpre i (by omega)
   ·refine⟨_,hat2 rfl,cmo (zm0 hS.cells) ?_⟩;rintro e _ ⟨rfl,rfl⟩;have hbW:Bw X2 X2:=Gb _ _;have hI3:=hI2;refine biE (fun hb=>?_) fun hb=>?_
    ·have hb:(!((qI l[k] locs (l.length-1-k))[6]'(by show 6<8;decide)))=true:=hb;have hb:(qI l[k] locs (l.length-1-k))[6]?=some false:=(by rw [gE (by show 6<8;decide)];exact Gj some (by rw [<- UG ((qI l[k] locs (l.length-1-k))[6]'(by show 6<8;decide)),hb];rfl));exact zcW hkl hb ((zst hb2 hbW))
    ·have hb:(!((qI l[k] locs (l.length-1-k))[6]'(by show 6<8;decide)))=false:=hb;have hb:(qI l[k] locs (l.length-1-k))[6]?=some true:=(by rw [gE (by show 6<8;decide)];exact Gj some (by rw [<- UG ((qI l[k] locs (l.length-1-k))[6]'(by show 6<8;decide)),hb];rfl));refine⟨_,(ze (by omega)).trans rfl,7,(cvE rfl rfl),⟨by omega,fun i hi=>?_,hI3,(zst hb2 hbW)⟩,by decide⟩;by_cases hik:i=6
     ·rw [hik];exact hb
     ·exact hpre i (by omega)
   ·refine⟨_,hat2 rfl,cmo (zqo hS (ho (by omega))) ?_⟩;rintro e W ⟨rfl,hbW⟩;have hI3:=hI2.below hbW;refine biE (fun hb=>?_) fun hb=>?_
    ·have hb:(!((qI l[k] locs (l.length-1-k))[7]'(by show 7<8;decide)))=true:=hb;have hb:(qI l[k] locs (l.length-1-k))[7]?=some false:=(by rw [gE (by show 7<8;decide)];exact Gj some (by rw [<- UG ((qI l[k] locs (l.length-1-k))[7]'(by show 7<8;decide)),hb];rfl));exact zcW hkl hb ((zst hb2 hbW))
    ·have hb:(!((qI l[k] locs (l.length-1-k))[7]'(by show 7<8;decide)))=false:=hb;have hb:(qI l[k] locs (l.length-1-k))[7]?=some true:=(by rw [gE (by show 7<8;decide)];exact Gj some (by rw [<- UG ((qI l[k] locs (l.length-1-k))[7]'(by show 7<8;decide)),hb];rfl));refine⟨_,(ze (by omega)).trans rfl,8,(cvE rfl rfl),⟨by omega,fun i hi=>?_,hI3,(zst hb2 hbW)⟩,by decide⟩;by_cases hik:i=7
     ·rw [hik];exact hb
     ·exact hpre i (by omega)
  ·have hc2:¬ (j:Int)<8:=dF hc2;obtain rfl:j=8:=by omega
   have hok:zha l[k] locs (l.length-1-k)=true:=zkk hpre rfl;refine nxI (by omega) ⟨k+1,(cvE rfl rfl),⟨hkl,fun i hi x hlx=>?_,⟨_,_,hI2⟩,hb2⟩,zdc (by omega)⟩;by_cases hik:i=k
   ·subst hik;rw [gE hkl] at hlx;rw [<- Uf hlx];exact hok
   ·exact hdone i (by omega) x hlx
 ·have hc:¬ (k:Int)<(l.length:Int):=dF hc;obtain rfl:k=l.length:=by omega
  refine⟨rb ?_,hbX⟩;unfold qa;rw [Us (by omega),Uy,Eq.comm,Qk];intro i hi;have hi:i<l.length:=Uo.1 hi;rw [gE hi];exact hdone i hi _ (gE hi)
structure GlobE (w:Wd):Prop where
 c:GlobC w
 t64:Tz64M w
 t32:Tz32M w
theorem GlobE.below {w w2:Wd} (h:GlobE w) (hb:Bw w w2):GlobE w2:=⟨h.c.below hb,h.t64.below hb,h.t32.below hb⟩
abbrev zbZ:=PathD×(OA×Nat)×(OA×Nat)×(OA×Nat)×(OA×Nat)
def z6:Enc zbZ:=⟨fun x=>zb8 x.1 x.2.1.1 x.2.1.2 x.2.2.1.1 x.2.2.1.2 x.2.2.2.1.1 x.2.2.2.1.2 x.2.2.2.2.1 x.2.2.2.2.2,12,fun _=>zbu ..,by decide,fun a u hu=>Qk.1 (zb7 ..) u hu⟩
structure RowIn {α:Type} (E:Enc α) (T:TypeId) (B:Nat) (F:Nat->Prop) (Y:Wd) (q:OA) (c:Nat) (l:List α):Prop where
 own:OwnS E T B Y q c l
 inF:∀ a,q=some a->F a.block
section
variable {α:Type} {E:Enc α} {T:TypeId} {B:Nat} {F G:Nat->Prop} {Y Z:Wd} {q:OA} {c:Nat} {l:List α}
theorem zak (h:OwnS E T B Y q c l) {a:Addr} (ha:q=some a):B<=a.block/\a.block<Y.heap.size/\∃ cur,Y.heap[a.block]?=some (.cells cur T (0,0)):=by
 rcases h.inv with ⟨h1,_⟩ | ⟨g,cur,h1,h2,h3,_⟩
 ·rw [h1] at ha;cases ha
 ·rw [h1] at ha;cases ha;exact⟨h2,hlt h3,cur,h3⟩
theorem RowIn.same (h:RowIn E T B F Y q c l) (hs:∀ k,F k->k<Y.heap.size->Z.heap[k]?=Y.heap[k]?) (hG:∀ k,F k->G k):RowIn E T B G Z q c l :=
 ⟨h.own.same fun a ha=>hs _ (h.inF a ha) (zak h.own ha).2.1,fun a ha=>hG _ (h.inF a ha)⟩
end
def PthIn (B:Nat) (F:Nat->Prop) (Y:Wd) (x:zbZ):Prop:=RowIn evE 60 B F Y x.2.1.1 x.2.1.2 x.1.ev/\RowIn prE 184 B F Y x.2.2.1.1 x.2.2.1.2 x.1.data/\RowIn prE 184 B F Y x.2.2.2.1.1 x.2.2.2.1.2 x.1.ctrl/\RowIn prE 184 B F Y x.2.2.2.2.1 x.2.2.2.2.2 x.1.rmw
theorem PthIn.same {B:Nat} {F G:Nat->Prop} {Y Z:Wd} {x:zbZ} (h:PthIn B F Y x) (hs:∀ k,F k->k<Y.heap.size->Z.heap[k]?=Y.heap[k]?) (hG:∀ k,F k->G k):PthIn B G Z x :=
 ⟨h.1.same hs hG,h.2.1.same hs hG,h.2.2.1.same hs hG,h.2.2.2.same hs hG⟩
theorem jn {W A B:Wd} {r:Option Nat} (h:W.grownBy A r) (hb:Below W.heap.size A B):W.grownBy B r :=
 ⟨hb.os.trans h.os,hb.tape.trans h.tape,hb.output.trans h.output,UM h.size hb.size,fun k hk hne=>(hb.block k hk).trans (h.block k hk hne)⟩
theorem zlp {q:OA} {cap:Nat} {l:List InsD} {w:Wd} (hl:SlR zG w q l) (hG:GlobC w) (hn:l.length<=140737488351232) :
  CB 37 #[.slice q l.length cap] w (.bool (qa l 6)):=by
 refine zI 5 [.slice q l.length cap] Tryz.func37 ?_;refine cmo (zkl (locs:=6) hl hG hn) ?_;rintro e X ⟨rfl,hb⟩;exact⟨rfl,hb⟩
def JPa (B n0 L:Nat) (W:Wd) (pre:List RunD) (F:Nat->Prop) (Y:Wd):Prop :=
 (n0<=Y.heap.size/\F L/\∀ k,F k->k<Y.heap.size)/\(∃ (xs:List zbZ) (p:OA) (c:Nat),Y.heap[L]?=some (.cells [.slice p xs.length c].toArray 78 (0,0))/\RowIn z6 73 B F Y p c xs/\xs.map (·.1)=pre.map jf/\∀ x∈xs,PthIn n0 F Y x)/\Below B W Y
theorem JPa.iter {B n0 L:Nat} {W:Wd} (hB:B<=n0) (hn:n0=W.heap.size):JG n0 (fun _=>False) (JPa B n0 L W):=by
 refine⟨?_,?_⟩
 ·rintro pre F A C ⟨⟨h1,h2,h3⟩,⟨xs,p,c,h4,h5,h6,h7⟩,h8⟩ hs;have sf:∀ k,F k->k<A.heap.size->C.heap[k]?=A.heap[k]?:=fun k hk hl=>hs.same k hl (.inr hk);refine⟨⟨UM h1 hs.size,h2,fun k hk=>nL (h3 k hk) hs.size⟩,⟨xs,p,c,(sf L h2 (h3 L h2)).trans h4,h5.same sf fun k h=>h,h6,fun x hx=>(h7 x hx).same sf fun k h=>h⟩,h8.trans ⟨hs.os,hs.tape,hs.output,hs.size,fun k hk=>hs.same k (by omega) (.inl ⟨by omega,fun h=>h⟩)⟩⟩
 ·rintro pre F A k ⟨⟨_,_,h3⟩,_⟩ hk;exact⟨h3 k hk,fun h=>h⟩
def PthO (B:Nat) (Y:Wd) (x:zbZ):Prop:=OwnS evE 60 B Y x.2.1.1 x.2.1.2 x.1.ev/\OwnS prE 184 B Y x.2.2.1.1 x.2.2.1.2 x.1.data/\OwnS prE 184 B Y x.2.2.2.1.1 x.2.2.2.1.2 x.1.ctrl/\OwnS prE 184 B Y x.2.2.2.2.1 x.2.2.2.2.2 x.1.rmw
theorem PthO.mono {B B':Nat} {Y:Wd} {x:zbZ} (h:PthO B Y x) (hB:B'<=B):PthO B' Y x:=⟨OwnS.lower h.1 hB,OwnS.lower h.2.1 hB,OwnS.lower h.2.2.1 hB,OwnS.lower h.2.2.2 hB⟩
structure RowN {α : Type} (E : Enc α) (n0 : Nat) (F : Nat → Prop) (X : Wd) (q : OA) (l : List α) : Prop where
  row : SlR E X q l
  out : l ≠ [] → ∀ a, q = some a → a.block < n0 ∧ ¬ F a.block
theorem RowN.keep {α : Type} {E : Enc α} {n0 : Nat} {F F' G : Nat → Prop} {X Y : Wd} {q : OA} {l : List α} (h : RowN E n0 F X q l) (hn : n0 ≤ X.heap.size) (k : KeepsG G F' X Y) (hG : ∀ k, k < n0 → G k → F k) : RowN E n0 F' Y q l := by
  by_cases hne : l = []
  · exact ⟨.inl hne, fun h => (h hne).elim⟩
  · have r : RowF E n0 F X q l := ⟨h.row, h.out hne⟩
    have r2 := r.keep hn k hG
    exact ⟨r2.row, fun _ => r2.out⟩
section
variable {yl n0 cap cd : Nat} {J Jx : List RunD → (Nat → Prop) → Wd → Prop} {xs : List RunD} {l : List InsD} {dom : List UInt8} {q p : OA}
theorem zmu (hJ : JG n0 (fun _ => False) J) (hn0 : ∀ pre F X, J pre F X → n0 ≤ X.heap.size) (hy : ∀ pre x vs F W1, J pre F W1 → StR (pre ++ [x]) vs W1 → (pre ++ [x]) <+: xs → YieldR PG yl vs.toArray W1 fun v W2 =>
      (v = .bool true ∧ ∃ F', J (pre ++ [x]) F' W2 ∧ KeepsG F F' W1 W2) ∨ (v = .bool false ∧ ∃ F', Jx (pre ++ [x]) F' W2)) (ht : ThG l) (hd : dom.length ≤ 1000) :
    ∀ (n : Nat) (S : RunD) (b : Nat) (pre : List RunD) (F : Nat → Prop) (X : Wd), l.length ≤ n + S.pc → RunOk l S → jq X b S → n0 ≤ b → ¬ F b → J pre F X → RowN zG n0 F X q l → RowF zC n0 F X p dom → (pre ++ zW l dom n S) <+: xs →
      Calls PG 105 #[AtR b, .slice q l.length cap, .slice p dom.length cd, .func (.yield yl) #[] #[]] X fun e Y =>
        (e = .returned (.bool true) ∧ ∃ F', J (pre ++ zW l dom n S) F' Y ∧ KeepsG (fun k => F k ∨ k = b) F' X Y) ∨ (e = .returned (.bool false) ∧ ∃ pre' F', pre' <+: xs ∧ Jx pre' F' Y) := by
  intro n
  induction n with
  | zero =>
    intro S b pre F X hn hS fX hb hFb hj hq hdm hpre
    refine jp (S := sg 41) (zbc _) (args := [AtR b, .slice q l.length cap, .slice p dom.length cd, .func (.yield yl) #[] #[]]) Tryz.func105 rfl rfl (JS rfl) rfl ?_
    have hpc : S.pc = l.length := by have := hS.p; omega
    have hg : l[S.pc]? = none := JK (by omega)
    have e1 : goR l l.length S = S := zow hg _
    refine Gc (zdH fX hq.row (fun hne a ha => by have := (hq.out hne a ha).1; omega) ht hS) ?_
    rintro e Y ⟨rfl, fY, gY, _⟩
    rw [e1] at fY ⊢
    rw [hg]
    refine brT ?_
    have hjY := hJ.step _ _ _ _ hj (StepG.grown gY (.inl hb) hFb)
    have hs : zW l dom 0 S = [S] := by show [goR l l.length S] = _; rw [e1]
    rw [hs] at hpre ⊢
    refine YieldR.mono (hy pre S [AtR b] F Y hjY ⟨S, b, by simp, rfl, fY⟩ hpre) ?_
    rintro v Z (⟨rfl, F', hJZ, hKZ⟩ | ⟨rfl, F', hJZ⟩)
    · exact .inl ⟨rfl, F', hJZ, (KeepsG.grown (F := fun k => F k ∨ k = b) gY (.inr rfl)).trans (hKZ.weak fun k h => .inl h)⟩
    · exact .inr ⟨rfl, _, F', hpre, hJZ⟩
  | succ n ih =>
    intro S b pre F X hn hS fX hb hFb hj hq hdm hpre
    refine jp (S := sg 41) (zbc _) (args := [AtR b, .slice q l.length cap, .slice p dom.length cd, .func (.yield yl) #[] #[]]) Tryz.func105 rfl rfl (JS rfl) rfl ?_
    obtain ⟨T, hT⟩ : ∃ T, T = goR l l.length S := ⟨_, rfl⟩
    refine Gc (zdH fX hq.row (fun hne a ha => by have := (hq.out hne a ha).1; omega) ht hS) ?_
    rintro e Y ⟨rfl, fY, gY, tO, tpp⟩
    rw [← hT] at fY tO tpp ⊢
    have hjY := hJ.step _ _ _ _ hj (StepG.grown gY (.inl hb) hFb)
    have hXn := hn0 _ _ _ hj
    have kY : KeepsG (fun k => F k ∨ k = b) F X Y := ⟨gY.os, gY.tape, gY.output, gY.size, fun k hk hf => gY.block k hk (fun e => hf (.inr (by cases e; rfl))), fun k h => .inl (.inl h)⟩
    have hqY := hq.keep hXn kY (fun k hk h => h.resolve_right (by omega))
    have hdY := hdm.keep hXn kY (fun k hk h => h.resolve_right (by omega))
    cases hg : l[T.pc]? with
    | none =>
      refine brT ?_
      have hs : zW l dom (n + 1) S = [T] := by
        show (match l[(goR l l.length S).pc]? with | none => [goR l l.length S] | some x => _) = _
        rw [← hT, hg]
      rw [hs] at hpre ⊢
      refine YieldR.mono (hy pre T [AtR b] F Y hjY ⟨T, b, by simp, rfl, fY⟩ hpre) ?_
      rintro v Z (⟨rfl, F', hJZ, hKZ⟩ | ⟨rfl, F', hJZ⟩)
      · exact .inl ⟨rfl, F', hJZ, kY.trans hKZ⟩
      · exact .inr ⟨rfl, _, F', hpre, hJZ⟩
    | some x =>
      have hi : T.pc < l.length := (Js.1 hg).1
      have hxe : l[T.pc] = x := by rw [Jv hi] at hg; exact Uf hg
      have hxi := (ht.2 _ _ hg).1
      refine brF ?_
      have hs : zW l dom (n + 1) S = dom.flatMap fun v => zW l dom n (zU T x v) := by
        show (match l[(goR l l.length S).pc]? with | none => [goR l l.length S] | some x => _) = _
        rw [← hT, hg]
      rw [hs] at hpre ⊢
      refine ⟨Nat × (Nat → Prop), fun s => ⟨[(0, AtR b), (1, .slice q l.length cap), (2, .slice p dom.length cd), (3, .func (.yield yl) #[] #[]), (19, .slice p dom.length cd), (20, i64 dom.length), (21, i64 (s.1 : Nat))], []⟩,
        fun s Z => s.1 ≤ dom.length ∧ J (pre ++ (dom.take s.1).flatMap fun v => zW l dom n (zU T x v)) s.2 Z ∧ jq Z b T ∧ ¬ s.2 b ∧ RowN zG n0 s.2 Z q l ∧ RowF zC n0 s.2 Z p dom ∧ KeepsG (fun k => F k ∨ k = b) s.2 X Z, fun s => dom.length - s.1, (0, F),
        ⟨.cons rfl (.cons rfl (.cons rfl (.cons rfl (.cons rfl (.cons rfl (.cons rfl .nil)))))), rfl⟩, ⟨UZ _, by rw [Up]; show J (pre ++ []) F Y; rw [QK]; exact hjY, fY, hFb, hqY, hdY, kY⟩, ?_⟩
      clear fY gY hjY hqY hdY kY
      rintro ⟨k, G⟩ Z ⟨hk, hjZ, fZ, hGb, hqZ, hdZ, kZ⟩
      dsimp only at hk hjZ hGb hqZ hdZ kZ ⊢
      have hZn := hn0 _ _ _ hjZ
      refine Gg (fun hc => ?_) (fun hc => ?_)
      · have hc : (k : Int) < (dom.length : Int) := Qd hc
        have hkd : k < dom.length := by omega
        obtain ⟨bp, op, hpe, hlp, hatp⟩ := hdZ.row.at hkd
        have hqr := hqZ
        obtain ⟨bq, oq, hqe, hlq, hatq⟩ := hqZ.row.at hi
        have ep : some (Value.slice p dom.length cd) = some (Value.slice (some ⟨bp, op, none⟩) dom.length cd) := by rw [hpe]
        subst hpe
        refine ⟨k, rfl, hkd, ?_⟩
        refine ⟨u8 dom[k], by have := zb (hatp k hkd) (i := 0) (v := u8 dom[k]) rfl; exact this, ?_⟩
        refine ⟨qA T, jz _, za fZ, hlt fZ, ?_⟩
        refine zn (X := Z) (v := .agg (qA T).toArray) (jM.get 112 _ rfl) (jz _) zmn (znP _) fun V hbV fV sV => ?_
        subst hqe
        have fV : jq V Z.heap.size T := fV
        refine ⟨_, zb (za fV) (i := 0) rfl, ?_⟩
        refine ⟨T.pc, rfl, hi, ?_⟩
        refine ⟨zG.enc x, rfl, by rw [← hxe]; exact zm hbV (hatq T.pc hi), KG hlq hbV.size, ?_⟩
        refine Gc (zdQ (v := dom[k]) fV tO.s (by have := tO.m; have := ht.1; omega) (by have := ht.1; omega) hxi) ?_
        rintro e U ⟨rfl, fU, gU⟩
        obtain ⟨x1, x2⟩ := zaY (v := dom[k]) ht tO hg
        have hGn : ¬ G Z.heap.size := fun h => by have := (hJ.lt _ _ _ _ hjZ h).1; omega
        have hjU := hJ.step _ _ _ _ (hJ.step _ _ _ _ hjZ (StepG.below hbV)) (StepG.grown gU (.inl hZn) hGn)
        have hbU : Below Z.heap.size Z U := hbV.trans (zh gU hbV.size (UW _))
        have kU : KeepsG G G Z U := KeepsG.below hbU fun k h => .inl h
        have hqU := hqr.keep hZn kU (fun k _ h => h)
        have hdU := hdZ.keep hZn kU (fun k _ h => h)
        have hdk : dom.flatMap (fun v => zW l dom n (zU T x v)) = (dom.take k).flatMap (fun v => zW l dom n (zU T x v)) ++ (zW l dom n (zU T x dom[k]) ++ (dom.drop (k + 1)).flatMap fun v => zW l dom n (zU T x v)) := by
          have e : dom = dom.take k ++ dom[k] :: dom.drop (k + 1) := by rw [JF, JQ]
          have e2 : (dom.take k ++ dom[k] :: dom.drop (k + 1)).flatMap (fun v => zW l dom n (zU T x v)) = (dom.take k).flatMap (fun v => zW l dom n (zU T x v)) ++ (zW l dom n (zU T x dom[k]) ++ (dom.drop (k + 1)).flatMap fun v => zW l dom n (zU T x v)) := by
            rw [Kh, KT]
          rw [← e] at e2
          exact e2
        have hpk : ((pre ++ (dom.take k).flatMap fun v => zW l dom n (zU T x v)) ++ zW l dom n (zU T x dom[k])) <+: xs := by
          refine List.IsPrefix.trans ?_ hpre
          rw [hdk]
          exact ⟨(dom.drop (k + 1)).flatMap fun v => zW l dom n (zU T x v), by simp only [KQ]⟩
        have htk : (dom.take (k + 1)).flatMap (fun v => zW l dom n (zU T x v)) = (dom.take k).flatMap (fun v => zW l dom n (zU T x v)) ++ zW l dom n (zU T x dom[k]) := by
          rw [Jd hkd, Kh, KT, Qq, QK]
        refine Gc (ih (zU T x dom[k]) Z.heap.size (pre ++ (dom.take k).flatMap fun v => zW l dom n (zU T x v)) G U (by omega) x1 fU hZn hGn hjU hqU hdU hpk) ?_
        rintro e V' (⟨rfl, F', hjV, kV⟩ | ⟨rfl, pre', F', hp', hjx⟩)
        · refine brF ?_
          have kW : KeepsG G F' Z V' := ⟨kV.os.trans kU.os, kV.tape.trans kU.tape, kV.output.trans kU.output, UM kU.size kV.size, fun i hi hf => (kV.same i (KG hi kU.size) (fun h => by
            rcases h with h | h
            · exact hf h
            · omega)).trans (kU.same i hi hf), fun i h => by
            have := kU.size
            rcases kV.fp i h with (h2 | h2) | h2
            · exact .inl h2
            · exact .inr (by omega)
            · exact .inr (by omega)⟩
          have hbZ := hlt fZ
          refine ⟨((k + 1 : Nat) : Int), (ze (by omega)).trans (by omega), ?_⟩
          refine ⟨(k + 1, F'), ⟨.cons rfl (.cons rfl (.cons rfl (.cons rfl (.cons rfl (.cons rfl (.cons rfl .nil)))))), rfl⟩, ⟨hkd, ?_, (kW.same b hbZ hGb).trans fZ, fun h => ?_, hqr.keep hZn kW (fun _ _ h => h), hdZ.keep hZn kW (fun _ _ h => h), kZ.trans kW⟩, by show dom.length - (k + 1) < dom.length - k; omega⟩
          · show J (pre ++ (dom.take (k + 1)).flatMap fun v => zW l dom n (zU T x v)) F' V'
            rw [htk, ← KQ]
            exact hjV
          · rcases kW.fp b h with h2 | h2
            · exact hGb h2
            · omega
        · refine brT ?_
          exact .inr ⟨rfl, pre', F', hp', hjx⟩
      · have hc : ¬ (k : Int) < (dom.length : Int) := KJ hc
        obtain rfl : k = dom.length := by omega
        rw [Qx] at hjZ
        exact .inl ⟨rfl, G, hjZ, kZ⟩
theorem ziJ {bi bd : Nat} {W0 : Wd} (hl : SlR zG W0 q l) (hp : SlR zC W0 p dom) (fi : W0.heap[bi]? = some (.cells #[.slice q l.length cap] 42 (0, 0))) (fd : W0.heap[bd]? = some (.cells #[.slice p dom.length cd] 23 (0, 0))) (hql : l ≠ [] → ∀ a, q = some a → a.block < W0.heap.size) (hpl : ∀ a, p = some a → a.block < W0.heap.size) (ht : ThG l) (hd : dom.length ≤ 1000) :
    zh6 PG 104 [AtR bi, AtR bd] (z8 l dom) W0 (fun k => (k = bi ∨ k = bd) ∨ (l ≠ [] ∧ ∃ a, q = some a ∧ k = a.block) ∨ ∃ a, p = some a ∧ k = a.block) (fun _ => False) StR := by
  intro yl F0 J Jx W hsz hrd hrf hJ hJx hy h0
  refine jp (S := sg 9) (zbc _) (args := [.func (.yield yl) #[] #[], AtR bi, AtR bd]) Tryz.func104 rfl rfl (JS rfl) rfl ?_
  obtain ⟨X, hX⟩ : ∃ X, X = W.alloc (.cells (qA zdr).toArray 112) := ⟨_, rfl⟩
  have hbX : Below W.heap.size W X := by rw [hX]; exact (Gb _ W).alloc (UW _) _
  have fX : jq X W.heap.size zdr := by rw [hX]; exact zz W _
  have ez : zi1 = qA zdr := by kernel_rfl
  have hX' : W.alloc (.cells (zi1).toArray 112) = X := by rw [hX, ez]
  have fiW := (hrd bi (.inl (.inl (.inl rfl)))).trans fi
  have fdW := (hrd bd (.inl (.inl (.inr rfl)))).trans fd
  have hjX := hJ.step _ _ _ _ h0 (StepG.below hbX)
  have hF : ¬ F0 W.heap.size := fun h => by have := (hJ.lt _ _ _ _ h0 h).1; omega
  have hlX : RowN zG W.heap.size F0 X q l := by
    by_cases hne : l = []
    · exact ⟨.inl hne, fun h => (h hne).elim⟩
    · exact ⟨qS hl fun a ha => (hbX.block _ (by have := hql hne a ha; omega)).trans (hrd _ (.inl (.inr (.inl ⟨hne, a, ha, rfl⟩)))), fun _ a ha => ⟨by have := hql hne a ha; omega, hrf _ (.inr (.inl ⟨hne, a, ha, rfl⟩))⟩⟩
  have hpX : RowF zC W.heap.size F0 X p dom := ⟨qS hp fun a ha => (hbX.block _ (by have := hpl a ha; omega)).trans (hrd _ (.inl (.inr (.inr ⟨a, ha, rfl⟩)))), fun a ha => ⟨by have := hpl a ha; omega, hrf _ (.inr (.inr ⟨a, ha, rfl⟩))⟩⟩
  refine ⟨_, by rw [hX']; exact zb (za (zc hbX fiW)) (i := 0) rfl, ?_⟩
  refine ⟨_, by rw [hX']; exact zb (za (zc hbX fdW)) (i := 0) rfl, ?_⟩
  rw [hX']
  have hJn : JG W.heap.size (fun _ => False) (fun pre F Z => J pre F Z ∧ W.heap.size ≤ Z.heap.size) := ⟨fun s F A B ⟨h, hn⟩ hs => ⟨hJ.step _ _ _ _ h hs, UM hn hs.size⟩, fun s F A k ⟨h, _⟩ hk => hJ.lt _ _ _ _ h hk⟩
  refine Gc (zmu (xs := z8 l dom) (Jx := Jx) hJn (fun _ _ _ h => h.2) (fun pre x vs F W1 ⟨hj, hn⟩ hst hpre => YieldR.mono (hy pre x vs F W1 hj hst hpre) fun v W2 h => ?_) ht hd l.length zdr W.heap.size [] F0 X (UW _) (zd7 l) fX (UW _) hF ⟨hjX, hbX.size⟩ hlX hpX (List.prefix_refl _)) ?_
  · rcases h with ⟨rfl, F', h1, h2⟩ | h
    · exact .inl ⟨rfl, F', ⟨h1, UM hn h2.size⟩, h2⟩
    · exact .inr h
  · rintro e Y (⟨rfl, F', ⟨hj, _⟩, _⟩ | ⟨rfl, pre', F', h1, h2⟩)
    · exact ⟨⟨_, rfl⟩, .inl ⟨F', hj⟩⟩
    · exact ⟨⟨_, rfl⟩, .inr ⟨pre', F', h1, h2⟩⟩
end
section
variable {l:List InsD} {vs:List UInt8} {q p:OA} {cap cd:Nat} {w:Wd} {R:RunD}
theorem zf8 {α:Type} {E:Enc α} {X Y:Wd} {q:OA} {l:List α} {N:Nat} (h:SlR E X q l) (hq:l≠[]->∀ a,q=some a->a.block≠N) (g:X.grownBy Y (some N)):SlR E Y q l:=by
 by_cases hne:l=[]
 ·exact .inl hne
 ·exact zhr h (hq hne) g
end
def zcK (l:List InsD):List UInt8->RunD->Option RunD
 | [],S=>some (goR l l.length S)
 | v::vs,S=>match l[(goR l l.length S).pc]? with
  | none=>none
  | some x=>zcK l vs (zU (goR l l.length S) x v)
section
variable {l:List InsD}
theorem zfe:∀ {vs:List UInt8} {S T:RunD},zcK l vs S=some T->l[T.pc]?=none->zag l vs S=some T
 | [],S,T,h,hn=>by
  have h:=Uf h;unfold zag;rw [h,hn]
 | v::vs,S,T,h,hn=>by
  unfold zcK at h;unfold zag
  cases hg:l[(goR l l.length S).pc]? with
  | none=>rw [hg] at h;cases h
  | some x=>rw [hg] at h;exact zfe h hn
theorem zjo {v:UInt8} {x:InsD}:∀ {vs:List UInt8} {S T:RunD},zcK l vs S=some T->l[T.pc]?=some x->zcK l (vs++[v]) S=some (goR l l.length (zU T x v))
 | [],S,T,h,hn=>by
  have h:=Uf h;show (match l[(goR l l.length S).pc]? with | none=>none | some x=>zcK l [] (zU (goR l l.length S) x v))=_;rw [h,hn];rfl
 | u::vs,S,T,h,hn=>by
  unfold zcK at h;show (match l[(goR l l.length S).pc]? with | none=>none | some x=>zcK l (vs++[v]) (zU (goR l l.length S) x u))=_
  cases hg:l[(goR l l.length S).pc]? with
  | none=>rw [hg] at h;cases h
  | some y=>rw [hg] at h;exact zjo h hn
theorem zlx (ht:ThG l):∀ {vs:List UInt8} {S T:RunD},RunOk l S->zcK l vs S=some T->RunOk l T/\S.pc+vs.length<=T.pc
 | [],S,T,hS,h=>by
  have h:=Uf h;rw [<- h];exact⟨ze2 ht _ _ hS,(zcN ht _ S hS).2⟩
 | v::vs,S,T,hS,h=>by
  unfold zcK at h
  cases hg:l[(goR l l.length S).pc]? with
  | none=>rw [hg] at h;cases h
  | some x =>
   rw [hg] at h;obtain⟨h1,h2⟩:=zaY (v:=v) ht (ze2 ht _ _ hS) hg;obtain⟨h3,h4⟩:=zlx ht h1 h;have h5:=(zcN ht l.length S hS).2;refine⟨h3,?_⟩;rw [Qt];omega
theorem zf1 (ht:ThG l) {V:List UInt8} {R:RunD}:∀ (n:Nat) (vs:List UInt8) (S:RunD),RunOk l S->l.length<=n+S.pc->zag l vs S=some R->(∀ v∈vs,v∈V)->R∈zW l V n S
 | 0,vs,S,hS,hn,h,hv=>by
  have hp:=(zcN ht l.length S hS).2;have hg:l[(goR l l.length S).pc]?=none:=JK (by omega)
  cases vs with
  | nil =>
   unfold zag at h;rw [hg] at h;exact KB.2 (Uf h).symm
  | cons v vs =>
   unfold zag at h;rw [hg] at h
   cases h
 | n+1,vs,S,hS,hn,h,hv=>by
  show R∈(match l[(goR l l.length S).pc]? with | none=>[goR l l.length S] | some x=>V.flatMap fun v=>zW l V n (zU (goR l l.length S) x v));have hp:=(zcN ht l.length S hS).2
  cases hg:l[(goR l l.length S).pc]? with
  | none =>
   cases vs with
   | nil =>
    unfold zag at h;rw [hg] at h;exact KB.2 (Uf h).symm
   | cons v vs =>
    unfold zag at h;rw [hg] at h
    cases h
  | some x =>
   cases vs with
   | nil =>
    unfold zag at h;rw [hg] at h
    cases h
   | cons v vs =>
    unfold zag at h;rw [hg] at h;obtain⟨h1,h2⟩:=zaY (v:=v) ht (ze2 ht _ _ hS) hg;exact List.mem_flatMap.2 ⟨v,hv v KA,zf1 ht n vs _ h1 (by omega) h fun u hu=>hv u (JY _ hu)⟩
theorem zoN (ht:ThG l) {V vs:List UInt8} {R:RunD} (h:zag l vs zdr=some R) (hv:∀ v∈vs,v∈V):R∈z8 l V:=zf1 ht _ vs _ (zd7 l) (Qz _ _) h hv
end
def zhC:PathD:=⟨[],[],[],[],fun _=>0⟩
section
variable {l:List InsD} {vs:List UInt8} {q p:OA} {cap cd:Nat} {w:Wd} {R:RunD}
theorem zmB {k:Nat} {S:RunD} (hk:k<=vs.length) (h:zcK l (vs.drop k) S=some R) :
  (k=vs.length/\R=goR l l.length S)\/∃ hlt:k<vs.length,∃ x,l[(goR l l.length S).pc]?=some x/\zcK l (vs.drop (k+1)) (zU (goR l l.length S) x vs[k])=some R:=by
 by_cases hlt:k<vs.length
 ·rw [Jq hlt] at h;unfold zcK at h
  cases hg:l[(goR l l.length S).pc]? with
  | none=>rw [hg] at h;cases h
  | some x=>rw [hg] at h;exact .inr ⟨hlt,x,rfl,h⟩
 ·rw [JB (by omega)] at h;exact .inl ⟨by omega,(Uf h).symm⟩
theorem znj (hl:SlR zG w q l) (hp:SlR zC w p vs) (hok:qa l 6=true) (hG:GlobE w) (hqb:l≠[]->∀ a,q=some a->a.block<w.heap.size) (hpb:vs≠[]->∀ a,p=some a->a.block<w.heap.size) (hv:vs.length<=1000) (hf:zcK l vs zdr=some R) :
  Calls PG 21 #[.slice q l.length cap,.slice p vs.length cd] w fun e w'=>((l[R.pc]?=none/\∃ q1 c1 q2 c2 q3 c3 q4 c4,e = .returned (.tuple #[.agg (zb8 (jf R) q1 c1 q2 c2 q3 c3 q4 c4).toArray,.bool false,i64 0])/\OwnS evE 60 w.heap.size w' q1 c1 (jf R).ev)\/((∃ x,l[R.pc]?=some x)/\e = .returned (.tuple #[.agg (zb8 zhC none 0 none 0 none 0 none 0).toArray,.bool true,i64 0])))/\Bw w w':=by
 have ht:=zeL hok;have h12:l.length<=12:=ht.1;refine je 38 [.slice q l.length cap,.slice p vs.length cd] (.s .p (.s .p (.c .p .p))) Tryz.func21 ?_;have hbX:Bw w (w.alloc (.cells #[.slice none 0 0,.slice none 0 0,.slice none 0 0,.slice none 0 0,.int .u8 0,.int .u8 0,.int .u8 0,.int .u8 0,.int .u8 0,.int .u8 0,.int .u8 0,.int .u8 0] 73)):=zba w _;have f0:=zz w (.cells #[.slice none 0 0,.slice none 0 0,.slice none 0 0,.slice none 0 0,.int .u8 0,.int .u8 0,.int .u8 0,.int .u8 0,.int .u8 0,.int .u8 0,.int .u8 0,.int .u8 0] 73);have sX:=wz w (.cells #[.slice none 0 0,.slice none 0 0,.slice none 0 0,.slice none 0 0,.int .u8 0,.int .u8 0,.int .u8 0,.int .u8 0,.int .u8 0,.int .u8 0,.int .u8 0,.int .u8 0] 73);refine cmo (zlp (hl.below hbX) (hG.c.below hbX) (by omega)) ?_;rintro e Y ⟨rfl,hbY⟩;rw [hok];refine brF ?_;have hwY:=zst hbX hbY;have f0:=zc hbY f0;have sY:=hbY.size;obtain⟨N,hN⟩:=nm (Y.heap.size);have ez:zi1=qA zdr:=by kernel_rfl
 refine⟨Unit,fun _=>⟨[(0,.slice q l.length cap),(1,.slice p vs.length cd),(4,AtR w.heap.size),(7,AtR N)],[]⟩,fun _ V=>jq V N zdr/\Bw Y V/\V.heap.size=N+1,?_,?_⟩
 ·exact⟨(),⟨.cons rfl (.cons rfl (.cons rfl (.cons (by rw [hN];rfl) .nil))),rfl⟩,by rw [hN,ez];exact zz Y _,(zba Y _),by rw [hN];exact wz ..⟩
 rintro _ V ⟨fV,hbV,sV⟩;have hwV:=zst hwY hbV;have f0:=zc hbV f0;have hNw:w.heap.size+1<=N:=by omega
 refine⟨Nat×RunD,fun s=>⟨[(0,.slice q l.length cap),(1,.slice p vs.length cd),(4,AtR w.heap.size),(7,AtR N),(8,i64 (s.1:Nat))],[]⟩,
  fun s Z=>(s.1<=vs.length/\zcK l (vs.drop s.1) s.2=some R/\RunOk l s.2)/\jq Z N s.2/\V.grownBy Z (some N),fun s=>vs.length-s.1,(0,zdr),
  (cvE rfl rfl),⟨⟨UZ _,hf,zd7 l⟩,fV,z3 _ _⟩,?_⟩
 rintro⟨k,S⟩ Z ⟨⟨hk,hfk,hS⟩,fZ,gZ⟩;dsimp only at hk hfk hS fZ ⊢;obtain⟨T,hT⟩:=nm (goR l l.length S);have hqN:l≠[]->∀ a,q=some a->a.block≠N:=fun hne a ha=>by have:=hqb hne a ha;omega
 have hpN:vs≠[]->∀ a,p=some a->a.block≠N:=fun hne a ha=>by have:=hpb hne a ha;omega
 have hlV:=hl.below hwV;have hpV:=hp.below hwV;refine cmo (zdH fZ (zf8 hlV hqN gZ) hqN ht hS) ?_;rintro e U ⟨rfl,fU,gU,tO,tpp⟩;have gVU:=zd gZ gU;have hwU:=hwV.trans (zh gVU hwV.size (by omega));have f0U:=(gVU.block w.heap.size (hlt f0) (fun e=>by cases e;omega)).trans f0;rw [<- hT] at fU tO tpp ⊢;have sU:=hwU.size;rcases zmB hk hfk with ⟨hke,hR⟩ | ⟨hlt',x,hg,hfx⟩
 ·rw [<- hT] at hR
  cases hg:l[T.pc]? with
  | none =>
   refine brF (brN (Uh (by omega)) ?_);have hm:T.many<=24:=by have h1:=tO.m;have h2:=tO.p;omega
   refine cmo (zn7 fU hm (fun i _=>tO.s.s i) (hG.t32.below hwU)) ?_;rintro e Y2 ⟨⟨q1,c1,q2,c2,q3,c3,q4,c4,rfl,o1,_⟩,hb2⟩;have f02:=zc hb2 f0U;obtain⟨cs,hcs⟩:=nm (zb8 (jf T) q1 c1 q2 c2 q3 c3 q4 c4);have hone:cs.all Value.oneCell'=true:=by rw [hcs];exact zb7 ..
   have hlen:cs.length=12:=by rw [hcs];exact zbu ..
   rw [<- hcs];refine zE (v := .agg cs.toArray) k73 f02 hlen rfl hone ?_;have f5:=zx (cs':=(Value.agg cs.toArray).cells) f02;have hw2:=zst hwU hb2;refine⟨cs,hlen,za f5,.inl ⟨by rw [hR];exact hg,q1,c1,q2,c2,q3,c3,q4,c4,by rw [hcs,hR];rfl,?_⟩,zy hw2 (UW _) _⟩;rw [hR];refine OwnS.lower (o1.kept (jb Y2 w.heap.size _) fun g hg e=>?_) sU;rcases o1.inv with ⟨h,_⟩ | ⟨g',cur,h,h2,_⟩
   ·rw [h] at hg;cases hg
   ·rw [h] at hg;simp only [Qa,Uu,Gi] at hg e;have:=hlt f0U;omega
  | some x =>
   refine brT (brE (Us (by omega)) ⟨zb8 zhC none 0 none 0 none 0 none 0,rfl,zE (v := .agg (zb8 zhC none 0 none 0 none 0 none 0).toArray) k73 f0U (zbu ..) rfl (zb7 ..) ?_⟩);have f5:=zx (cs':=(Value.agg (zb8 zhC none 0 none 0 none 0 none 0).toArray).cells) f0U;exact⟨_,zbu ..,za f5,.inr ⟨⟨x,by rw [hR];exact hg⟩,rfl⟩,zy hwU (UW _) _⟩
 ·rw [<- hT] at hg hfx;have hi:T.pc<l.length:=(Js.1 hg).1;have hxe:l[T.pc]=x:=by rw [gE hi] at hg;exact Uf hg
  have hxi:=(ht.2 _ _ hg).1;rw [hg];refine brT (brN (Uh (by omega)) ?_);have hlU:=zf8 hlV hqN gVU;have hpU:=zf8 hpV hpN gVU;obtain⟨bq,oq,rfl,hlq,hatq⟩:=hlU.at hi;obtain⟨bp,op,rfl,hlp,hatp⟩:=hpU.at hlt';refine DrawE.ord [9] [0,1,2,3,4,5,6,7,8,9] (by kernel_rfl) ⟨_,zb (za (hdr fU)) (i:=0) rfl,T.pc,rfl,hi,zG.enc x,rfl,by rw [<- hxe];exact hatq T.pc hi,hlq,?_⟩;refine⟨k,rfl,hlt',u8 vs[k],by have:=zb (hatp k hlt') (i:=0) (v:=u8 vs[k]) rfl;exact this,cmo (zdQ (v:=vs[k]) (hdr fU) tO.s (by have:=tO.m;omega) (by omega) hxi) ?_⟩;rintro e Y2 ⟨rfl,f2,g2⟩;obtain⟨x1,x2⟩:=zaY (v:=vs[k]) ht tO hg;refine nxI (by omega) ?_;have gd:U.grownBy U.drew (some N):=⟨rfl,rfl,rfl,UW _,fun _ _ _=>rfl⟩;exact⟨(k+1,zU T x vs[k]),(cvE rfl rfl),⟨⟨hlt',hfx,x1⟩,f2,zd gVU (zd gd g2)⟩,zdc (by omega)⟩
end
end Go.Proofs.YtpalcnbhkigagaaGreatDoor
namespace Go.Sei
def j0 (before:Nat->Nat):Nat->Nat->List Nat->List (List Nat)
 | 0,left,l=>if left=0 then [l] else []
 | n+1,left,l=>if left=0 then [l] else (els left).flatMap fun a=>if before a&&&left=0 then j0 before n (zaz left (2^a)) (l++[a]) else []
def za3 (r:RelD):List (List Nat):=if zhd r then j0 (zQ r).to 64 (jP r.n) [] else []
def j8:List Nat->Nat->List Nat
 | [],_=>[]
 | n::ns,j=>j%n::j8 ns (j/n)
def zR:List Nat->Nat
 | []=>1
 | n::ns=>n*zR ns
def qb (sizes:List Nat):List (List Nat):=(List.range (zR sizes.reverse)).map fun j=>(j8 sizes.reverse j).reverse
theorem zex:∀ (rs:List Nat) (j:Nat),(j8 rs j).length=rs.length
 | [],_=>rfl
 | n::ns,j=>by
  show (j8 ns (j/n)).length+1=ns.length+1;rw [zex ns]
theorem zhV:∀ rs:List Nat,j8 rs 0=List.replicate rs.length 0
 | []=>rfl
 | n::ns=>by
  show 0%n::j8 ns (0/n)=0::List.replicate ns.length 0;rw [Nat.zero_mod,Nat.zero_div,zhV ns]
theorem zhy:∀ {rs:List Nat},(∀ n∈rs,n≠0)->0<zR rs
 | [],_=>Nat.one_pos
 | n::ns,h=>Nat.mul_pos (by have:=h n (by simp);omega) (zhy fun m hm=>h m (by simp [hm]))
theorem zdG:∀ {rs:List Nat},0∈rs->zR rs=0
 | [],h=>by cases h
 | n::ns,h=>by
  show n*zR ns=0;rcases UC.1 h with h | h
  ·rw [<- h,US]
  ·rw [zdG h,Nat.mul_zero]
theorem ze8 {n j:Nat} (hn:n≠0):(j%n=n-1->(j+1)%n=0/\(j+1)/n=j/n+1)/\(j%n≠n-1->(j+1)%n=j%n+1/\(j+1)/n=j/n):=by
 have h1:=QZ j n;have h2:=Gf j (KH hn);obtain⟨q,hq⟩:∃ q,j/n=q:=⟨_,rfl⟩;obtain⟨m,hm⟩:∃ m,j%n=m:=⟨_,rfl⟩;rw [hq,hm] at h1 ⊢;rw [hm] at h2;refine⟨fun h=>?_,fun h=>?_⟩
 ·have e:j+1=n*(q+1):=by rw [Nat.mul_add];omega
  rw [e];exact⟨Nat.mul_mod_right _ _,Nat.mul_div_cancel_left _ (KH hn)⟩
 ·have e:j+1=n*q+(m+1):=by omega
  rw [e,Nat.mul_add_mod,QD (by omega),Nat.mul_add_div (KH hn),Nat.div_eq_of_lt (by omega)];exact⟨rfl,rfl⟩
def zg2 (rs:List Nat) (j t:Nat):Prop:=∃ A ns k,rs=A++ns/\A.length=t/\j8 rs (j+1)=List.replicate t 0++j8 ns (k+1)/\(j8 rs j).drop t=j8 ns k/\zR A*(k+1)=j+1
theorem zca:∀ A B:List Nat,zR (A++B)=zR A*zR B
 | [],B=>(UY _).symm
 | n::A,B=>by
  show n*zR (A++B)=n*zR A*zR B;rw [zca A B,UE]
theorem zk9 (rs:List Nat) (j:Nat):zg2 rs j 0:=⟨[],rs,j,rfl,rfl,rfl,rfl,UY _⟩
theorem zlb {rs:List Nat} {j t:Nat} (hr:∀ n∈rs,n≠0) (h:zg2 rs j t) {n d:Nat} (hn:rs[t]?=some n) (hd:(j8 rs j)[t]?=some d) (he:d=n-1):zg2 rs j (t+1):=by
 obtain⟨A,ns,k,h1,h2,h3,h4,h5⟩:=h
 cases ns with
 | nil =>
  rw [h1,QK,JK (by omega)] at hn
  cases hn
 | cons m ns =>
  have hm:m=n:=by
   rw [h1,Jn (by omega),h2,UO] at hn;exact Uf hn
  subst hm;have hd2:k%m=d:=by
   have:=Gj (fun l=>l[0]?) h4;simp only [Kx,UL] at this;rw [hd] at this;exact (Uf this).symm
  have hm0:m≠0:=hr m (by rw [h1];simp);obtain⟨e1,e2⟩:=(ze8 hm0).1 (hd2.trans he);have hk:k+1=m*(k/m+1):=by
   have:=QZ (k+1) m;rw [e1,e2] at this;omega
  refine⟨A++[m],ns,k/m,by rw [h1];simp,by simp [h2],?_,?_,?_⟩
  ·rw [h3];show _++((k+1)%m::j8 ns ((k+1)/m))=_;rw [e1,e2,List.replicate_succ',KQ];rfl
  ·rw [<- Uk,h4];rfl
  ·rw [<- h5,zca];show zR A*(m*1)*_=_;rw [UX,UE,<- hk]
theorem zla {rs:List Nat} {j t:Nat} (hr:∀ n∈rs,n≠0) (h:zg2 rs j t) {n d:Nat} (hn:rs[t]?=some n) (hd:(j8 rs j)[t]?=some d) (he:d≠n-1):j8 rs (j+1)=List.replicate t 0++(d+1)::(j8 rs j).drop (t+1):=by
 obtain⟨A,ns,k,h1,h2,h3,h4,h5⟩:=h
 cases ns with
 | nil =>
  rw [h1,QK,JK (by omega)] at hn
  cases hn
 | cons m ns =>
  have hm:m=n:=by
   rw [h1,Jn (by omega),h2,UO] at hn;exact Uf hn
  subst hm;have hd2:k%m=d:=by
   have:=Gj (fun l=>l[0]?) h4;simp only [Kx,UL] at this;rw [hd] at this;exact (Uf this).symm
  have hm0:m≠0:=hr m (by rw [h1];simp);obtain⟨e1,e2⟩:=(ze8 hm0).2 (fun h=>he (hd2.symm.trans h));rw [h3,<- Uk,h4];show _++((k+1)%m::j8 ns ((k+1)/m))=_;rw [e1,e2,hd2];rfl
theorem znb {rs:List Nat} {j:Nat} (h:zg2 rs j rs.length) (hj:j<zR rs):j+1=zR rs:=by
 obtain⟨A,ns,k,h1,h2,h3,h4,h5⟩:=h;have hl:=Gj List.length h1;rw [lap,h2] at hl;have:ns=[]:=List.length_eq_zero_iff.1 (by omega);subst this;rw [QK] at h1;rw [h1] at hj ⊢;have h6:zR A*(k+1)<=zR A:=by omega
 rcases Nat.eq_zero_or_pos (zR A) with h0 | h0
 ·omega
 ·have:k+1<=1:=Nat.le_of_mul_le_mul_left (by omega:zR A*(k+1)<=zR A*1) h0;have:k=0:=by omega
  subst this;omega
theorem zlc {rs:List Nat} {j t:Nat} (hr:∀ n∈rs,n≠0) (h:zg2 rs j t) {n d:Nat} (hn:rs[t]?=some n) (hd:(j8 rs j)[t]?=some d) (he:d≠n-1) (hj:j<zR rs):j+1<zR rs:=by
 obtain⟨A,ns,k,h1,h2,h3,h4,h5⟩:=h
 cases ns with
 | nil =>
  rw [h1,QK,JK (by omega)] at hn
  cases hn
 | cons m ns =>
  have hm:m=n:=by
   rw [h1,Jn (by omega),h2,UO] at hn;exact Uf hn
  subst hm;have hd2:k%m=d:=by
   have:=Gj (fun l=>l[0]?) h4;simp only [Kx,UL] at this;rw [hd] at this;exact (Uf this).symm
  have hm0:m≠0:=hr m (by rw [h1];simp);obtain⟨e1,e2⟩:=(ze8 hm0).2 (fun h=>he (hd2.symm.trans h));apply Jp;intro hc;have hP:zR rs=zR A*(m*zR ns):=by rw [h1,zca];rfl
  have hA:0<zR A:=by
   apply KH;intro h0;rw [hP,h0,US] at hj;omega
  have h6:zR A*(k+1)=zR A*(m*zR ns):=by omega
  have h7:=Nat.eq_of_mul_eq_mul_left hA h6;rw [h7,Nat.mul_mod_right] at e1;omega
theorem zhu {L:List Nat} {t d:Nat} (h:L[t]?=some d):(List.replicate t 0++L.drop t).reverse=(L.drop (t+1)).reverse++d::(List.replicate t 0).reverse:=by
 obtain⟨ht,rfl⟩:=Js.1 h;rw [<- JF ht,Kn,KX,KQ];rfl
theorem zrg {L:List Nat} {t d:Nat} (h:L[t]?=some d) {i:Nat} (hi:i+t+1=L.length):(List.replicate t 0++L.drop t).reverse[i]?=some d:=by
 rw [zhu h,Jn (by simp;omega)];have:i-(L.drop (t+1)).reverse.length=0:=by simp;omega
 rw [this];rfl
theorem zlA {L:List Nat} {t d:Nat} (h:L[t]?=some d) {i:Nat} (hi:i+t+1=L.length) (v:Nat):((List.replicate t 0++L.drop t).reverse).set i v=(List.replicate t 0++v::L.drop (t+1)).reverse:=by
 rw [zhu h,JP _ _ (by simp;omega)];have:i-(L.drop (t+1)).reverse.length=0:=by simp;omega
 rw [this,Kn,KX,KQ];rfl
theorem znT {L:List Nat} {t:Nat}:(List.replicate t 0++0::L.drop (t+1)).reverse=(List.replicate (t+1) 0++L.drop (t+1)).reverse:=by
 rw [List.replicate_succ',KQ];rfl
structure ExD where
 ev:List Ev
 po:RelD
 rf:RelD
 co:RelD
 dt:RelD
 ct:RelD
 rm:RelD
 regs:Nat->UInt8
 mem:Nat->UInt8
structure MixD where
 base:ExD
 rs:List (Nat×List Nat)
 wr:List (List Nat)
def zcC (n:Nat):RelD:=⟨n,fun _=>0⟩
def ex0 (n:Nat):ExD:=⟨[],zcC n,zcC n,zcC n,zcC n,zcC n,zcC n,fun _=>0,fun _=>0⟩
def zeR (b:Nat):List (Nat×Nat)->(Nat->Nat)->Nat->Nat
 | [],f=>f
 | p::ps,f=>zeR b ps (upd f (b+p.1) (f (b+p.1)|||2^(b+p.2)))
def zkL (b:Nat) (ps:List (Nat×Nat)) (r:RelD):RelD:=⟨r.n,zeR b ps r.to⟩
def zge (a:Int):Nat->List Ev->Nat->Nat
 | _,[],s=>s
 | j,e::es,s=>zge a (j+1) es (if e.th=a then s|||2^j else s)
def zbL (ev:List Ev) (i:Nat):Nat:=match ev[i]? with
 | none=>0
 | some e=>if e.th = -1 then 0 else zge e.th (i+1) (ev.drop (i+1)) 0
def poR (ev:List Ev):RelD:=⟨ev.length,zbL ev⟩
def jm:Nat->List UInt8->List Ev
 | _,[]=>[]
 | l,v::vs=>⟨-1,2,UInt8.ofNat l,v,0,0,0⟩::jm (l+1) vs
def zaV (k:Nat) (l:List Ev):List Ev:=l.map fun e=>{ e with th:=k }
def za5 (x:ExD) (k:Nat) (P:PathD):ExD :=
 { x with ev:=x.ev++zaV k P.ev,dt:=zkL x.ev.length P.data x.dt,ct:=zkL x.ev.length P.ctrl x.ct,rm:=zkL x.ev.length P.rmw x.rm,regs:=fun i=>if i/8=k then P.regs (i%8) else x.regs i }
def asR:Nat->List PathD->ExD->ExD
 | _,[],x=>x
 | k,P::Ps,x=>asR (k+1) Ps (za5 x k P)
def za6 (locs:Nat) (Ps:List PathD):Nat:=Ps.foldl (fun n P=>n+P.ev.length) locs
def zfU:Nat->List Ev->List (List Nat)->List (List Nat)
 | _,[],W=>W
 | i,e::es,W=>zfU (i+1) es (if e.k=2 then W.set e.l.toNat (W.getD e.l.toNat []++[i]) else W)
def zbt (all:List Ev) (W:List (List Nat)):Nat->List Ev->List (Nat×List Nat)
 | _,[]=>[]
 | i,e::es=>if e.k=1 then (i,(W.getD e.l.toNat []).filter fun w=>decide ((all.getD w ev0).v=e.v))::zbt all W (i+1) es else zbt all W (i+1) es
def jI (init:List UInt8) (Ps:List PathD):ExD :=
 let x:=asR 0 Ps { ex0 (za6 init.length Ps) with ev:=jm 0 init }
 { x with po:=poR x.ev }
def jU (x:ExD) (locs:Nat):MixD :=
 let W:=zfU 0 x.ev (List.replicate locs [])
 ⟨x,zbt x.ev W 0 x.ev,W⟩
def zgv (init:List UInt8) (Ps:List PathD):Option MixD:=if za6 init.length Ps<=48 then some (jU (jI init Ps) init.length) else none
def zez (lim:Nat):List (List Nat)->Nat->Option Nat
 | [],n=>some n
 | f::fs,n=>if f=[] then none else zez lim fs (min (n*f.length) lim)
def zfB (lim len:Nat):Nat->Nat->Nat->Nat
 | 0,_,n=>n
 | m+1,k,n=>if k<len then zfB lim len m (k+1) (min (n*k) lim) else n
def zfA (lim:Nat):List (List Nat)->Nat->Nat
 | [],n=>n
 | l::ls,n=>zfA lim ls (zfB lim l.length l.length 2 n)
def jh (m:MixD) (lim:Nat):Nat:=match zez lim (m.rs.map (·.2)) 1 with
 | none=>0
 | some n=>zfA lim m.wr n
def zJ (w:List Nat):List (List Nat) :=
 let l:=za3 (zgU w.length 1 (zaz (jP w.length) 1))
 if l.length<=10000 then l.map fun o=>o.map fun k=>w.getD k 0 else []
def zgA:List Nat->(Nat->Nat)->Nat->(Nat->Nat)
 | [],f,_=>f
 | a::l,f,b=>zgA l (upd f a b) (b|||2^a)
def j5 (l:List Nat) (r:RelD):RelD:=⟨r.n,zgA l.reverse r.to 0⟩
def rfF:List (Nat×List Nat)->List Nat->(Nat->Nat)->Nat->Nat
 | [],_,f=>f
 | (r,s)::rs,ds,f=>rfF rs ds.tail (upd f (s.getD (ds.headD 0) 0) (f (s.getD (ds.headD 0) 0)|||2^r))
def coG (ev:List Ev):Nat->List (List (List Nat))->List Nat->RelD×(Nat->UInt8)->RelD×(Nat->UInt8)
 | _,[],_,p=>p
 | l,R::Rs,ds,p=>coG ev (l+1) Rs ds.tail (j5 (R.getD (ds.headD 0) []) p.1,upd p.2 l (ev.getD ((R.getD (ds.headD 0) []).getLastD 0) ev0).v)
def zN (m:MixD) (ds:List Nat):ExD :=
 let c:=coG m.base.ev 0 (m.wr.map zJ) (ds.drop m.rs.length) (m.base.co,m.base.mem)
 { m.base with rf:=⟨m.base.rf.n,rfF m.rs ds m.base.rf.to⟩,co:=c.1,mem:=c.2 }
def zK (m:MixD):List Nat:=m.rs.map (fun r=>r.2.length)++m.wr.map fun w=>(zJ w).length
def zc1 (m:MixD):List ExD:=(qb (zK m)).map (zN m)
def qK (Ts:List (List PathD)):List Nat->List PathD
 | []=>[]
 | d::ds=>match Ts with
  | []=>[]
  | T::Ts=>(match T[d]? with | some P=>[P] | none=>[])++qK Ts ds
end Go.Sei
namespace Go.Proofs.YtpalcnbhkigagaaGreatDoor
open Go.Vc Go.RowKit Go.Sei
theorem zea {X:Wd} {b:Nat} {r:RelD} (f:X.heap[b]?=some (.cells (zi r).toArray 48 (0,0))) {i:Nat} (h:i<48):X.cell? ⟨b,0+1+i*1,none⟩=some (s64 (r.to i)):=by
 rw [UX,UD];exact zb (za f) (ziq r h)
theorem zaP {r:RelD} (h:okR r=true):0<=r.n/\r.n<=48/\∀ a,a<48->qH (r.to a) (j9 r.n)=0/\((a:Int)<r.n\/r.to a=0):=by
 unfold okR at h;rw [bAT,bAT,dE,dE,Qk] at h;refine⟨h.1,h.2.1,fun a ha=>?_⟩;have:=h.2.2 a (Uo.2 ha);unfold zbq at this;rw [bAT,QH,dE,dE,dE] at this;exact this
theorem zbC {n:Int} (h0:0<=n) (h:n<=64) {i:Nat} (hi:i<64):(j9 n).testBit i=decide ((i:Int)<n):=by
 unfold j9
 split
 ·rw [QE,Uh (by omega)]
 split
 ·rw [show 18446744073709551615=2^64-1 from rfl,Nat.testBit_two_pow_sub_one];rw [Us hi,Us (by omega)]
 ·rw [Nat.testBit_two_pow_sub_one];apply QG.2;omega
theorem ziz {r:RelD} (h:okR r=true) (hr:zZ r.to) {a i:Nat} (ha:a<48) (hb:(r.to a).testBit i=true):(i:Int)<r.n/\(a:Int)<r.n:=by
 obtain⟨h0,h48,hall⟩:=zaP h;obtain⟨h1,h2⟩:=hall a ha;have hi:i<64:=by
  apply QA;intro hi;have:=JI (nL (hr a ha) (Ke (by decide) hi));rw [this] at hb;cases hb
 refine⟨?_,?_⟩
 ·have h3:(qH (r.to a) (j9 r.n)).testBit i=false:=by rw [h1];exact QE i
  rw [zbk (zaF _) hi,hb,zbC h0 (by omega) hi] at h3;simpa using h3
 ·rcases h2 with h2 | h2
  ·exact h2
  ·rw [h2,QE] at hb;cases hb
theorem zpM {r:RelD} (h:okR r=true) (hr:zZ r.to) {a:Nat} (ha:a<48):∀ i∈els (r.to a),(i:Int)<r.n/\i<48:=fun i hi=>by
 have h1:=(ziz h hr ha (zay.1 hi).2).1;have:=(zaP h).2.1;exact⟨h1,by omega⟩
theorem zce {s:Nat} (h0:s≠0) (h:s<2^64):(els s).headD 0=ctz s/\(els s).isEmpty=false:=by
 rw [(jN h0 h).1];exact⟨rfl,rfl⟩
theorem zdj {s:Nat} (h:s<2^64) (he:(els s).isEmpty=true):s=0:=by
 apply Jp;intro h0;rw [(zce h0 h).2] at he;cases he
theorem zgQ {s:Nat} (h:s<2^64) (he:(!(els s).isEmpty)=true):s≠0:=fun h0=>by
 subst h0;rw [zaC] at he;cases he
theorem znd {n:Nat} {f:Nat->Nat} (h:∀ i,i<n->i<48->f i<2^64):zZ (zbB n f).to:=fun i hi=>by
 unfold zbB;dsimp only
 split
 ·rename_i h1;exact h i h1 hi
 ·decide
section
variable {ra rb:RelD} {w:Wd}
theorem zpr {ba bb i a b:Nat} (fa:w.heap[ba]?=some (.cells #[s64 a] 45 (0,0))) (fb:w.heap[bb]?=some (.cells #[s64 b] 45 (0,0))) (hi:i<48) :
  CB 111 (i64 (i:Nat)::[At0 ba,At0 bb]).toArray w (s64 (if a.testBit i then b else 0)):=by
 refine zI 11 (i64 (i:Nat)::[At0 ba,At0 bb]) Tryz.func111 ?_;refine⟨_,zb (za fa) (i:=0) rfl,by omega,_,zic (k:=i) (by omega),?_⟩;have e1:IntKind.u64.wrap ((BitVec.ofInt IntKind.u64.bits ((a/2^i:Nat):Int)&&&BitVec.ofInt IntKind.u64.bits (1:Int)).toNat:Int)=((a/2^i&&&1:Nat):Int):=by
  show IntKind.u64.wrap ((BitVec.ofInt 64 ((a/2^i:Nat):Int)&&&BitVec.ofInt 64 (1:Int)).toNat:Int)=_;rw [Qh,show (BitVec.ofInt 64 (1:Int)).toNat=1 from rfl,KE,KE,Kt];have e2:(((a/2^i:Nat):Int)%((2^64:Nat):Int)).toNat=(a/2^i)%2^64:=by
   rw [<- Int.natCast_emod,KM]
  rw [e2];generalize a/2^i=m;rw [w64 (by omega)];omega
 refine⟨_,e1,?_⟩;rw [zmh];refine biE (fun h=>?_) fun h=>?_
 ·have h:a.testBit i=false:=by
   cases hc:a.testBit i with
   | false=>rfl
   | true =>
    rw [hc] at h;exact Gq h (by decide)
  exact⟨by rw [h];rfl,Gb _ _⟩
 ·have h:a.testBit i=true:=by
   cases hc:a.testBit i with
   | true=>rfl
   | false =>
    rw [hc] at h;exact Gq h (by decide)
  exact⟨_,zb (za fb) (i:=0) rfl,by rw [h];rfl,Gb _ _⟩
theorem zqO {n a b:Nat} (hn:n<=48) (ha:a<2^64) (hb:b<2^64):CB 82 #[i64 n,s64 a,s64 b] w (.agg (zi (zgU n a b)).toArray):=by
 refine je 21 [i64 n,s64 a,s64 b] (.c .p (.s .p (.s .p .p))) Tryz.func82 ?_;obtain⟨L,hL⟩:=nm (w.heap.size);refine⟨Unit,fun _=>⟨[(0,i64 n),(4,At0 L),(5,At0 (L+1)),(6,At0 (L+2))],[]⟩,fun _ X=>X.heap[L]?=some (.cells #[s64 a] 45 (0,0))/\X.heap[L+1]?=some (.cells [s64 b].toArray 45 (0,0))/\X.heap[L+2]?=some (.cells (zi jx).toArray 48 (0,0))/\Bw w X,?_,?_⟩
 ·have s1:=wz w (.cells #[s64 a] 45);have s2:=wz (w.alloc (.cells #[s64 a] 45)) (.cells #[s64 b] 45);have h2:=zz (w.alloc (.cells #[s64 a] 45)) (.cells #[s64 b] 45);have h3:=zz ((w.alloc (.cells #[s64 a] 45)).alloc (.cells #[s64 b] 45)) (.cells (zi jx).toArray 48);rw [s1] at s2 h2;rw [s2] at h3;refine⟨(),⟨.cons rfl (.cons (by rw [hL];rfl) (.cons (by rw [hL,<- s1];rfl) (.cons (by rw [hL,<- s2];rfl) .nil))),rfl⟩,?_,?_,?_,?_⟩
  ·rw [hL];exact qF _ (qF _ (zz w _))
  ·rw [hL];exact qF _ h2
  ·rw [hL];exact h3
  ·exact (((zba w _)).alloc (by simp) _).alloc (by simp;omega) _
 rintro _ X ⟨f0,f1,f2,hbX⟩;refine brN (Uh (by omega)) (brN (Uh (by omega)) (DrawE.ord [4] [0,1,2,3,4] (by kernel_rfl) ⟨_,zb (za (hdr f1)) (i:=0) rfl,cmo zh8 ?_⟩));rintro e _ ⟨rfl,rfl⟩;refine⟨Gb _ _,_,zas (a:=b) (b:=j9 n) hb (zaF _),?_⟩;have hd:Bw X X.drew:=(Gb _ X).drew;refine zj k45 (hdr f1) (o:=0) (v:=s64 (b&&&j9 n)) rfl rfl (by show 0<1;decide) rfl fun Y fY gY sY=>?_;have fY:Y.heap[L+1]?=some (.cells #[s64 (b&&&j9 n)] 45 (0,0)):=fY;have hbY:Bw w Y:=((zst hbX hd)).trans (zh gY hbX.size (by omega));have f0Y:=(gY.block L (hlt (hdr f0)) (by simp)).trans (hdr f0);have f2Y:=(gY.block (L+2) (hlt (hdr f2)) (by simp)).trans (hdr f2);refine cmo (zqA (w:=Y) (n:=n) (row:=fun x=>if a.testBit x then b&&&jP n else 0) hn (by kernel_rfl) (fun i Z hi hbZ=>zpr (zc hbZ f0Y) (zc hbZ fY) (by omega))) ?_;rintro e Z ⟨rfl,hbZ⟩;have f2Z:=zc hbZ f2Y;exact zE (v := .agg (zi (zgU n a b)).toArray) k48 f2Z rfl rfl (qo _) ⟨zi (zgU n a b),zk _,za (zx f2Z),rfl,zy ((zst hbY hbZ)) (by omega) _⟩
end
theorem zfE {f:Nat->Nat} (h:zZ f) {i v:Nat} (hv:v<2^64):zZ (upd f i v):=fun j hj=>by
 by_cases e:j=i
 ·rw [e,zL];exact hv
 ·rw [qr _ _ e];exact h j hj
def zq1 (a:Nat) (l:List Nat) (f:Nat->Nat):Nat->Nat:=l.foldl (fun f b=>upd f b (f b|||2^a)) f
section
variable {r:RelD} {w:Wd}
theorem zll (hr:zZ r.to) (hT:Tz64M w):Calls PG 52 #[.agg (zi r).toArray] w fun e w'=>e = .returned (.agg (zi (zQ r)).toArray)/\Bw w w'/\zZ (zQ r).to:=by
 refine je 50 [.agg (zi r).toArray] (.c .p (.s .p (.s .p (.c .p .p)))) Tryz.func52 ?_;obtain⟨L,hL⟩:=nm (w.heap.size);refine⟨Unit,fun _=>⟨[(1,At0 L),(2,At0 (L+1))],[]⟩,fun _ X=>X.heap[L]?=some (.cells (zi r).toArray 48 (0,0))/\X.heap[L+1]?=some (.cells (zi jx).toArray 48 (0,0))/\X.heap.size=L+2/\Bw w X,?_,?_⟩
 ·have s1:=wz w (.cells (zi r).toArray 48);have h2:=zz (w.alloc (.cells (zi r).toArray 48)) (.cells (zi jx).toArray 48);have s2:=wz (w.alloc (.cells (zi r).toArray 48)) (.cells (zi jx).toArray 48);rw [s1] at h2 s2;refine⟨(),⟨.cons (by rw [hL];rfl) (.cons (by rw [hL,<- s1];rfl) .nil),rfl⟩,?_,?_,?_,?_⟩
  ·rw [hL];exact qF _ (zz w _)
  ·rw [hL];exact h2
  ·rw [hL];exact s2
  ·exact ((zba w _)).alloc (by simp) _
 rintro _ X ⟨f0,f1,sX,hbX⟩;refine⟨zi r,zk _,za f0,hlt f0,cmo (zbI hr) ?_⟩;rintro e Y ⟨rfl,hbY⟩;have hbwY:=zst hbX hbY;have f0Y:=zc hbY f0;have f1Y:=zc hbY f1;refine biE (fun h=>?_) fun h=>?_
 ·have h:okR r=false:=by
   have h:(!okR r)=true:=h;simpa using h
  have e:zQ r=jx:=by unfold zQ;rw [h];rfl
  rw [e];exact⟨zi jx,rfl,zE (v := .agg (zi jx).toArray) k48 f1Y rfl rfl (qo _) ⟨zi jx,zk _,za (zx f1Y),rfl,zy hbwY (by omega) _,fun i _=>(by decide:0<2^64)⟩⟩
 have h:okR r=true:=by
  have h:(!okR r)=false:=h;simpa using h
 obtain⟨p0,p48,_⟩:=zaP h;obtain⟨n,hn⟩:∃ n:Nat,r.n=n:=⟨r.n.toNat,by omega⟩;have hn48:n<=48:=by omega
 have e0:zQ r=⟨n,zaE r.to n⟩:=by unfold zQ;rw [Gp h,hn];rfl
 rw [e0];have hnY:Y.cell? ⟨L,0+0,none⟩=some (i64 n):=by rw [<- hn];exact zb (za f0Y) (i:=0) rfl
 refine⟨i64 n,hnY,zi ⟨n,fun _=>0⟩,rfl,?_⟩;have sY:=hbY.size;refine zn (X:=Y) (v := .agg (zi ⟨n,fun _=>0⟩).toArray) k48 rfl rfl (qo _) fun Z hbZ fZ sZ=>?_;obtain⟨M,hM⟩:=nm (Y.heap.size);rw [<- hM] at fZ sZ;have pM:some (Value.pointer (some ⟨Y.heap.size,0,none⟩))=some (At0 M):=by rw [hM]
 have hbwZ:=zst hbwY hbZ;refine⟨Unit,fun _=>⟨[(1,At0 L),(2,At0 (L+1)),(3,At0 M)],[]⟩,fun _ V=>V.heap[M]?=some (.cells (zi ⟨n,zaE r.to n⟩).toArray 48 (0,0))/\V.heap[L+1]?=some (.cells (zi jx).toArray 48 (0,0))/\Bw w V/\zZ (zaE r.to n),?_,?_⟩
 ·refine⟨i64 n,by rw [<- hn];exact zb (za (zc hbZ f0Y)) (i:=0) rfl,?_⟩;refine⟨Nat,fun k=>⟨[(1,At0 L),(2,At0 (L+1)),(3,At0 M),(16,i64 n),(17,i64 (k:Nat))],[]⟩,
   fun k V=>k<=n/\V.heap[M]?=some (.cells (zi ⟨n,zaE r.to k⟩).toArray 48 (0,0))/\zZ (zaE r.to k)/\Below M Z V,fun k=>n-k,0,
   ⟨.cons rfl (.cons rfl (.cons pM (.cons rfl (.cons rfl .nil)))),rfl⟩,⟨UZ _,fZ,fun i _=>(by decide:0<2^64),Gb _ _⟩,?_⟩
  rintro k V ⟨hk,fV,hwV,hbV⟩;have sV:=hbV.size;refine biE (fun hc=>?_) fun hc=>?_
  ·have hc:(k:Int)<(n:Int):=dT hc;have hkn:k<n:=by omega
   have step:zaE r.to (k+1)=zq1 k (els (r.to k)) (zaE r.to k):=by
    unfold zaE;rw [QW,KU];rfl
   have h48:=zpM h hr (a:=k) (by omega);have f0V:V.heap[L]?=some (.cells (zi r).toArray 48 (0,0)):=(hbV.block L (by omega)).trans (zc hbZ f0Y);have hTV:Tz64M V:=hT.below (hbwZ.trans (hbV.mono (by omega)));refine⟨k,rfl,by omega,?_⟩;refine⟨_,zea f0V (by omega),cmo (zbi (hr k (by omega)) hTV) ?_⟩;rintro e U ⟨rfl,hbU⟩;refine⟨(Nat->Nat)×Nat,fun q=>⟨[(1,At0 L),(2,At0 (L+1)),(3,At0 M),(4,i64 (k:Nat)),(5,s64 q.2),(6,i64 ((els q.2).headD 0:Nat)),(7,.bool (!(els q.2).isEmpty)),(16,i64 n),(17,i64 (k:Nat))],[]⟩,
    fun q T=>(zaE r.to (k+1)=zq1 k (els q.2) q.1/\zZ q.1/\q.2<2^64/\∀ b∈els q.2,b<48)/\T.heap[M]?=some (.cells (zi ⟨n,q.1⟩).toArray 48 (0,0))/\Below M Z T,fun q=>q.2,(zaE r.to k,r.to k),
    (cvE rfl rfl),⟨⟨step,hwV,hr k (by omega),fun b hb=>(h48 b hb).2⟩,zc hbU fV,hbV.trans (hbU.mono (by omega))⟩,?_⟩
   rintro⟨g,q⟩ T ⟨⟨he,hg,hq,hb48⟩,fT,hbT⟩;dsimp only at he hg hq hb48 fT ⊢;have sT:=hbT.size;refine biE (fun hc=>?_) fun hc=>?_
   ·have h0:=zgQ hq hc;obtain⟨e1,e2,_,e3⟩:=jN h0 hq;have hd:=(zce h0 hq).1;have hc48:ctz q<48:=hb48 _ (by rw [e1];exact KA);rw [hd];refine DrawE.ord [9] [0,1,2,3,4,5,6,7,8,9] (by kernel_rfl) ⟨ctz q,rfl,hc48,_,zea (hdr fT) hc48,by omega,_,zar (e:=k) (by omega),_,za1 (hg _ hc48) (qc (by omega)),ctz q,rfl,hc48,zj k45 (hdr fT) (o:=0+1+ctz q*1) (v:=s64 (g (ctz q)|||2^k)) rfl rfl (by rw [zk];omega) rfl fun S fS gS sS=>?_⟩;rw [UR,UX,zeb _ hc48] at fS;have hdT:Bw T T.drew:=(Gb _ T).drew;have hbS:Below M Z S:=(hbT.trans (hdT.mono (show M<=T.heap.size by omega))).trans (zh gS (show M<=T.heap.size by omega) (UW _));refine⟨((q-1:Nat):Int),(w64 (a:=(q:Int)-1) (by omega)).trans (by omega),((qV q:Nat):Int),zas (a:=q) (b:=q-1) hq (by omega),cmo (zbi (s:=qV q) (by omega) (hT.below (hbwZ.trans (hbS.mono (by omega))))) ?_⟩;rintro e R ⟨rfl,hbR⟩;have sS2:=hbS.size;refine⟨(upd g (ctz q) (g (ctz q)|||2^k),qV q),(cvE rfl rfl),⟨⟨?_,zfE hg (KZ (hg _ hc48) (qc (by omega))),by show qV q<_;omega,fun b hb=>hb48 b (by rw [e1];exact JY _ hb)⟩,zc hbR fS,hbS.trans (hbR.mono (by omega))⟩,e2⟩;rw [he,e1];rfl
   ·have hc:(els q).isEmpty=true:=(by simpa using hc);have:=zdj hq hc;subst this;rw [zaC] at he;have he:zaE r.to (k+1)=g:=he;exact nxI (by omega) ⟨k+1,(cvE rfl rfl),⟨hkn,by rw [he];exact fT,by rw [he];exact hg,hbT⟩,zdc (by omega)⟩
  ·have hc:¬ (k:Int)<(n:Int):=dF hc;obtain rfl:k=n:=by omega
   exact⟨(),(cvE rfl rfl),fV,(hbV.block (L+1) (by omega)).trans (zc hbZ f1Y),hbwZ.trans (hbV.mono (by omega)),hwV⟩
 clear fZ sZ pM hbwZ hbZ Z;rintro _ V ⟨fM,f1V,hbV,hw⟩;exact⟨zi ⟨n,zaE r.to n⟩,zk _,za fM,hlt fM,zE (v := .agg (zi ⟨n,zaE r.to n⟩).toArray) k48 f1V rfl rfl (qo _) ⟨zi ⟨n,zaE r.to n⟩,zk _,za (zx f1V),rfl,zy hbV (by omega) _,hw⟩⟩
theorem zm1 {p:Nat->Bool} {x:Nat} {l:List Nat}:(x::l).find? p=if p x then some x else l.find? p:=by
 rw [List.find?_cons]
 cases p x <;> rfl
theorem zrB {b left:Nat} (f:w.heap[b]?=some (.cells (zi r).toArray 48 (0,0))) (hr:zZ r.to) (hs:left<2^64) (h48:∀ i∈els left,i<48) (hT:Tz64M w) :
  CB 169 #[At0 b,s64 left] w (.tuple #[i64 ((zbN r.to left).getD 0:Nat),.bool (zbN r.to left).isSome]):=by
 refine zI 35 [At0 b,s64 left] Tryz.func169 ?_;refine cmo (zbi hs hT) ?_;rintro e X ⟨rfl,hbX⟩;refine⟨Nat,fun q=>⟨[(0,At0 b),(1,s64 left),(6,s64 q),(7,i64 ((els q).headD 0:Nat)),(8,.bool (!(els q).isEmpty))],[]⟩,
  fun q Y=>zbN r.to left=(els q).find? (fun a=>decide (r.to a&&&left=0))/\(q<2^64/\∀ i∈els q,i<48)/\Bw w Y,fun q=>q,left,
  (cvE rfl rfl),⟨rfl,⟨hs,h48⟩,hbX⟩,?_⟩
 clear hbX X;rintro q X ⟨he,⟨hq,h48⟩,hbX⟩;refine biE (fun hc=>?_) fun hc=>?_
 ·have h0:=zgQ hq hc;obtain⟨e1,e2,_,e3⟩:=jN h0 hq;have hd:=(zce h0 hq).1;have hc48:ctz q<48:=h48 _ (by rw [e1];exact KA);have fX:=zc hbX f;refine⟨ctz q,Gj Nat.cast hd.symm,hc48,_,zea fX hc48,_,zas (hr _ hc48) hs,?_⟩;rw [e1,zm1] at he;refine biE (fun h=>?_) fun h=>?_
  ·have h:r.to (ctz q)&&&left=0:=Uz (dT h);rw [Us h] at he;have he:zbN r.to left=some (ctz q):=he;exact⟨by rw [he,<- hd];rfl,hbX⟩
  ·have h:¬ r.to (ctz q)&&&left=0:=fun e=>by
    have h:¬ (((r.to (ctz q)&&&left:Nat):Int)=0):=dF h;exact h (by rw [e];rfl)
   rw [Uh h] at he;refine⟨((q-1:Nat):Int),(w64 (a:=(q:Int)-1) (by omega)).trans (by omega),((qV q:Nat):Int),zas (a:=q) (b:=q-1) hq (by omega),cmo (zbi (s:=qV q) (by omega) (hT.below hbX)) ?_⟩;rintro e Y ⟨rfl,hbY⟩;exact⟨qV q,(cvE rfl rfl),⟨he,⟨by omega,fun i hi=>h48 i (by rw [e1];exact JY _ hi)⟩,(zst hbX hbY)⟩,e2⟩
 ·have hc:(els q).isEmpty=true:=by simpa using hc
  have:=zdj hq hc;subst this;rw [zaC] at he;have he:zbN r.to left=none:=he;exact⟨by rw [he];rfl,hbX⟩
end
theorem zcY {s a:Nat} (hs:s<2^64) (ha:a∈els s):els (qH s (2^a))=(els s).filter (fun i => !decide (i=a)):=by
 have ha64:=zoO ha;unfold els;rw [List.filter_filter];apply KS;intro i hi;rw [zbk (qc ha64) (Uo.1 hi),Kq,Bool.and_comm];congr 2;exact QG.2 ⟨fun h=>h.symm,fun h=>h.symm⟩
theorem j3 {s a:Nat} (hs:s<2^64) (ha:a∈els s):(els (qH s (2^a))).length<(els s).length:=by
 rw [zcY hs ha];exact List.length_filter_lt_length_iff_exists.2 ⟨a,ha,by simp⟩
theorem zoq {s a:Nat} (hs:s<2^64) (ha:a∈els s):qH s (2^a)<s:=by
 have h1:qH s (2^a)<=s:=QY;have h2:qH s (2^a)≠s:=fun e=>by
  have:=j3 hs ha;rw [e] at this;omega
 omega
theorem zdk {n:Nat} (h:n<=64):els (j9 n)=List.range n:=by
 have e:∀ i∈List.range 64,(j9 n).testBit i=decide (i<n):=fun i hi=>by
  rw [zbC (by omega) (by omega) (Uo.1 hi)];exact QG.2 (by omega)
 unfold els;rw [KS e];obtain⟨m,hm⟩:∃ m,64=n+m:=⟨64-n,by omega⟩;rw [hm,List.range_add,Kw];have f1:(List.range n).filter (fun i=>decide (i<n))=List.range n:=by
  rw [List.filter_eq_self];intro i hi;simpa using hi
 have f2:((List.range m).map (n + ·)).filter (fun i=>decide (i<n))=[]:=by
  rw [JD];intro i hi;obtain⟨j,_,rfl⟩:=UJ.1 hi;simp
 rw [f1,f2,QK]
theorem zjT {before:Nat->Nat} {left a:Nat} (h:zbN before left=some a):a∈els left:=List.mem_of_find?_eq_some h
section
variable {r:RelD} {w:Wd}
theorem zsG (hr:zZ r.to) (hT:Tz64M w):Calls PG 161 #[.agg (zi r).toArray] w fun e w' =>
  (∃ p c,e = .returned (.tuple #[.slice p ((zd1 r).getD []).length c,.bool (zd1 r).isSome])/\OwnS zw 3 w.heap.size w' p c ((zd1 r).getD []))/\Bw w w':=by
 refine je 38 [.agg (zi r).toArray] (.c .p (.s .p (.c .p (.c .p (.s .p .p))))) Tryz.func161 ?_;obtain⟨L,hL⟩:=nm (w.heap.size);refine⟨Unit,fun _=>⟨[(1,At0 L)],[]⟩,fun _ X=>X.heap[L]?=some (.cells (zi r).toArray 48 (0,0))/\X.heap.size=L+1/\Bw w X,⟨(),⟨.cons (by rw [hL];rfl) .nil,rfl⟩,by rw [hL];exact zz w _,by rw [hL];exact wz _ _,(zba w _)⟩,?_⟩;rintro _ X ⟨f0,sX,hbX⟩;refine⟨zi r,zk _,za f0,hlt f0,cmo (zbI hr) ?_⟩;rintro e Y ⟨rfl,hbY⟩;have hbwY:=zst hbX hbY;have f0Y:=zc hbY f0;refine biE (fun h=>?_) fun h=>?_
 ·have h:okR r=false:=by
   have h:(!okR r)=true:=h;simpa using h
  have e:zd1 r=none:=by unfold zd1;rw [h];rfl
  rw [e];exact⟨⟨none,0,rfl,OwnS.nil⟩,hbwY⟩
 have h:okR r=true:=by
  have h:(!okR r)=false:=h;simpa using h
 obtain⟨p0,p48,_⟩:=zaP h;obtain⟨n,hn⟩:∃ n:Nat,r.n=n:=⟨r.n.toNat,by omega⟩;have hn48:n<=48:=by omega
 have sY:=hbY.size;refine⟨Nat,fun M=>⟨[(1,At0 L),(4,At0 M)],[]⟩,fun M Z=>Z.heap[M]?=some (.cells (zi (zQ r)).toArray 48 (0,0))/\L<M/\Z.heap[L]?=some (.cells (zi r).toArray 48 (0,0))/\zZ (zQ r).to/\Bw w Z,?_,?_⟩
 ·refine⟨zi r,zk _,za f0Y,hlt f0Y,cmo (zll hr (hT.below hbwY)) ?_⟩;rintro e Z ⟨rfl,hbZ,hw⟩;refine zn (X:=Z) (v := .agg (zi (zQ r)).toArray) k48 rfl rfl (qo _) fun V hbV fV sV=>?_;have sZ:=hbZ.size;exact⟨Z.heap.size,(cvE rfl rfl),fV,by omega,zc hbV (zc hbZ f0Y),hw,((zst hbwY hbZ)).trans (hbV.mono (by omega))⟩
 clear f0 sX hbX hbY hbwY f0Y sY Y X;rintro M X ⟨fM,hLM,f0,hw,hbX⟩;refine⟨Unit,fun _=>⟨[(1,At0 L),(4,At0 M),(5,s64 (j9 n))],[]⟩,fun _ Y=>X=Y,?_,?_⟩
 ·refine⟨i64 n,by rw [<- hn];exact zb (za f0) (i:=0) rfl,cmo zh8 ?_⟩;rintro e _ ⟨rfl,rfl⟩;exact⟨(),(cvE rfl rfl),rfl⟩
 rintro _ _ rfl;refine⟨i64 n,by rw [<- hn];exact zb (za f0) (i:=0) rfl,zcT (E:=zw) Tryz.underlying66 k3 rfl rfl rfl n (by show 8*n<=_;omega) (by unfold maxLen;omega) fun Z oZ hbZ sZ=>?_⟩;have hbwZ:=zst hbX hbZ;have wX:=hbX.size;have eT:zd1 r=zid (zQ r).to 64 (j9 n) []:=by unfold zd1;rw [Gp h,zaj,hn]
 have hMX:=hlt fM;refine⟨Nat×List Nat×Nat×OA×Nat,fun q=>⟨[(1,At0 L),(4,At0 M),(5,s64 q.1),(6,.slice q.2.2.2.1 q.2.1.length q.2.2.2.2)],[]⟩,
  fun q Y=>(zd1 r=zid (zQ r).to q.2.2.1 q.1 q.2.1/\(els q.1).length<=q.2.2.1/\q.2.2.1+q.2.1.length=64/\q.1<2^64/\∀ i∈els q.1,i<48)/\OwnS zw 3 X.heap.size Y q.2.2.2.1 q.2.2.2.2 q.2.1/\Bw X Y,fun q=>q.1,(j9 n,[],64,some ⟨X.heap.size,0,none⟩,n),
  (cvE rfl rfl),⟨⟨eT,zew _,rfl,zaF _,fun i hi=>by
   rw [show els (j9 n)=List.range n from zdk (by omega)] at hi;have:=Uo.1 hi;omega⟩,oZ,hbZ⟩,?_⟩
 rintro⟨q,l,m,p,c⟩ Y ⟨⟨he,hm,hml,hq,h48⟩,ho,hbY⟩;dsimp only at he hm hml hq h48 ho ⊢;have sY:=hbY.size;refine biE (fun hc=>?_) fun hc=>?_
 ·have hc:(!decide ((q:Int)=0))=true:=hc;have h0:q≠0:=fun e=>by
   subst e;exact Gq hc (by decide)
  obtain⟨e1,_,_,_⟩:=jN h0 hq;have hm1:1<=(els q).length:=by rw [e1];simp
  obtain⟨m,rfl⟩:∃ m',m=m'+1:=⟨m-1,by omega⟩;have fMY:=zc hbY fM;have step:zd1 r=match zbN (zQ r).to q with | none=>none | some a=>zid (zQ r).to m (zaz q (2^a)) (l++[a]):=by
   rw [he];show (if q=0 then some l else _)=_;rw [Gn h0]
   cases zbN (zQ r).to q <;> rfl
  refine cmo (zrB fMY hw hq h48 (hT.below (hbX.trans (hbY.mono wX)))) ?_;rintro e V ⟨rfl,hbV⟩;have hbXV:=hbY.trans (hbV.mono sY)
  cases hf:zbN (zQ r).to q with
  | none =>
   rw [hf] at step;refine brT ?_;have e:zd1 r=none:=step;rw [e];exact⟨⟨none,0,rfl,OwnS.nil⟩,hbX.trans (hbXV.mono wX)⟩
  | some a =>
   rw [hf] at step;refine brF ?_;have ha:=zjT hf;have ha48:=h48 a ha;refine⟨⟨by decide,by decide,rfl⟩,zw.enc a,rfl,?_⟩;have hba:Bw V (V.alloc (.cells (zw.enc a).toArray 3)):=zba _ _;have hYa:Bw Y (V.alloc (.cells (zw.enc a).toArray 3)):=zst hbV hba;have sa:(V.alloc (.cells (zw.enc a).toArray 3)).heap.size=V.heap.size+1:=wz _ _;have sV:=hbV.size;refine js (E:=zw) (T:=3) (B:=X.heap.size) (l:=l) (news:=[a]) (cap:=c) (m:=1) Tryz.underlying66 k3 rfl rfl rfl (ho.below hYa) rfl (qE zw a) (by omega) (by omega) (by show (l.length+1)*8<=_;omega) ?_;intro p2 c2 U oU gU hbU hat;refine⟨by omega,_,zar (e:=a) (by omega),_,zb0 hq (qc (by omega)),?_⟩;have hlen:=j3 hq ha;refine⟨(qH q (2^a),l++[a],m,p2,c2),(cvE rfl rfl),⟨⟨step,by show (els (qH q (2^a))).length<=m;omega,by simp only [lap,Qt,QO];omega,jW hq,fun i hi=>?_⟩,oU,?_⟩,zoq hq ha⟩
   ·rw [zcY hq ha] at hi;exact h48 i (QT.1 hi).1
   ·exact (hbY.trans (hYa.mono sY)).trans hbU
 ·have hc:(!decide ((q:Int)=0))=false:=hc;have h0:q=0:=by
   have h1:decide ((q:Int)=0)=true:=by simpa using hc
   exact Uz (dT h1)
  subst h0;have e:zd1 r=some l:=by
   rw [he]
   cases m <;> rfl
  rw [e];exact⟨⟨p,c,rfl,OwnS.lower ho wX⟩,hbX.trans (hbY.mono wX)⟩
theorem znl (hr:zZ r.to) (hT:Tz64M w):CB 149 #[.agg (zi r).toArray] w (.bool (zhd r)):=by
 refine zI 11 [.agg (zi r).toArray] Tryz.func149 ?_;have f0:=zz w (.cells (zi r).toArray 48);have hb:Bw w (w.alloc (.cells (zi r).toArray 48)):=zba w _;refine⟨zi r,zk _,za f0,hlt f0,cmo (zsG hr (hT.below hb)) ?_⟩;rintro e X ⟨⟨p,c,rfl,_⟩,hbX⟩;exact⟨rfl,(zst hb hbX)⟩
end
end Go.Proofs.YtpalcnbhkigagaaGreatDoor
namespace Go.Vc
open Go.RowKit
theorem KeepsG.more {F G:Nat->Prop} {A B:Wd} {g:Nat} (h:KeepsG G F A B) (hg:G g):KeepsG G (fun k=>F k\/k=g) A B :=
 ⟨h.os,h.tape,h.output,h.size,h.same,fun k hk=>hk.elim (h.fp k) fun e => .inl (by rw [e];exact hg)⟩
theorem zqF {α:Type} {E:Enc α} {P:Program} {w:Wd} {t T ty B g cap m c:Nat} {a:Addr} {l news:List α} {iT:TI} (hu:P.underlying t=some (.slice T)) (hT:TIok P T iT) (hs:iT.size=E.sz)
  (ho:OwnS E T B w (some ⟨g,0,none⟩) cap l) (hm:news.length=m) (hn:zu w a (news.flatMap E.enc)) (hroom:l.length+m<=cap) {K:Value->Wd->Prop}
  (k:∀ w',OwnS E T B w' (some ⟨g,0,none⟩) cap (l++news)->w.grownBy w' (some g)->K (.slice (some ⟨g,0,none⟩) (l++news).length cap) w') :
  SatR ((Builtin.append_ #[t,t] ty #[.slice (some ⟨g,0,none⟩) l.length cap,.slice (some a) m c]).run P w) K:=by
 obtain⟨⟨inf,hi,hsz,_,_⟩,_⟩:=hT;obtain⟨w',hr,ho',hg⟩:=run_append_fits (P:=P) w B t ty T inf E.sz hu hi (hsz.trans hs) g l.length cap (l.flatMap E.enc) ho a m c (news.flatMap E.enc) (by rw [qp,hm]) hn (zcf news) hroom;refine SatR.mk hr ?_;have hl:l.length+m=(l++news).length:=by simp [hm]
 have hf:l.flatMap E.enc++news.flatMap E.enc=(l++news).flatMap E.enc:=by rw [Kh]
 rw [hl,hf] at ho';rw [hl];exact k w' ho' hg
theorem OwnS.pref {α:Type} {E:Enc α} {T B cap g:Nat} {w:Wd} {l m:List α} (h:OwnS E T B w (some ⟨g,0,none⟩) cap (l++m)):OwnS E T B w (some ⟨g,0,none⟩) cap l:=by
 rcases h.inv with ⟨h,_⟩ | ⟨g',cur,hg,hB,hc,hl,hm,hs,ht⟩
 ·cases h
 ·simp only [Qa,Uu,Gi] at hg;subst hg;unfold OwnS World.ownsRow;refine⟨by rw [qp],.inr ⟨g,cap,cur,rfl,hB,hc,by rw [lap] at hl;omega,hm,hs,?_⟩⟩;have:=Gj (List.take (l.length*E.sz)) ht;rw [List.take_take,Kh,QX (qp l)] at this;rw [<- this];congr 1;rw [lap,UV];omega
theorem zq {α:Type} {E:Enc α} {T B c:Nat} {Y:Wd} {q:OA} {l:List α} (h:OwnS E T B Y q c l) {a:Addr} (ha:q=some a):B<=a.block/\a.block<Y.heap.size/\∃ cur,Y.heap[a.block]?=some (.cells cur T (0,0)):=by
 rcases h.inv with ⟨h1,_⟩ | ⟨g,cur,h1,h2,h3,_⟩
 ·rw [h1] at ha;cases ha
 ·rw [h1] at ha;cases ha;exact⟨h2,hlt h3,cur,h3⟩
structure Gath {α:Type} (E:Enc α) (T TS B n0 L:Nat) (W:Wd) (NIn:(Nat->Prop)->Wd->α->Prop) (xs:List α) (F:Nat->Prop) (Y:Wd):Prop where
 size:n0<=Y.heap.size
 inL:F L
 lt:∀ k,F k->k<Y.heap.size
 row:∃ (p:OA) (c:Nat),Y.heap[L]?=some (.cells [.slice p xs.length c].toArray TS (0,0))/\OwnS E T B Y p c xs/\∀ a,p=some a->F a.block
 nest:∀ x∈xs,NIn F Y x
 old:Below B W Y
def zh5 {α:Type} (T TS:Nat) (NIn:(Nat->Prop)->Wd->α->Prop):Prop :=
 ∀ (F G:Nat->Prop) (Y Z:Wd) (x:α),NIn F Y x->(∀ k cur T',F k->Y.heap[k]?=some (.cells cur T' (0,0))->T'≠T->T'≠TS->Z.heap[k]?=Y.heap[k]?)->(∀ k,F k->G k)->NIn G Z x
theorem Gath.iter {α σ:Type} {E:Enc α} {T TS B n0 L:Nat} {W:Wd} {NIn:(Nat->Prop)->Wd->α->Prop} {f:σ->List α->Prop} (hN:zh5 T TS NIn) (hB:B<=n0) :
  JG n0 (fun _=>False) (fun (s:σ) F Y=>∃ xs,f s xs/\Gath E T TS B n0 L W NIn xs F Y):=by
 refine⟨?_,?_⟩
 ·rintro s F A C ⟨xs,hf,h⟩ hs;have sf:∀ k,F k->k<A.heap.size->C.heap[k]?=A.heap[k]?:=fun k hk hl=>hs.same k hl (.inr hk);obtain⟨p,c,h1,h2,h3⟩:=h.row;exact⟨xs,hf,UM h.size hs.size,h.inL,fun k hk=>nL (h.lt k hk) hs.size,⟨p,c,(sf L h.inL (h.lt L h.inL)).trans h1,h2.same fun a ha=>sf _ (h3 a ha) (h.lt _ (h3 a ha)),h3⟩,
   fun x hx=>hN F F A C x (h.nest x hx) (fun k _ _ hk _ _ _=>sf k hk (h.lt k hk)) fun k h=>h,h.old.trans ⟨hs.os,hs.tape,hs.output,hs.size,fun k hk=>hs.same k (nL (nL hk hB) h.size) (.inl ⟨by omega,fun h=>h⟩)⟩⟩
 ·rintro s F A k ⟨xs,_,h⟩ hk;exact⟨h.lt k hk,fun h=>h⟩
theorem Gath.stepX {α:Type} {E:Enc α} {P:Program} {T TS B n0 L ty cap1:Nat} {W Y2 Y3:Wd} {NIn:(Nat->Prop)->Wd->α->Prop} {xs:List α} {F:Nat->Prop} {iT iS:TI} {z:List Value} (hN:zh5 T TS NIn) (hne:T≠TS)
  (hu:P.underlying TS=some (.slice T)) (hT:TIok P T iT) (hz:iT.zero=some z) (hs:iT.size=E.sz) (hzl:z.length=E.sz) (hS:TIok P TS iS) (hS1:iS.size=1)
  (h:Gath E T TS B n0 L W NIn xs F Y2) (hB:B<=n0) (hL:B<=L) (hb3:Bw Y2 Y3) (nx:α) (hl:xs.length+1<=4611686018427387904) (hby:(xs.length+1)*iT.bytes<=140737488355328)
  (zz:∀ (G:Nat->Prop) (Z:Wd),(∀ k,Y2.heap.size<=k->k<Y3.heap.size->Z.heap[k]?=Y3.heap[k]?)->(∀ k,Y2.heap.size<=k->k<Y3.heap.size->G k)->(∀ k cur T',F k->Y2.heap[k]?=some (.cells cur T' (0,0))->T'≠T->T'≠TS->Z.heap[k]?=Y2.heap[k]?)->(∀ k,F k->G k)->NIn G Z nx) :
  ∀ p c,Y2.heap[L]?=some (.cells [.slice p xs.length c].toArray TS (0,0)) ->
  ∃ v Y5,(Builtin.append_ #[TS,TS] ty #[.slice p xs.length c,.slice (some ⟨Y3.heap.size,0,none⟩) 1 cap1]).run P (Y3.alloc (.cells (E.enc nx).toArray T)) = .ok v Y5 /\
   ∃ Z,(storeVar TS ⟨L,0,none⟩ v).run P Y5 = .ok () Z/\∃ F',Gath E T TS B n0 L W NIn (xs++[nx]) F' Z/\KeepsG F F' Y2 Z/\∀ k,F k->F' k:=by
 intro p c h4;obtain⟨p',c',h4',h5,h6⟩:=h.row;rw [h4] at h4';simp at h4';obtain⟨rfl,rfl⟩:=h4';have h1:=h.size;have h2:=h.inL;have h3:=h.lt;have hba:Bw Y3 (Y3.alloc (.cells (E.enc nx).toArray T)):=zba _ _;have sa:(Y3.alloc (.cells (E.enc nx).toArray T)).heap.size=Y3.heap.size+1:=wz _ _;have s3:Y2.heap.size<=Y3.heap.size:=hb3.size;have hb2:Bw Y2 (Y3.alloc (.cells (E.enc nx).toArray T)):=hb3.trans (hba.mono s3);have hap:SatR ((Builtin.append_ #[TS,TS] ty #[.slice p xs.length c,.slice (some ⟨Y3.heap.size,0,none⟩) 1 cap1]).run P (Y3.alloc (.cells (E.enc nx).toArray T))) fun v Y5=>∃ p2 c2,v = .slice p2 (xs++[nx]).length c2/\OwnS E T B Y5 p2 c2 (xs++[nx])/\(Y3.alloc (.cells (E.enc nx).toArray T)).grownBy Y5 (Value.slice p xs.length c).ownBlock/\∀ a,p2=some a->p=some a\/a.block=(Y3.alloc (.cells (E.enc nx).toArray T)).heap.size :=
  js (E:=E) (T:=T) (B:=B) (l:=xs) (news:=[nx]) (cap:=c) (m:=1) hu hT hz hs hzl (h5.below hb2) rfl (by
   have:=zhZ (w:=Y3) (cs:=(E.enc nx).toArray) (t:=T);simpa using this) (by omega) (by omega) hby fun p2 c2 Y5 o5 g5 hb5 hat=>⟨p2,c2,rfl,o5,g5,hat⟩
 obtain⟨v,Y5,hrun,p2,c2,rfl,o5,g5,hat⟩:=hap;have pb:∀ {k:Nat},(Value.slice p xs.length c).ownBlock=some k->∃ a,p=some a/\a.block=k:=fun {k} e=>by
  cases hp:p with
  | none=>rw [hp] at e;simp [Value.ownBlock] at e
  | some a =>
   rw [hp] at e;simp only [Value.ownBlock,Qa] at e;exact⟨a,rfl,e⟩
 have h4':Y5.heap[L]?=some (.cells [.slice p xs.length c].toArray TS (0,0)):=by
  refine (g5.block L (hlt (zc hb2 h4)) fun e=>?_).trans (zc hb2 h4);obtain⟨a,hp,e⟩:=pb e.symm;obtain⟨_,_,cur,hcur⟩:=zq h5 hp;rw [e,h4] at hcur;simp at hcur;exact hne hcur.2.symm
 have hst:SatR ((storeVar TS ⟨L,0,none⟩ (.slice p2 (xs++[nx]).length c2)).run P Y5) fun _ Z=>Z.heap[L]?=some (.cells [.slice p2 (xs++[nx]).length c2].toArray TS (0,0))/\Y5.grownBy Z (some L)/\Z.heap.size=Y5.heap.size :=
  zj hS h4' (o:=0) (v := .slice p2 (xs++[nx]).length c2) rfl hS1 (by show 0<1;decide) rfl fun Z fZ gZ sZ=>⟨fZ,gZ,sZ⟩
 obtain⟨u,Z,hrun2,fZ,gZ,sZ⟩:=hst;have s5:=g5.size;refine⟨_,Y5,hrun,Z,hrun2,fun k=>F k\/(Y2.heap.size<=k/\k<Z.heap.size),?_⟩;have wr:∀ k,k<Y2.heap.size->k≠L->(∀ a,p=some a->k≠a.block)->Z.heap[k]?=Y2.heap[k]?:=fun k hk hne hnp=>by
  refine (gZ.block k (by omega) (by simpa using hne)).trans ((g5.block k (by omega) fun e=>?_).trans (hb2.block k hk));obtain⟨a,hp,e⟩:=pb e.symm;exact hnp a hp e.symm
 have new:∀ k,Y2.heap.size<=k->k<Y3.heap.size->Z.heap[k]?=Y3.heap[k]?:=fun k hk1 hk2=>by
  have hL2:=h3 L h2;refine (gZ.block k (by omega) (by simp;omega)).trans ((g5.block k (by omega) fun e=>?_).trans (hba.block k hk2));obtain⟨a,hp,e⟩:=pb e.symm;have:=h3 _ (h6 a hp);omega
 have ty':∀ k cur T',F k->Y2.heap[k]?=some (.cells cur T' (0,0))->T'≠T->T'≠TS->Z.heap[k]?=Y2.heap[k]?:=fun k cur T' hk hc t1 t2=>by
  refine wr k (h3 k hk) (fun e=>?_) fun a ha e=>?_
  ·rw [e,h4] at hc;simp at hc;exact t2 hc.2.symm
  ·obtain⟨_,_,cur',hcur'⟩:=zq h5 ha;rw [<- e,hc] at hcur';simp at hcur';exact t1 hcur'.2
 refine⟨⟨by omega,.inl h2,fun k hk=>?_,⟨p2,c2,fZ,o5.kept gZ fun g hg e=>?_,fun a ha=>?_⟩,fun y hy=>?_,?_⟩,⟨gZ.os.trans (g5.os.trans hb2.os),gZ.tape.trans (g5.tape.trans hb2.tape),gZ.output.trans (g5.output.trans hb2.output),by omega,fun k hk hf=>wr k hk (fun e=>hf (by rw [e];exact h2)) (fun a ha e=>hf (by rw [e];exact h6 a ha)),fun k hk=>hk.imp id fun h=>h.1⟩,fun k hk => .inl hk⟩
 ·rcases hk with hk | hk
  ·have:=h3 k hk;omega
  ·exact hk.2
 ·obtain⟨_,_,cur,hcur⟩:=zq o5 hg;simp only [Qa] at e;have hcur:Y5.heap[g]?=_:=hcur;rw [<- e,h4'] at hcur;simp at hcur;exact hne hcur.2.symm
 ·rcases hat a ha with h | h
  ·exact .inl (h6 a h)
  ·have:=(zq o5 ha).2.1;exact .inr ⟨by omega,by omega⟩
 ·rcases QS.1 hy with hy | hy
  ·exact hN F _ Y2 Z y (h.nest y hy) ty' fun k hk => .inl hk
  ·simp only [KB] at hy;subst hy;exact zz _ Z new (fun k hk1 hk2 => .inr ⟨hk1,by omega⟩) ty' fun k hk => .inl hk
 ·refine h.old.trans ⟨gZ.os.trans (g5.os.trans hb2.os),gZ.tape.trans (g5.tape.trans hb2.tape),gZ.output.trans (g5.output.trans hb2.output),by omega,fun k hk=>wr k (by omega) (by omega) fun a ha=>?_⟩;have:=(zq h5 ha).1;omega
theorem Gath.step {α:Type} {E:Enc α} {P:Program} {T TS B n0 L ty cap1:Nat} {W Y2 Y3:Wd} {NIn:(Nat->Prop)->Wd->α->Prop} {xs:List α} {F:Nat->Prop} {iT iS:TI} {z:List Value} (hN:zh5 T TS NIn) (hne:T≠TS)
  (hu:P.underlying TS=some (.slice T)) (hT:TIok P T iT) (hz:iT.zero=some z) (hs:iT.size=E.sz) (hzl:z.length=E.sz) (hS:TIok P TS iS) (hS1:iS.size=1)
  (h:Gath E T TS B n0 L W NIn xs F Y2) (hB:B<=n0) (hL:B<=L) (hb3:Bw Y2 Y3) (nx:α) (hl:xs.length+1<=4611686018427387904) (hby:(xs.length+1)*iT.bytes<=140737488355328)
  (zz:∀ (G:Nat->Prop) (Z:Wd),(∀ k,Y2.heap.size<=k->k<Y3.heap.size->Z.heap[k]?=Y3.heap[k]?)->(∀ k,Y2.heap.size<=k->k<Y3.heap.size->G k)->NIn G Z nx) :
  ∀ p c,Y2.heap[L]?=some (.cells [.slice p xs.length c].toArray TS (0,0)) ->
  ∃ v Y5,(Builtin.append_ #[TS,TS] ty #[.slice p xs.length c,.slice (some ⟨Y3.heap.size,0,none⟩) 1 cap1]).run P (Y3.alloc (.cells (E.enc nx).toArray T)) = .ok v Y5 /\
   ∃ Z,(storeVar TS ⟨L,0,none⟩ v).run P Y5 = .ok () Z/\∃ F',Gath E T TS B n0 L W NIn (xs++[nx]) F' Z/\KeepsG F F' Y2 Z/\∀ k,F k->F' k :=
 h.stepX hN hne hu hT hz hs hzl hS hS1 hB hL hb3 nx hl hby fun G Z h1 h2 _ _=>zz G Z h1 h2
end Go.Vc
namespace Go.Proofs.YtpalcnbhkigagaaGreatDoor
open Go.Vc Go.RowKit Go.Sei
abbrev zaR (X : Wd) (b : Nat) (r : RelD) : Prop := X.heap[b]? = some (.cells (zi r).toArray 48 (0, 0))
def StO (pre : List (List Nat)) (vs : List Value) (W : Wd) : Prop := ∃ l q c, pre.getLast? = some l ∧ vs = [.slice q l.length c] ∧ SlR zw W q l ∧ (q = none → c = 0) ∧ ∀ a, q = some a → ∃ cur, W.heap[a.block]? = some (.cells cur 3 (0, 0))
section
variable {yl n0 n bB : Nat} {J Jx : List (List Nat) → (Nat → Prop) → Wd → Prop} {xs : List (List Nat)} {r : RelD}
theorem zoA (hJ : JG n0 (fun _ => False) J) (hn0 : ∀ pre F X, J pre F X → n0 ≤ X.heap.size) (hy : ∀ pre x vs F W1, J pre F W1 → StO (pre ++ [x]) vs W1 → (pre ++ [x]) <+: xs → YieldR PG yl vs.toArray W1 fun v W2 =>
      (v = .bool true ∧ ∃ F', J (pre ++ [x]) F' W2 ∧ KeepsG F F' W1 W2) ∨ (v = .bool false ∧ ∃ F', Jx (pre ++ [x]) F' W2)) (hr : zZ r.to) (hn : n ≤ 48) (ht0 : 1 < n0) :
    ∀ (m left : Nat) (l : List Nat) (g : Nat) (pre : List (List Nat)) (F : Nat → Prop) (X : Wd), (els left).length ≤ m → left < 2 ^ 64 → (∀ i ∈ els left, i < 48) → l.length + (els left).length ≤ n → OwnS zw 3 n0 X (some ⟨g, 0, none⟩) n l → ¬ F g → J pre F X → zaR X bB r → ¬ F bB → n0 ≤ bB → bB ≠ g → Tz64M X → ¬ F 1 → (pre ++ j0 r.to m left l) <+: xs →
      Calls PG 150 #[At0 bB, s64 left, .slice (some ⟨g, 0, none⟩) l.length n, .func (.yield yl) #[] #[]] X fun e Y =>
        (e = .returned (.bool true) ∧ ∃ F', J (pre ++ j0 r.to m left l) F' Y ∧ KeepsG (fun k => F k ∨ k = g) F' X Y ∧ OwnS zw 3 n0 Y (some ⟨g, 0, none⟩) n l ∧ ¬ F' g) ∨ (e = .returned (.bool false) ∧ ∃ pre' F', pre' <+: xs ∧ Jx pre' F' Y) := by
  intro m
  induction m with
  | zero =>
    intro left l g pre F X hm hlt64 h48 hln ho hFg hj hR hFb hbn hbg hT hFt hpre
    have h0 : left = 0 := by
      apply Jp
      intro h0
      rw [(jN h0 hlt64).1] at hm
      simp at hm
    subst h0
    refine jp (S := sg 56) (zbc _) (args := [At0 bB, s64 0, .slice (some ⟨g, 0, none⟩) l.length n, .func (.yield yl) #[] #[]]) Tryz.func150 rfl rfl (JS rfl) rfl ?_
    refine brT ?_
    have hs : j0 r.to 0 0 l = [l] := rfl
    rw [hs] at hpre ⊢
    refine YieldR.mono (hy pre l [.slice (some ⟨g, 0, none⟩) l.length n] F X hj ⟨l, _, n, by simp, rfl, ho.row, fun h => (by cases h), fun a ha => (zq ho ha).2.2⟩ hpre) ?_
    rintro v Z (⟨rfl, F', hJZ, hKZ⟩ | ⟨rfl, F', hJZ⟩)
    · have hgl : g < X.heap.size := (zq ho rfl).2.1
      exact .inl ⟨rfl, F', hJZ, hKZ.weak fun k h => .inl h, ho.same fun a ha => by cases ha; exact hKZ.same g hgl hFg, fun h => by
        rcases hKZ.fp g h with h | h
        · exact hFg h
        · omega⟩
    · exact .inr ⟨rfl, _, F', hpre, hJZ⟩
  | succ m ih =>
    intro left l g pre F X hm hlt64 h48 hln ho hFg hj hR hFb hbn hbg hT hFt hpre
    refine jp (S := sg 56) (zbc _) (args := [At0 bB, s64 left, .slice (some ⟨g, 0, none⟩) l.length n, .func (.yield yl) #[] #[]]) Tryz.func150 rfl rfl (JS rfl) rfl ?_
    have hgl : g < X.heap.size := (zq ho rfl).2.1
    have hgn : n0 ≤ g := (zq ho rfl).1
    refine Gg (fun h => ?_) (fun h => ?_)
    · have h : left = 0 := Uz (Qd h)
      subst h
      have hs : j0 r.to (m + 1) 0 l = [l] := rfl
      rw [hs] at hpre ⊢
      refine YieldR.mono (hy pre l [.slice (some ⟨g, 0, none⟩) l.length n] F X hj ⟨l, _, n, by simp, rfl, ho.row, fun h => (by cases h), fun a ha => (zq ho ha).2.2⟩ hpre) ?_
      rintro v Z (⟨rfl, F', hJZ, hKZ⟩ | ⟨rfl, F', hJZ⟩)
      · exact .inl ⟨rfl, F', hJZ, hKZ.weak fun k h => .inl h, ho.same fun a ha => by cases ha; exact hKZ.same g hgl hFg, fun h => by
        rcases hKZ.fp g h with h | h
        · exact hFg h
        · omega⟩
      · exact .inr ⟨rfl, _, F', hpre, hJZ⟩
    have h : left ≠ 0 := fun e => (KJ h) (by rw [e]; rfl)
    obtain ⟨G, hG⟩ : ∃ G : Nat → List (List Nat), G = fun a => if r.to a &&& left = 0 then j0 r.to m (zaz left (2 ^ a)) (l ++ [a]) else [] := ⟨_, rfl⟩
    have hs : j0 r.to (m + 1) left l = (els left).flatMap G := by
      rw [hG]
      show (if left = 0 then [l] else _) = _
      rw [Gn h]
    rw [hs] at hpre ⊢
    refine Gc (zbi hlt64 hT) ?_
    rintro e X1 ⟨rfl, hb1⟩
    refine ⟨Nat × List Nat × (Nat → Prop), fun s => ⟨[(0, At0 bB), (1, s64 left), (2, .slice (some ⟨g, 0, none⟩) l.length n), (3, .func (.yield yl) #[] #[]), (9, s64 s.1), (10, i64 ((els s.1).headD 0 : Nat)), (11, .bool (!(els s.1).isEmpty))], []⟩,
      fun s Z => (els left = s.2.1 ++ els s.1 ∧ s.1 < 2 ^ 64) ∧ J (pre ++ s.2.1.flatMap G) s.2.2 Z ∧ OwnS zw 3 n0 Z (some ⟨g, 0, none⟩) n l ∧ ¬ s.2.2 g ∧ zaR Z bB r ∧ ¬ s.2.2 bB ∧ Tz64M Z ∧ ¬ s.2.2 1 ∧ KeepsG (fun k => F k ∨ k = g) s.2.2 X Z, fun s => s.1, (left, [], F),
      ⟨.cons rfl (.cons rfl (.cons rfl (.cons rfl (.cons rfl (.cons rfl (.cons rfl .nil)))))), rfl⟩, ⟨⟨rfl, hlt64⟩, by show J (pre ++ []) F X1; rw [QK]; exact hJ.step _ _ _ _ hj (.below hb1), ho.below hb1, hFg, zc hb1 hR, hFb, hT.below hb1, hFt, KeepsG.below hb1 fun k h => .inl (.inl h)⟩, ?_⟩
    rintro ⟨q, don, F1⟩ Z ⟨⟨he, hq⟩, hjZ, hoZ, hgZ, hRZ, hbZ, hTZ, htZ, kZ⟩
    dsimp only at he hq hjZ hgZ hbZ htZ kZ ⊢
    have hZn := hn0 _ _ _ hjZ
    refine Gg (fun hc => ?_) (fun hc => ?_)
    · have h0 := zgQ hq hc
      obtain ⟨e1, e2, _, e3⟩ := jN h0 hq
      have hd := (zce h0 hq).1
      have hmem : ctz q ∈ els left := by rw [he, e1]; simp
      have hc48 : ctz q < 48 := h48 _ hmem
      rw [e1] at he
      have hpa : ∀ t, (don ++ [ctz q]).flatMap t = don.flatMap t ++ t (ctz q) := fun t : Nat → List (List Nat) => by
        rw [Kh, KT, Qq, QK]
      have next : ∀ {Y : Wd} {F2 : Nat → Prop}, J (pre ++ (don ++ [ctz q]).flatMap G) F2 Y → OwnS zw 3 n0 Y (some ⟨g, 0, none⟩) n l → ¬ F2 g → zaR Y bB r → ¬ F2 bB → Tz64M Y → ¬ F2 1 → KeepsG (fun k => F k ∨ k = g) F2 X Y →
          ∀ Y2, Below Y.heap.size Y Y2 → ((els left = (don ++ [ctz q]) ++ els (qV q) ∧ qV q < 2 ^ 64) ∧ J (pre ++ (don ++ [ctz q]).flatMap G) F2 Y2 ∧ OwnS zw 3 n0 Y2 (some ⟨g, 0, none⟩) n l ∧ ¬ F2 g ∧ zaR Y2 bB r ∧ ¬ F2 bB ∧ Tz64M Y2 ∧ ¬ F2 1 ∧ KeepsG (fun k => F k ∨ k = g) F2 X Y2) :=
        fun {Y F2} a1 a2 a3 a4 a5 a6 a7 a8 Y2 hb => ⟨⟨by rw [he]; simp, by omega⟩, hJ.step _ _ _ _ a1 (.below hb), a2.below hb, a3, zc hb a4, a5, a6.below hb, a7, a8.trans (KeepsG.below hb fun k h => .inl h)⟩
      refine DrawE.ord [18, 20] [0, 1, 2, 3, 4, 5, 6, 7, 8, 9, 10, 11, 12, 13, 14, 15, 16, 19, 17, 18, 20, 21, 22] (by kernel_rfl) ?_
      have hdZ : Below Z.heap.size Z Z.drew := (Gb _ _).drew
      refine ⟨ctz q, Gj Nat.cast hd.symm, hc48, ?_⟩
      refine ⟨_, zea (hdr hRZ) hc48, ?_⟩
      refine ⟨_, zas (hr _ hc48) hlt64, ?_⟩
      refine Gg (fun hb => ?_) (fun hb => ?_)
      · have hb : r.to (ctz q) &&& left = 0 := Uz (Qd hb)
        have hGc : G (ctz q) = j0 r.to m (zaz left (2 ^ ctz q)) (l ++ [ctz q]) := by rw [hG]; exact Gp hb
        refine ⟨by omega, ((2 ^ ctz q : Nat) : Int), by rw [hd]; exact zar (e := ctz q) (by omega), ?_⟩
        refine ⟨_, zb0 hlt64 (qc (by omega)), ?_⟩
        refine ⟨⟨by decide, by decide, rfl⟩, zw.enc (ctz q), by rw [hd]; rfl, ?_⟩
        have hba : Below Z.drew.heap.size Z.drew (Z.drew.alloc (.cells (zw.enc (ctz q)).toArray 3)) := (Gb _ _).alloc (UW _) _
        refine ⟨hba, ?_⟩
        have hbA : Below Z.heap.size Z (Z.drew.alloc (.cells (zw.enc (ctz q)).toArray 3)) := hdZ.trans hba
        have hll := j3 hlt64 hmem
        refine zqF (E := zw) (l := l) (news := [ctz q]) (m := 1) Tryz.underlying66 (jM.get 3 _ rfl) rfl (hoZ.below hbA) rfl (qE zw (ctz q)) (by
          have : 1 ≤ (els left).length := by rw [he]; simp; omega
          omega) ?_
        intro Y oY gY
        have hjY := hJ.step _ _ _ _ (hJ.step _ _ _ _ hjZ (.below hbA)) (StepG.grown gY (.inl hgn) hgZ)
        have sA : (Z.drew.alloc (.cells (zw.enc (ctz q)).toArray 3)).heap.size = Z.heap.size + 1 := QF _ _
        have hRY : zaR Y bB r := (gY.block bB (hlt (zc hbA hRZ)) (by simpa using hbg)).trans (zc hbA hRZ)
        have htl := zau hTZ
        have hTY : Tz64M Y := jY (hTZ.below hbA) (gY.block _ (by omega) (by
          intro e
          have : 1 = g := by simpa using e
          omega))
        have hpre2 : ((pre ++ don.flatMap G) ++ j0 r.to m (zaz left (2 ^ ctz q)) (l ++ [ctz q])) <+: xs := by
          refine List.IsPrefix.trans ?_ hpre
          rw [he, ← hGc, Kh, KT]
          exact ⟨(els (qV q)).flatMap G, by simp only [KQ]⟩
        refine Gc (ih (qH left (2 ^ ctz q)) (l ++ [ctz q]) g (pre ++ don.flatMap G) F1 Y (by omega) (jW hlt64) (fun i hi => by
          rw [zcY hlt64 hmem] at hi
          exact h48 i (QT.1 hi).1) (by simp only [List.length_append, Qt, QO]; omega) oY hgZ hjY hRY hbZ hbn hbg hTY htZ hpre2) ?_
        rintro e V (⟨rfl, F2, hjV, kV, oV, hgV⟩ | ⟨rfl, pre', F2, hp', hjx⟩)
        · refine brF ?_
          have kZY : KeepsG (fun k => F1 k ∨ k = g) (fun k => F1 k ∨ k = g) Z Y := (KeepsG.below hbA fun k h => .inl h).trans (KeepsG.grown gY (.inr rfl))
          have kW : KeepsG (fun k => F k ∨ k = g) F2 X V := ((kZ.more (.inr rfl)).trans kZY).trans kV
          have sY := gY.size
          have kYV := kV.size
          have hbV : ¬ F2 bB := fun h => by
            have := hlt hRY
            rcases kV.fp bB h with (h | h) | h
            · exact hbZ h
            · exact hbg h
            · omega
          have htV : ¬ F2 1 := fun h => by
            rcases kV.fp _ h with (h | h) | h
            · exact htZ h
            · omega
            · omega
          have hRV : zaR V bB r := (kV.same bB (hlt hRY) (fun h => h.elim hbZ hbg)).trans hRY
          have hTV : Tz64M V := jY hTY (kV.same _ (by omega) (fun h => h.elim htZ fun e => by omega))
          refine ⟨((q - 1 : Nat) : Int), (w64 (a := (q : Int) - 1) (by omega)).trans (by omega), ?_⟩
          refine ⟨((qV q : Nat) : Int), zas (a := q) (b := q - 1) hq (by omega), ?_⟩
          refine Gc (zbi (s := qV q) (by omega) hTV) ?_
          rintro e U ⟨rfl, hbU⟩
          exact ⟨(qV q, don ++ [ctz q], F2), ⟨.cons rfl (.cons rfl (.cons rfl (.cons rfl (.cons rfl (.cons rfl (.cons rfl .nil)))))), rfl⟩, next (by rw [hpa, hGc, ← KQ]; exact hjV) oV.pref hgV hRV hbV hTV htV kW U hbU, e2⟩
        · refine brT ?_
          exact .inr ⟨rfl, pre', F2, hp', hjx⟩
      · have hb : ¬ r.to (ctz q) &&& left = 0 := fun e => (KJ hb) (by rw [e]; rfl)
        have hGc : G (ctz q) = [] := by rw [hG]; exact Gn hb
        refine brF ?_
        refine ⟨((q - 1 : Nat) : Int), (w64 (a := (q : Int) - 1) (by omega)).trans (by omega), ?_⟩
        refine ⟨((qV q : Nat) : Int), zas (a := q) (b := q - 1) hq (by omega), ?_⟩
        refine Gc (zbi (s := qV q) (by omega) (hTZ.below hdZ)) ?_
        rintro e Y ⟨rfl, hbY⟩
        exact ⟨(qV q, don ++ [ctz q], F1), ⟨.cons rfl (.cons rfl (.cons rfl (.cons rfl (.cons rfl (.cons rfl (.cons rfl .nil)))))), rfl⟩, next (by rw [hpa, hGc, QK]; exact hjZ) hoZ hgZ hRZ hbZ hTZ htZ kZ Y (hdZ.trans hbY), e2⟩
    · have hc : (els q).isEmpty = true := by simpa using hc
      have := zdj hq hc
      subst this
      rw [zaC, QK] at he
      rw [he]
      exact .inl ⟨rfl, F1, hjZ, kZ, hoZ, hgZ⟩
end
section
variable {r:RelD}
theorem zsF {bx:Nat} {W0:Wd} (hr:zZ r.to) (hn:r.n<=48) (fx:zaR W0 bx r) (hT:Tz64M W0) :
  zh6 PG 148 [At0 bx] (za3 r) W0 (fun k=>k=bx\/k=1) (fun _=>False) StO:=by
 intro yl F0 J Jx W hsz hrd hrf hJ hJx hy h0;have fxW:zaR W bx r:=(hrd bx (.inl (.inl rfl))).trans fx;have hTW:Tz64M W:=jY hT (hrd _ (.inl (.inr rfl)));refine zI 17 [.func (.yield yl) #[] #[],At0 bx] Tryz.func148 ?_;refine⟨zi r,zk _,za fxW,hlt fxW,cmo (znl hr hTW) ?_⟩;rintro e X ⟨rfl,hbX⟩;refine biE (fun h=>?_) fun h=>?_
 ·have h:zhd r=false:=by
   have h:(!zhd r)=true:=h;simpa using h
  have hs:za3 r=[]:=by unfold za3;rw [h];rfl
  rw [hs];exact⟨⟨_,rfl⟩,.inl ⟨F0,hJ.step _ _ _ _ h0 (.below hbX)⟩⟩
 have h:zhd r=true:=by
  have h:(!zhd r)=false:=h;simpa using h
 have hs:za3 r=j0 (zQ r).to 64 (jP r.n) []:=by unfold za3;rw [h];rfl
 rw [hs] at hy ⊢;refine⟨zi r,zk _,za (zc hbX fxW),hlt (zc hbX fxW),cmo (zll hr (hTW.below hbX)) ?_⟩;rintro e Y ⟨rfl,hbY,hrB⟩;have hbXY:=zst hbX hbY;refine zn (X:=Y) (v := .agg (zi (zQ r)).toArray) k48 (zk _) (by kernel_rfl) (qo _) fun V hbV fV sV=>?_;have hbV2:=zst hbXY hbV;have fxV:=zc hbV2 fxW;have hTV:=hTW.below hbV2;have hok:okR r=true:=by
  unfold zhd zd1 at h
  split at h
  ·assumption
  ·simp at h
 obtain⟨p0,p48,_⟩:=zaP hok;obtain⟨n,hnn⟩:∃ n:Nat,r.n=n:=⟨r.n.toNat,by omega⟩;have hn48:n<=48:=by omega
 have hal:els (j9 n)=List.range n:=zdk (by omega);have wY:=hbXY.size;have hbVF:¬ F0 Y.heap.size:=fun h=>by have:=(hJ.lt _ _ _ _ h0 h).1;omega
 have htl:=zau hTW;have hJn:JG W.heap.size (fun _=>False) (fun pre F Z=>J pre F Z/\W.heap.size<=Z.heap.size):=⟨fun s F A B ⟨h,hn⟩ hs=>⟨hJ.step _ _ _ _ h hs,UM hn hs.size⟩,fun s F A k ⟨h,_⟩ hk=>hJ.lt _ _ _ _ h hk⟩;have hal2:jP r.n=j9 n:=by rw [zaj,hnn]
 have main:∀ Z:Wd,OwnS zw 3 V.heap.size Z (some ⟨V.heap.size,0,none⟩) n []->Bw V Z->Calls PG 150 #[At0 Y.heap.size,s64 (j9 n),.slice (some ⟨V.heap.size,0,none⟩) 0 n,.func (.yield yl) #[] #[]] Z fun e Y2=>(∃ v,e = .returned v)/\((∃ F',J (j0 (zQ r).to 64 (jP r.n) []) F' Y2)\/∃ pre F',pre <+: j0 (zQ r).to 64 (jP r.n) []/\Jx pre F' Y2):=by
  intro Z oZ hbZ;have hbWZ:Bw W Z:=zst hbV2 hbZ;refine cmo (zoA (l:=[]) (J:=fun pre F Z=>J pre F Z/\W.heap.size<=Z.heap.size) (Jx:=Jx) (n0:=W.heap.size) (n:=n) (bB:=Y.heap.size) (r:=zQ r) (xs:=j0 (zQ r).to 64 (jP r.n) []) hJn (fun _ _ _ h=>h.2) (fun pre x vs F W1 ⟨hj,hn⟩ hst hpre=>YieldR.mono (hy pre x vs F W1 hj hst hpre) fun v W2 h=>?_) hrB hn48 htl 64 (j9 n) V.heap.size [] F0 Z (zew _) (zaF _) (fun i hi=>by
   rw [hal] at hi;have:=Uo.1 hi;omega) (by rw [hal];simp) (oZ.lower hbV2.size) (fun h=>?_) ⟨hJ.step _ _ _ _ h0 (.below hbWZ),hbWZ.size⟩ (zc hbZ fV) hbVF wY (by omega) (hTV.below hbZ) (hrf _ (.inr rfl)) (by rw [hal2];exact List.prefix_refl _)) ?_
  ·rcases h with ⟨rfl,F',h1,h2⟩ | h
   ·exact .inl ⟨rfl,F',⟨h1,UM hn h2.size⟩,h2⟩
   ·exact .inr h
  ·have:=(hJ.lt _ _ _ _ h0 h).1;have:=hbV2.size;omega
  ·rintro e Y2 (⟨rfl,F',⟨hj,_⟩,_⟩ | ⟨rfl,pre',F',h1,h2⟩)
   ·rw [hal2];exact⟨⟨_,rfl⟩,.inl ⟨F',hj⟩⟩
   ·exact⟨⟨_,rfl⟩,.inr ⟨pre',F',h1,h2⟩⟩
 refine DrawE.treeQ [7] (.op 0 (.op 1 (.op 3 (.op 4 (.op 6 (.alt (.op 2 (.op 5 (.op 7 .nil))) (.op 5 (.op 2 (.op 7 .nil))))))))) (by kernel_rfl) ⟨i64 n,by rw [<- hnn];exact zb (za fxV) (i:=0) rfl,i64 n,by rw [<- hnn];exact zb (za fxV) (i:=0) rfl,Gg ?_ ?_⟩
 ·refine cmo zh8 ?_;rintro e _ ⟨rfl,rfl⟩;refine⟨Gb _ _,zcT (E:=zw) Tryz.underlying66 k3 rfl rfl rfl n (by show 8*n<=_;omega) (by unfold maxLen;omega) fun Z oZ hbZ sZ=>⟨hbZ,cmo (main Z oZ (((Gb _ V).drew).trans hbZ)) ?_⟩⟩;rintro e Y2 ⟨⟨v,rfl⟩,h⟩;exact⟨⟨_,rfl⟩,h⟩
 ·refine zcT (E:=zw) Tryz.underlying66 k3 rfl rfl rfl n (by show 8*n<=_;omega) (by unfold maxLen;omega) fun Z oZ hbZ sZ=>⟨hbZ,cmo zh8 ?_⟩;rintro e _ ⟨rfl,rfl⟩;refine⟨Gb _ _,cmo (main Z oZ (((Gb _ V).drew).trans hbZ)) ?_⟩;rintro e Y2 ⟨⟨v,rfl⟩,h⟩;exact⟨⟨_,rfl⟩,h⟩
theorem zr2 {w:Wd}:Calls PG 108 #[.agg (zi r).toArray] w fun e w'=>e = .returned (.func (.func 148) #[] #[At0 w.heap.size])/\zaR w' w.heap.size r/\w'.heap.size=w.heap.size+1/\Bw w w':=by
 refine zI 4 [.agg (zi r).toArray] Tryz.func108 ?_;exact⟨rfl,zz w _,wz _ _,(zba w _)⟩
theorem zns {b:Nat} {m:Nat} {w:Wd} (hr:zZ r.to) (fb:zaR w b r):CB 107 #[At0 b,i64 m] w (.bool (decide (m<=10000)&&okR r)):=by
 refine zI 17 [At0 b,i64 m] Tryz.func107 ?_;refine biE (fun h=>?_) fun h=>?_
 ·refine biE (fun h2=>?_) fun h2=>?_
  ·have h2:(m:Int)<=10000:=dT h2;refine⟨zi r,zk _,za fb,hlt fb,cmo (zbI hr) ?_⟩;rintro e Y ⟨rfl,hbY⟩;exact⟨rb (by rw [Us (show m<=10000 by omega),Uy]),hbY⟩
  ·have h2:¬ (m:Int)<=10000:=dF h2;exact⟨rb (by rw [Uh (show ¬ m<=10000 by omega),Uj]),Gb _ _⟩
 ·have h:¬ (0:Int)<=m:=dF h;omega
end
def qT:Enc (List Nat×OA×Nat) where
 sz:=1
 enc x:=[.slice x.2.1 x.1.length x.2.2]
 len x:=rfl
 one x v hv:=by
  simp at hv;subst hv;rfl
 pos:=by decide
theorem zps {p:OA} {cap:Nat} {l:List Nat} {w:Wd} (hl:SlR zw w p l) (hn:l.length<=100000) (hc:p=none->cap=0) :
  Calls PG 109 #[.slice p l.length cap] w fun e w'=>(∃ q c,e = .returned (.slice q l.length c)/\OwnS zw 3 w.heap.size w' q c l)/\Bw w w':=by
 refine zI 8 [.slice p l.length cap] Tryz.func109 ?_;refine⟨_,fun w=>zrJ Tryz.underlying66 _ _ p l.length cap w,?_⟩
 cases p with
 | none =>
  refine brT ?_;have e:=hl.none;subst e;exact⟨⟨none,0,rfl,OwnS.nil⟩,Gb _ _⟩
 | some a =>
  refine brF ⟨⟨by decide,by decide,rfl⟩,[],rfl,?_⟩;have hb0:Bw w (w.alloc (.cells #[] 3)):=zba w _;refine zfS (E:=zw) (T:=3) (B:=w.heap.size) (l:=[]) (news:=l) (cap:=0) Tryz.underlying66 k3 rfl rfl rfl zgi rfl (hl.below hb0) (fun h=>by cases h) hb0.size (by simp;omega) (by show (0+l.length)*8<=_;omega) ?_;intro p' cap' w' ho hg hbw;exact⟨⟨p',cap',rfl,ho⟩,hb0.trans hbw⟩
def zr5 (B:Nat) (F:Nat->Prop) (Y:Wd) (x:List Nat×OA×Nat):Prop:=OwnS zw 3 B Y x.2.1 x.2.2 x.1/\∀ a,x.2.1=some a->F a.block
theorem zeZ (B:Nat):zh5 66 85 (zr5 B):=by
 rintro F G Y Z x ⟨h1,h2⟩ hs hFG;refine⟨h1.same fun a ha=>?_,fun a ha=>hFG _ (h2 a ha)⟩;obtain⟨_,_,cur,hc⟩:=zq h1 ha;exact hs _ cur 3 (h2 a ha) hc (by decide) (by decide)
theorem zp9 {before:Nat->Nat}:∀ (m left:Nat) (l:List Nat),∀ x∈j0 before m left l,x.length<=l.length+m:=by
 intro m
 induction m with
 | zero =>
  intro left l x hx;unfold j0 at hx
  split at hx
  ·simp only [KB] at hx;subst hx;omega
  ·cases hx
 | succ m ih =>
  intro left l x hx;unfold j0 at hx
  split at hx
  ·simp only [KB] at hx;subst hx;omega
  ·obtain⟨a,_,ha⟩:=List.mem_flatMap.1 hx
   split at ha
   ·have:=ih _ _ _ ha;simp only [lap,Qt,QO] at this;omega
   ·cases ha
theorem zlO {r:RelD} {x:List Nat} (h:x∈za3 r):x.length<=64:=by
 unfold za3 at h
 split at h
 ·have:=zp9 _ _ _ x h;simpa using this
 ·cases h
def AscB (xs:List (List Nat×OA×Nat)):Prop:=xs.Pairwise fun x y=>∀ a b,x.2.1=some a->y.2.1=some b->a.block<b.block
theorem AscB.snoc {xs:List (List Nat×OA×Nat)} {n:Nat} {y:List Nat×OA×Nat} (h:AscB xs) (h1:∀ x∈xs,∀ a,x.2.1=some a->a.block<n) (h2:∀ a,y.2.1=some a->n<=a.block):AscB (xs++[y]):=by
 unfold AscB;rw [List.pairwise_append];refine⟨h,List.pairwise_singleton _ _,fun x hx z hz a b ha hb=>?_⟩;rw [KB.1 hz] at hb;exact nL (h1 x hx a ha) (h2 b hb)
abbrev zsx:List (List Nat×OA×Nat):=[]
theorem zpl {r:RelD} {m:Nat} {w:Wd} (hr:zZ r.to) (hT:Tz64M w) (hm:m<=10000) (hok:okR r=true) :
  Calls PG 81 #[.agg (zi r).toArray,i64 m] w fun e w' =>
   (((za3 r).length<=m/\∃ (xs:List (List Nat×OA×Nat)) (p:OA) (c:Nat),e = .returned (.tuple #[.slice p xs.length c,i64 0])/\xs.map (·.1)=za3 r/\AscB xs/\OwnS qT 66 w.heap.size w' p c xs/\∀ x∈xs,OwnS zw 3 w.heap.size w' x.2.1 x.2.2 x.1) \/
    (m<(za3 r).length/\e = .returned (.tuple #[.slice none 0 0,i64 5])))/\Bw w w':=by
 refine je 24 [.agg (zi r).toArray,i64 m] (.c .p (.s .p (.c .p .p))) Tryz.func81 ?_;obtain⟨L,hL⟩:=nm (w.heap.size);refine⟨Unit,fun _=>⟨[(2,At0 L),(3,At0 (L+1)),(4,At0 (L+2)),(5,At0 (L+3))],[]⟩,fun _ X=>(zaR X L r/\X.heap[L+1]?=some (.cells #[i64 m] 3 (0,0))/\X.heap[L+2]?=some (.cells #[.slice none 0 0] 85 (0,0))/\X.heap[L+3]?=some (.cells #[i64 0] 34 (0,0)))/\X.heap.size=L+4/\Bw w X,?_,?_⟩
 ·have s1:=wz w (.cells (zi r).toArray 48);have h2:=zz (w.alloc (.cells (zi r).toArray 48)) (.cells #[i64 m] 3 (0,0));have s2:=wz (w.alloc (.cells (zi r).toArray 48)) (.cells #[i64 m] 3 (0,0));have h3:=zz ((w.alloc (.cells (zi r).toArray 48)).alloc (.cells #[i64 m] 3 (0,0))) (.cells #[.slice none 0 0] 85 (0,0));have s3:=wz ((w.alloc (.cells (zi r).toArray 48)).alloc (.cells #[i64 m] 3 (0,0))) (.cells #[.slice none 0 0] 85 (0,0));have h4:=zz (((w.alloc (.cells (zi r).toArray 48)).alloc (.cells #[i64 m] 3 (0,0))).alloc (.cells #[.slice none 0 0] 85 (0,0))) (.cells #[i64 0] 34 (0,0));have s4:=wz (((w.alloc (.cells (zi r).toArray 48)).alloc (.cells #[i64 m] 3 (0,0))).alloc (.cells #[.slice none 0 0] 85 (0,0))) (.cells #[i64 0] 34 (0,0));rw [s1] at h2 s2;rw [s2] at h3 s3;rw [s3] at h4 s4;rw [<- hL] at h2 s2 h3 s3 h4 s4;have f0:=qF (.cells #[i64 0] 34 (0,0)) (qF (.cells #[.slice none 0 0] 85 (0,0)) (qF (.cells #[i64 m] 3 (0,0)) (zz w (.cells (zi r).toArray 48))));rw [<- hL] at f0;exact⟨(),⟨.cons (by rw [hL];rfl) (.cons (by rw [hL,<- s1];rfl) (.cons (by rw [<- s2];rfl) (.cons (by rw [<- s3];rfl) .nil))),rfl⟩,⟨f0,qF _ (qF _ h2),qF _ h3,h4⟩,s4,((((zba w _)).alloc (by simp) _).alloc (by simp;omega) _).alloc (by simp;omega) _⟩
 rintro _ X ⟨⟨f0,f1,f2,f3⟩,sX,hbX⟩;refine⟨_,zb (za f1) (i:=0) rfl,cmo (zns hr f0) ?_⟩;rintro e Y ⟨rfl,hbY⟩;refine brN (by rw [hok,Us hm];rfl) ?_;have hwY:=zst hbX hbY;obtain⟨M,hM⟩:=nm (Y.heap.size);have hMX:L+4<=M:=by have:=hbY.size;omega
 refine⟨Unit,fun _=>⟨[(2,At0 L),(3,At0 (L+1)),(4,At0 (L+2)),(5,At0 (L+3)),(6,At0 M)],[]⟩,fun _ V=>V.heap[M]?=some (.cells #[.slice none 0 0] 85 (0,0))/\V.heap.size=M+1/\Bw X V,?_,?_⟩
 ·exact⟨(),⟨.cons rfl (.cons rfl (.cons rfl (.cons rfl (.cons (by rw [hM];rfl) .nil)))),rfl⟩,by rw [hM];exact zz Y _,by rw [hM];exact wz Y _,hbY.alloc hbY.size _⟩
 rintro _ V ⟨fM,sV,hbV⟩;have hwV:=zst hbX hbV;have f0:=zc hbV f0;have f1:=zc hbV f1;have f2:=zc hbV f2;have f3:=zc hbV f3;refine⟨zi r,zk _,za f0,hlt f0,cmo zr2 ?_⟩;rintro e W ⟨rfl,fx,sW,hbW⟩;obtain⟨p0,p48,_⟩:=zaP hok;have hwW:=zst hwV hbW;have htl:=zau hT;have hI:=zsF hr p48 fx (hT.below hwW);have f1:=zc hbW f1;have f2:=zc hbW f2;have f3:=zc hbW f3;have fM:=zc hbW fM;have hwL:w.heap.size=L:=hL.symm;clear hbV hbY hwY hbX f0 sX;refine zcO (zbc _) rfl (lb := #[At0 V.heap.size]) rfl rfl hI (UW _) (fun k hk=>⟨?_,rfl⟩) (fun pre vs W ⟨l,q,c,_,h,_⟩=>by rw [h];rfl) (by decide)
  (fun k=>k=M\/k=L+2\/k=L+3)
  (fun pre F Z=>(∃ xs,(xs.map (·.1)=pre/\pre.length<=m/\AscB xs)/\Gath qT 66 85 (L+4) W.heap.size M W (zr5 (L+4)) xs F Z)/\F (L+2)/\F (L+3))
  (fun ex pre F Z=>ex = .ret/\m<(za3 r).length/\Z.heap[L+2]?=some (.cells #[.slice none 0 0] 85 (0,0))/\Z.heap[L+3]?=some (.cells #[i64 5] 34 (0,0))/\Bw w Z/\W.heap.size<=Z.heap.size/\F (L+2)/\F (L+3)/\∀ k,F k->k<Z.heap.size)
  (fun k hk=>?_) ⟨?_,?_⟩ (fun ex=>⟨?_,?_⟩) ?_ ?_ ?_ ?_
 ·rcases hk with (rfl | rfl) | h
  ·omega
  ·have:=hwW.size;omega
  ·exact h.elim
 ·rcases hk with rfl | rfl <;> omega
 ·rintro pre F A C ⟨h,h2,h3⟩ hs;exact⟨(Gath.iter (σ:=List (List Nat)) (f:=fun pre xs=>xs.map (·.1)=pre/\pre.length<=m/\AscB xs) (zeZ (L+4)) (by omega)).step pre F A C h hs,h2,h3⟩
 ·rintro pre F A k ⟨h,_⟩ hk;exact (Gath.iter (σ:=List (List Nat)) (f:=fun pre xs=>xs.map (·.1)=pre/\pre.length<=m/\AscB xs) (zeZ (L+4)) (by omega)).lt pre F A k h hk
 ·rintro pre F A C ⟨h1,h2,h3,h4,h5,h6,h7,h8,h9⟩ hs;exact⟨h1,h2,(hs.same _ (hlt h3) (.inr h7)).trans h3,(hs.same _ (hlt h4) (.inr h8)).trans h4,h5.trans ⟨hs.os,hs.tape,hs.output,hs.size,fun k hk=>hs.same k (nL hk h5.size) (.inl ⟨by omega,fun h=>h⟩)⟩,UM h6 hs.size,h7,h8,fun k hk=>nL (h9 k hk) hs.size⟩
 ·rintro pre F A k ⟨h1,h2,h3,h4,h5,h6,h7,h8,h9⟩ hk;exact⟨h9 k hk,fun h=>h⟩
 ·refine⟨⟨zsx,⟨rfl,UZ _,List.Pairwise.nil⟩,⟨UW _,.inl rfl,fun k hk=>?_,⟨none,0,fM,OwnS.nil,fun a h=>by cases h⟩,fun x hx=>(by cases hx),Gb _ _⟩⟩,.inr (.inl rfl),.inr (.inr rfl)⟩;rcases hk with rfl | rfl | rfl <;> omega
 ·rintro yl pre x vs F Y hyl hpre hJ ⟨l,q,c,hlast,rfl,hsl,hqc,hcel⟩ hfy ⟨lo,hlo⟩;have hxR:x=l:=by simpa using hlast
  subst hxR;refine⟨rfl,F,KeepsG.refl _ _,hJ,?_⟩;rintro o Y2 hY2 ⟨⟨xs,⟨hxs,hpm,hasc⟩,hG⟩,hF2,hF3⟩;have hpl:pre.length<(za3 r).length:=by
   obtain⟨t,ht⟩:=hpre;rw [<- ht];simp only [lap,Qt];omega
  have hxl:xs.length=pre.length:=by rw [<- hxs,QN]
  have hmem:x∈za3 r:=hpre.subset (by simp);have hlen:=zlO hmem;have hslY:SlR zw Y2 q x:=by
   rw [hY2];refine qS hsl fun a ha=>zg fun e=>?_;obtain⟨cur,hcur⟩:=hcel a ha;rw [e,hlo] at hcur
   cases hcur
  obtain⟨p,c',h4,h5,h6⟩:=hG.row;have hWL:L+4<=W.heap.size:=by omega
  have g1:Y2.heap[L+1]?=some (.cells #[i64 m] 3 (0,0)):=(hG.old.block _ (by omega)).trans f1;refine⟨_,zb (za h4) (i:=0) rfl,_,zb (za g1) (i:=0) rfl,biE (fun hc=>?_) fun hc=>?_⟩
  ·have hc:((xs.length:Nat):Int)=(m:Int):=dT hc;have g2:Y2.heap[L+2]?=some (.cells #[.slice none 0 0] 85 (0,0)):=(hG.old.block _ (by omega)).trans f2;have g3:Y2.heap[L+3]?=some (.cells #[i64 0] 34 (0,0)):=(hG.old.block _ (by omega)).trans f3;refine zj k85 g2 (o:=0) (v := .slice none 0 0) rfl rfl (by show 0<1;decide) rfl fun Z1 fZ1 gZ1 sZ1=>zj k34 ((gZ1.block (L+3) (hlt g3) (by simp)).trans g3) (o:=0) (v:=i64 5) rfl rfl (by show 0<1;decide) rfl fun Z2 fZ2 gZ2 sZ2=>⟨F,⟨rfl,by omega,(gZ2.block (L+2) (hlt fZ1) (by simp)).trans fZ1,fZ2,?_,by have:=hG.size;omega,hF2,hF3,fun k hk=>by have:=hG.lt k hk;omega⟩,(KeepsG.grown gZ1 hF2).trans (KeepsG.grown gZ2 hF3)⟩;have hwY:=hwW.trans (hG.old.mono (by omega));exact (hwY.trans (zh gZ1 hwY.size (by omega))).trans (zh gZ2 (by have:=hwY.size;omega) (by omega))
  ·have hc:¬ ((xs.length:Nat):Int)=(m:Int):=dF hc;refine DrawE.ord [4,5] [0,1,2,3,4,5] (by kernel_rfl) ?_;have hd2:Bw Y2 Y2.drew:=(Gb _ _).drew;refine⟨_,zb (za (hdr h4)) (i:=0) rfl,cmo (zps (hslY.below hd2) (by omega) hqc) ?_⟩;rintro e Y3 ⟨⟨q1,k1,rfl,o1⟩,hb3⟩;refine⟨hb3,?_⟩;obtain⟨nx,hnx⟩:∃ nx:List Nat×OA×Nat,nx=(x,q1,k1):=⟨_,rfl⟩;have hen:[Value.slice q1 x.length k1]=qT.enc nx:=by rw [hnx];rfl
   refine⟨⟨by decide,by decide,rfl⟩,qT.enc nx,by rw [<- hen];rfl,?_⟩;have hba:Bw Y3 (Y3.alloc (.cells (qT.enc nx).toArray 66)):=zba _ _;refine⟨hba,?_⟩;have hnw:∀ (G:Nat->Prop) (Z:Wd),(∀ k,Y2.heap.size<=k->k<Y3.heap.size->Z.heap[k]?=Y3.heap[k]?)->(∀ k,Y2.heap.size<=k->k<Y3.heap.size->G k)->zr5 (L+4) G Z nx:=by
    intro G Z hs hg;rw [hnx];have ol:∀ a,q1=some a->Y2.heap.size<=a.block/\a.block<Y3.heap.size:=fun a ha=>⟨(zq o1 ha).1,(zq o1 ha).2.1⟩;have hY2s:=hG.size;exact⟨OwnS.lower (o1.same fun a ha=>hs _ (ol a ha).1 (ol a ha).2) (by show L+4<=Y2.heap.size;omega),fun a ha=>hg _ (ol a ha).1 (ol a ha).2⟩
   obtain⟨v,Y5,hrun,Z,hrun2,F',hG',hK',hFF⟩:=hG.step (P:=PG) (ty:=85) (cap1:=1) (zeZ (L+4)) (by decide) Tryz.underlying85 k66 rfl rfl rfl k85 rfl (by omega) (by omega) (hd2.trans hb3) nx (by omega) (by show (xs.length+1)*24<=_;omega) hnw p c' h4;exact SatR.mk hrun (SatR.mk hrun2 ⟨F',⟨⟨_,⟨by rw [QR,hxs,hnx];rfl,by simp only [lap,Qt,QO];omega,hasc.snoc (n:=Y2.heap.size) (fun x' hx' a ha=>(zq (hG.nest x' hx').1 ha).2.1) (fun a ha=>by rw [hnx] at ha;exact (zq o1 ha).1)⟩,hG'⟩,hFF _ hF2,hFF _ hF3⟩,hK'⟩)
 ·rintro D F Y hD hfD ⟨⟨xs,⟨hxs,hpm,hasc⟩,hG⟩,hF2,hF3⟩ hdef;obtain⟨p,c',h4,h5,h6⟩:=hG.row;have hWL:L+4<=W.heap.size:=by omega
  have g2:Y.heap[L+2]?=some (.cells #[.slice none 0 0] 85 (0,0)):=(hG.old.block _ (by omega)).trans f2;have g3:Y.heap[L+3]?=some (.cells #[i64 0] 34 (0,0)):=(hG.old.block _ (by omega)).trans f3;refine⟨_,zb (za h4) (i:=0) rfl,zj k85 g2 (o:=0) (v := .slice p xs.length c') rfl rfl (by show 0<1;decide) rfl fun Z1 fZ1 gZ1 sZ1=>zj k34 ((gZ1.block (L+3) (hlt g3) (by simp)).trans g3) (o:=0) (v:=i64 0) rfl rfl (by show 0<1;decide) rfl fun Z2 fZ2 gZ2 sZ2=>?_⟩;have k2:∀ k,k<Y.heap.size->k≠L+2->k≠L+3->Z2.heap[k]?=Y.heap[k]?:=fun k hk n1 n2=>(gZ2.block k (by rw [sZ1];exact hk) (by simpa using n2)).trans (gZ1.block k hk (by simpa using n1));refine⟨_,rfl,(k2 D (hlt hdef) (by omega) (by omega)).trans hdef,?_⟩;have f2':=(gZ2.block (L+2) (hlt fZ1) (by simp)).trans fZ1;have nD2:D≠L+2:=fun e=>hfD (e▸hF2);have nD3:D≠L+3:=fun e=>hfD (e▸hF3);have hwY:=hwW.trans (hG.old.mono (by omega));have b2:=(hwY.trans (zh gZ1 hwY.size (by omega))).trans (zh gZ2 (by have:=hwY.size;omega) (by omega));have kp:∀ a:Addr,L+4<=a.block->F a.block->a.block<Y.heap.size->(Z2.putObj D (.deferred none)).heap[a.block]?=Y.heap[a.block]?:=fun a h1 h2 h3=>(zg fun e=>by rw [<- e] at hfD;exact hfD h2).trans (k2 _ h3 (by omega) (by omega));refine⟨.slice p xs.length c',zb (za ((zg fun e=>nD2 e.symm).trans f2')) (i:=0) rfl,i64 0,zb (za ((zg fun e=>nD3 e.symm).trans fZ2)) (i:=0) rfl,.inl ⟨by rw [<- hxs,QN] at hpm ⊢;exact hpm,xs,p,c',rfl,hxs,hasc,?_,fun x hx=>?_⟩,qO b2 (by omega) _⟩
  ·exact OwnS.lower (h5.same fun a ha=>kp a (zq h5 ha).1 (h6 a ha) (zq h5 ha).2.1) (by omega)
  ·obtain⟨hx1,hx2⟩:=hG.nest x hx;exact OwnS.lower (hx1.same fun a ha=>kp a (zq hx1 ha).1 (hx2 a ha) (zq hx1 ha).2.1) (by omega)
 ·rintro D ex pre F Y hD hfD hpre ⟨rfl,hm2,h3,h4,h5,h6,h7,h8,h9⟩ hdef;refine⟨_,rfl,hdef,?_⟩;have nD2:D≠L+2:=fun e=>hfD (e▸h7);have nD3:D≠L+3:=fun e=>hfD (e▸h8);exact⟨_,zb (za ((zg fun e=>nD2 e.symm).trans h3)) (i:=0) rfl,_,zb (za ((zg fun e=>nD3 e.symm).trans h4)) (i:=0) rfl,.inr ⟨hm2,rfl⟩,qO h5 (by have:=hwW.size;omega) _⟩
theorem zpp {p:OA} {cap:Nat} {l:List Nat} {s:Nat} {w:Wd} (hl:SlR zw w p l) (hn:l.length<=140737488351232) :
  Calls PG 106 #[.slice p l.length cap,i64 s] w fun e w'=>∃ n:Int,e = .returned (i64 n)/\decide (0<=n)=l.any (fun q=>decide (q=s))/\w=w':=by
 refine zI 19 [.slice p l.length cap,i64 s] Tryz.func106 ?_;refine⟨Nat,fun k=>⟨[(0,.slice p l.length cap),(1,i64 s),(7,i64 l.length),(8,i64 (k:Nat))],[]⟩,fun k X=>k<=l.length/\(∀ q∈l.take k,¬ q=s)/\w=X,fun k=>l.length-k,0,(cvE rfl rfl),⟨UZ _,by simp,rfl⟩,?_⟩;rintro k _ ⟨hk,hno,rfl⟩;dsimp only at hk hno ⊢;refine biE (fun hc=>?_) fun hc=>?_
 ·have hc:(k:Int)<(l.length:Int):=dT hc;have hkl:k<l.length:=by omega
  obtain⟨b,o,rfl,hb,hat⟩:=hl.at hkl;refine⟨k,rfl,hkl,i64 l[k],zb (hat k hkl) (i:=0) rfl,biE (fun h=>?_) fun h=>?_⟩
  ·have h:(s:Int)=(l[k]:Nat):=dT h;refine⟨k,rfl,?_,rfl⟩;rw [Us (by omega)];symm;rw [Ql];exact⟨l[k],gM _,Us (by omega)⟩
  ·have h:¬ (s:Int)=(l[k]:Nat):=dF h;refine⟨(k+1:Nat),(ze (by omega)).trans (by omega),k+1,(cvE rfl rfl),⟨hkl,?_,rfl⟩,zdc (by omega)⟩;rw [tsg hkl];intro q hq;rcases QS.1 hq with hq | hq
   ·exact hno q hq
   ·simp only [KB] at hq;rw [hq];exact fun e=>h (by rw [e])
 ·have hc:¬ (k:Int)<(l.length:Int):=dF hc;obtain rfl:k=l.length:=by omega
  rw [Qx] at hno;refine⟨-1,rfl,?_,rfl⟩;symm;show _=false;rw [KO];exact fun q hq=>by simpa using hno q hq
theorem zkm {p:OA} {cap:Nat} {l:List Nat} {s:Nat} {w:Wd} (hl:SlR zw w p l) (hn:l.length<=140737488351232) :
  Calls PG 77 #[.slice p l.length cap,i64 s] w fun e w'=>e = .returned (.bool (l.any fun q=>decide (q=s)))/\w=w':=by
 refine zI 9 [.slice p l.length cap,i64 s] Tryz.func77 ?_;refine cmo (zpp hl hn) ?_;rintro e _ ⟨n,rfl,h,rfl⟩;exact⟨rb h,rfl⟩
abbrev zin (l:List Nat):List Value:=l.map fun n:Nat=>i64 n
abbrev RowI (Z:Wd) (g:Nat) (l:List Nat):Prop:=Z.heap[g]?=some (.cells (zin l).toArray 3 (0,0))
theorem zek:∀ l:List Nat,l.flatMap zw.enc=zin l
 | []=>rfl
 | a::l=>by
  show i64 a::l.flatMap zw.enc=i64 a::zin l;rw [zek l]
theorem zi2:∀ n,zbS [Value.int IntKind.i64 0] n=zin (List.replicate n 0)
 | 0=>rfl
 | n+1=>by
  show Value.int IntKind.i64 0::zbS [Value.int IntKind.i64 0] n=i64 0::zin (List.replicate n 0);rw [<- zi2 n];rfl
theorem RowI.sl {Z:Wd} {g:Nat} {l:List Nat} (h:RowI Z g l):SlR zw Z (some ⟨g,0,none⟩) l :=
 SlR.of_cells (hlt h) (by rw [zek];exact za h)
theorem zmM {α:Type} {f:Nat->α} {n j:Nat} (h:j<n):((List.range j).map f++[f j]) <+: (List.range n).map f:=by
 obtain⟨m,rfl⟩:∃ m,n=(j+1)+m:=⟨n-(j+1),by omega⟩;rw [List.range_add,QR];exact⟨_,by rw [QW,QR];rfl⟩
def StD (pre:List (List Nat)) (vs:List Value) (W:Wd):Prop:=∃ l q,pre.getLast?=some l/\vs=[.slice q l.length l.length]/\SlR zw W q l/\∀ a,q=some a->∃ cur,W.heap[a.block]?=some (.cells cur 3 (0,0))
section
variable {bx:Nat} {sizes:List Nat} {q:OA} {c:Nat} {W0:Wd}
theorem zqQ (fx:W0.heap[bx]?=some (.cells #[.slice q sizes.length c] 66 (0,0))) (hl:SlR zw W0 q sizes) (hql:∀ a,q=some a->a.block<W0.heap.size) (hn:sizes.length<=1000) (hm:∀ n∈sizes,n<=1000000) :
  zh6 PG 76 [At0 bx] (qb sizes) W0 (fun k=>k=bx\/∃ a,q=some a/\k=a.block) (fun _=>False) StD:=by
 intro yl F0 J Jx W hsz hrd hrf hJ hJx hy h0;have fxW:=(hrd bx (.inl (.inl rfl))).trans fx;have hlW:SlR zw W q sizes:=qS hl fun a ha=>hrd _ (.inl (.inr ⟨a,ha,rfl⟩));refine zI 43 [.func (.yield yl) #[] #[],At0 bx] Tryz.func76 ?_;refine⟨_,zb (za fxW) (i:=0) rfl,cmo (zkm (s:=0) hlW (by omega)) ?_⟩;rintro e _ ⟨rfl,rfl⟩;refine biE (fun h=>?_) fun h=>?_
 ·have h:(sizes.any fun q=>decide (q=0))=true:=h;obtain⟨z,hz,hz0⟩:=Ql.1 h;have hz0:z=0:=dT hz0;subst hz0;have hs:qb sizes=[]:=by unfold qb;rw [zdG (by simpa using hz)];rfl
  rw [hs];exact⟨⟨_,rfl⟩,.inl ⟨F0,h0⟩⟩
 have h:(sizes.any fun q=>decide (q=0))=false:=h;obtain⟨rs,hrs⟩:=nm (sizes.reverse);have hr0:∀ n∈rs,n≠0:=fun n hn e=>by
  rw [KO] at h;exact h n (by rw [hrs] at hn;simpa using hn) (Us e)
 have hlen:rs.length=sizes.length:=by rw [hrs,Kk]
 refine⟨_,zb (za fxW) (i:=0) rfl,zdd Tryz.underlying66 k3 rfl rfl (by decide) sizes.length (by show 8*_<=_;omega) (by omega) fun X fX hbX sX=>?_⟩;rw [zi2] at fX;obtain⟨D,hD⟩:∃ D:Nat->List Nat,D=fun j=>(j8 rs j).reverse:=⟨_,rfl⟩;have hDl:∀ j,(D j).length=sizes.length:=fun j=>by rw [hD];show ((j8 rs j).reverse).length=_;rw [Kk,zex,hlen]
 have hds:qb sizes=(List.range (zR rs)).map D:=by unfold qb;rw [hD,hrs]
 have hP:0<zR rs:=zhy hr0;have hD0:D 0=List.replicate sizes.length 0:=by
  rw [hD];show (j8 rs 0).reverse=_;rw [zhV,List.reverse_replicate,hlen]
 rw [<- hD0] at fX;rw [hds] at hy ⊢;obtain⟨g,hg⟩:=nm (W.heap.size);rw [<- hg] at fX;have hbxW:=hlt fxW;refine⟨Nat×(Nat->Prop),fun s=>⟨[(0,.func (.yield yl) #[] #[]),(1,At0 bx),(3,.slice (some ⟨g,0,none⟩) sizes.length sizes.length)],[]⟩,
  fun s Z=>s.1<zR rs/\J ((List.range s.1).map D) s.2 Z/\RowI Z g (D s.1)/\¬ s.2 g/\W.heap.size<=Z.heap.size/\Z.heap[bx]?=some (.cells #[.slice q sizes.length c] 66 (0,0))/\¬ s.2 bx/\RowF zw W.heap.size s.2 Z q sizes,
  fun s=>zR rs-s.1,(0,F0),⟨.cons rfl (.cons rfl (.cons (by rw [hg];rfl) .nil)),rfl⟩,
  ⟨hP,hJ.step _ _ _ _ h0 (.below hbX),fX,fun h=>by have:=(hJ.lt _ _ _ _ h0 h).1;omega,hbX.size,zc hbX fxW,hrf _ (.inl rfl),⟨hlW.below hbX,fun a ha=>⟨by have:=hql a ha;omega,hrf _ (.inr ⟨a,ha,rfl⟩)⟩⟩⟩,?_⟩
 rintro⟨j,F⟩ Z ⟨hj,hjZ,fZ,hgF,hWZ,fxZ,hbF,hqZ⟩;dsimp only at hj hjZ fZ hgF fxZ hbF hqZ ⊢;have hpre:((List.range j).map D++[D j]) <+: (List.range (zR rs)).map D:=zmM hj;refine YieldR.mono (hy _ (D j) [.slice (some ⟨g,0,none⟩) sizes.length sizes.length] F Z hjZ ⟨D j,_,by simp,by rw [hDl j],fZ.sl,fun a ha=>(by cases ha;exact⟨_,fZ⟩)⟩ hpre) ?_;rintro v Y (⟨rfl,F',hjY,kY⟩ | ⟨rfl,F',hjY⟩)
 ·refine brT ?_;have hgZ:=hlt fZ;have fY:RowI Y g (D j):=(kY.same g hgZ hgF).trans fZ;have hgF':¬ F' g:=fun h=>by
   rcases kY.fp g h with h | h
   ·exact hgF h
   ·omega
  have fxY:=(kY.same bx (hlt fxZ) hbF).trans fxZ;have hbF':¬ F' bx:=fun h=>by
   rcases kY.fp bx h with h | h
   ·exact hbF h
   ·have:=hlt fxZ;omega
  have hqY:=hqZ.keep hWZ kY (fun _ _ h=>h);have hWY:=UM hWZ kY.size;have hjY2:J ((List.range (j+1)).map D) F' Y:=by
   rw [QW,QR];exact hjY
  clear hjY hpre fZ fxZ hqZ hjZ hWZ hgZ hgF hbF kY;refine⟨((sizes.length:Nat):Int)-1,ze (by omega),?_⟩;have hgn:W.heap.size<=g:=by omega
  have hbg:bx≠g:=by omega
  refine⟨Nat,fun t=>⟨[(0,.func (.yield yl) #[] #[]),(1,At0 bx),(3,.slice (some ⟨g,0,none⟩) sizes.length sizes.length),(4,i64 (((sizes.length:Nat):Int)-1-(t:Nat)))],[]⟩,
   fun t V=>t<=sizes.length/\zg2 rs j t/\RowI V g ((List.replicate t 0++(j8 rs j).drop t).reverse)/\J ((List.range (j+1)).map D) F' V/\W.heap.size<=V.heap.size/\V.heap[bx]?=some (.cells #[.slice q sizes.length c] 66 (0,0))/\RowF zw W.heap.size F' V q sizes,fun t=>sizes.length-t,0,
   ⟨.cons rfl (.cons rfl (.cons rfl (.cons (by rw [Int.ofNat_zero,Int.sub_zero];rfl) .nil))),rfl⟩,⟨UZ _,zk9 _ _,by rw [hD] at fY;exact fY,hjY2,hWY,fxY,hqY⟩,?_⟩
  clear fY fxY hqY hjY2 hWY;rintro t V ⟨ht,hc,fV,hjV,hWV,fxV,hqV⟩;dsimp only at ht hc fV hjV ⊢;have hLl:(j8 rs j).length=sizes.length:=by rw [zex,hlen]
  refine DrawE.ord [] [0,1,2,3,4,5,6,7,8,9,10,11,12,13] (by kernel_rfl) (biE (fun hi=>?_) fun hi=>?_)
  ·have hi:(0:Int)<=((sizes.length:Nat):Int)-1-(t:Nat):=dT hi;have htl:t<sizes.length:=by omega
   obtain⟨i,hit⟩:∃ i,i+t+1=sizes.length:=⟨sizes.length-1-t,by omega⟩;have hii:((sizes.length:Nat):Int)-1-(t:Nat)=(i:Nat):=by omega
   rw [hii];obtain⟨d,hd⟩:∃ d,(j8 rs j)[t]?=some d:=⟨_,gE (by omega)⟩;obtain⟨n,hn⟩:∃ n,rs[t]?=some n:=⟨_,gE (by omega)⟩;have hil:i<sizes.length:=by omega
   have hsn:sizes[i]=n:=by
    have:=JL (l:=sizes) (i:=t) htl;rw [<- hrs,hn,show sizes.length-1-t=i by omega,gE hil] at this;exact (Uf this).symm
   have hnm:n∈sizes:=by rw [<- hsn];exact gM hil
   have hn1:=hm n hnm;have hn0:n≠0:=hr0 n (by rw [hrs];simpa using hnm);have zdt:=zrg hd (i:=i) (by omega);have hdn:d<n:=by
    obtain⟨A,ns,k,c1,c2,c3,c4,c5⟩:=hc
    cases ns with
    | nil=>rw [c1,QK,JK (by omega)] at hn;cases hn
    | cons m ns =>
     have hm':m=n:=by
      rw [c1,Jn (by omega),c2,UO] at hn;exact Uf hn
     have:=Gj (fun l=>l[0]?) c4;simp only [Kx,UL] at this;rw [hd] at this;have:d=k%m:=Uf this;rw [this,hm'];exact Gf _ (by omega)
   have hrl:((List.replicate t 0++(j8 rs j).drop t).reverse).length=sizes.length:=by simp;omega
   refine⟨i,rfl,hil,?_⟩;have hrc:(zin (List.replicate t 0++(j8 rs j).drop t).reverse)[i*1]?=some (i64 d):=by
    rw [UX,KV,zdt];rfl
   refine⟨i64 d,zb (za (hdr fV)) hrc,_,zb (za (hdr fxV)) (i:=0) rfl,?_⟩;obtain⟨bq,oq,hqe,hlq,hatq⟩:=hqV.row.at hil;subst hqe;refine⟨i,rfl,hil,i64 n,by rw [<- hsn];exact zb (zm (Gb _ V).drew (hatq i hil)) (i:=0) rfl,((n:Nat):Int)-1,ze (by omega),biE (fun he=>?_) fun he=>?_⟩
   ·have he:(d:Int)=(n:Int)-1:=dT he;have hrs2:=zlA hd (i:=i) (by omega) 0;refine⟨i,rfl,hil,zj k3 (hdr fV) (o:=0+i*1) (v:=i64 0) rfl rfl (by rw [QN,hrl];omega) rfl fun V1 fV1 gV1 sV1=>⟨((sizes.length:Nat):Int)-1-((t+1:Nat):Int),(ze (by omega)).trans (by omega),?_⟩⟩;have gV2:V.grownBy V1 (some g):=zd (zf (Gb _ V).drew) gV1;have kV:KeepsG (fun k=>k=g) (fun _=>False) V V1:=⟨gV2.os,gV2.tape,gV2.output,gV2.size,fun k hk hf=>gV2.block k hk (fun e=>hf (by cases e;rfl)),fun k h=>h.elim⟩;have hsV:=gV2.size;refine⟨t+1,(cvE rfl rfl),⟨htl,zlb hr0 hc hn hd (by omega),?_,hJ.step _ _ _ _ hjV (StepG.grown gV2 (.inl hgn) hgF'),by omega,(gV2.block bx (hlt fxV) (by simpa using hbg)).trans fxV,⟨qS hqV.row fun a ha=>gV2.block _ (by have:=(hqV.out a ha).1;omega) (by have:=(hqV.out a ha).1;simp;omega),hqV.out⟩⟩,zdc (by omega)⟩;show RowI V1 g _;rw [<- znT,<- hrs2];rw [UX,UR] at fV1;refine fV1.trans ?_;unfold zin;rw [UI];rfl
   ·have he:¬ (d:Int)=(n:Int)-1:=dF he;have hstop:=zla hr0 hc hn hd (by omega);have hmore:=zlc hr0 hc hn hd (by omega) hj;have hrs2:=zlA hd (i:=i) (by omega) (d+1);refine brN (Uh (by omega)) ⟨i,rfl,hil,i64 d,zb (za (hdr fV)) hrc,nxI (by omega) ⟨i,rfl,hil,zj k3 (hdr fV) (o:=0+i*1) (v:=i64 ((d+1:Nat):Int)) rfl rfl (by rw [QN,hrl];omega) rfl fun V1 fV1 gV1 sV1=>?_⟩⟩;have gV2:V.grownBy V1 (some g):=zd (zf (Gb _ V).drew) gV1;have hsV:=gV2.size;refine⟨(j+1,F'),(cvE rfl rfl),⟨hmore,hJ.step _ _ _ _ hjV (StepG.grown gV2 (.inl hgn) hgF'),?_,hgF',by omega,(gV2.block bx (hlt fxV) (by simpa using hbg)).trans fxV,hbF',⟨qS hqV.row fun a ha=>gV2.block _ (by have:=(hqV.out a ha).1;omega) (by have:=(hqV.out a ha).1;simp;omega),hqV.out⟩⟩,zdc (by omega)⟩;show RowI V1 g (D (j+1));rw [hD];show RowI V1 g (j8 rs (j+1)).reverse;rw [hstop,<- hrs2];rw [UX,UR] at fV1;refine fV1.trans ?_;unfold zin;rw [UI]
  ·have hi:¬ (0:Int)<=((sizes.length:Nat):Int)-1-(t:Nat):=dF hi;have hte:t=rs.length:=by omega
   rw [hte] at hc;have he:=znb hc hj;refine brF (brE (Us (by omega)) ?_);rw [he] at hjV;exact⟨⟨_,rfl⟩,.inl ⟨F',hJ.step _ _ _ _ hjV (.below (Gb _ V).drew)⟩⟩
 ·exact brF ⟨⟨_,rfl⟩,.inr ⟨_,F',hpre,hjY⟩⟩
end
def poG (ev:List Ev) (k:Nat):Nat->Nat:=fun i=>if i<k then zbL ev i else 0
theorem zlI (ev:List Ev) (k:Nat):upd (poG ev k) k (zbL ev k)=poG ev (k+1):=by
 funext i;unfold upd poG;by_cases h:i=k
 ·rw [Gp h,Gp (by omega),h]
 ·rw [Gn h];by_cases h2:i<k
  ·rw [Gp h2,Gp (by omega)]
  ·rw [Gn h2,Gn (by omega)]
theorem zjy (ev:List Ev) (k:Nat):upd (poG ev k) k 0=poG ev k:=by
 funext i;unfold upd poG;by_cases h:i=k
 ·rw [Gp h,Gn (by omega)]
 ·rw [Gn h]
theorem zpG (ev:List Ev):poG ev ev.length=zbL ev:=by
 funext i;unfold poG
 split
 ·rfl
 ·unfold zbL;rw [JK (by omega)]
section
variable {p:OA} {cap:Nat} {ev:List Ev} {w:Wd}
theorem zcP (hl:SlR evE w p ev) (hn:ev.length<=48):CB 32 #[.slice p ev.length cap] w (.agg (zi (poR ev)).toArray):=by
 refine je 47 [.slice p ev.length cap] (.s .p (.c .p .p)) Tryz.func32 ?_;obtain⟨L,hL⟩:=nm (w.heap.size);have hbL:=zz w (.cells (zi jx).toArray 48 (0,0));have hbb:Bw w (w.alloc (.cells (zi jx).toArray 48 (0,0))):=zba w _;have hbs:=wz w (.cells (zi jx).toArray 48 (0,0));refine⟨Unit,fun _=>⟨[(0,.slice p ev.length cap),(2,At0 L),(3,At0 (L+1))],[]⟩,fun _ X=>zaR X L jx/\zaR X (L+1) ⟨ev.length,fun _=>0⟩/\X.heap.size=L+2/\Bw w X,?_,?_⟩
 ·refine⟨zi ⟨ev.length,fun _=>0⟩,rfl,zn (X:=w.alloc (.cells (zi jx).toArray 48 (0,0))) (v := .agg (zi ⟨ev.length,fun _=>0⟩).toArray) k48 (zk _) rfl (qo _) fun V hbV fV sV=>?_⟩;rw [hbs] at fV sV;exact⟨(),⟨.cons rfl (.cons (by rw [hL];rfl) (.cons (by rw [hL,<- hbs];rfl) .nil)),rfl⟩,by rw [hL];exact zc hbV hbL,by rw [hL];exact fV,by rw [hL];exact sV,(zst hbb hbV)⟩
 rintro _ X ⟨f0,f1,sX,hbX⟩;refine⟨Nat,fun k=>⟨[(0,.slice p ev.length cap),(2,At0 L),(3,At0 (L+1)),(10,.slice p ev.length cap),(11,i64 ev.length),(12,i64 (k:Nat))],[]⟩,
  fun k V=>k<=ev.length/\zaR V (L+1) ⟨ev.length,poG ev k⟩/\zaR V L jx/\L+1<V.heap.size/\Bw w V,fun k=>ev.length-k,0,
  (cvE rfl rfl),⟨UZ _,f1,f0,by omega,hbX⟩,?_⟩
 rintro k V ⟨hk,fV,f0V,sV,hbV⟩;dsimp only at hk fV ⊢;refine biE (fun hc=>?_) fun hc=>?_
 ·have hc:(k:Int)<(ev.length:Int):=dT hc;have hkl:k<ev.length:=by omega
  obtain⟨e,he⟩:∃ e,ev[k]=e:=⟨_,rfl⟩;have hek:ev[k]?=some e:=by rw [<- he];exact gE hkl
  obtain⟨bp,op,rfl,hlp,hat⟩:=hl.at hkl;refine⟨k,rfl,hkl,evE.enc e,rfl,by rw [<- he];exact zm hbV (hat k hkl),nL hlp hbV.size,zn (X:=V) (v := .agg (evE.enc e).toArray) k60 rfl rfl (Qk.2 fun u hu=>evE.one e u hu) fun Y hbY fY sY=>?_⟩;obtain⟨b,hb⟩:=nm (V.heap.size);rw [<- hb] at fY;have eb:some (Value.pointer (some ⟨V.heap.size,0,none⟩))=some (At0 b):=by rw [hb]
  have hwY:=zst hbV hbY;have hMb:L+1<b:=by omega
  have fYM:=zc hbY fV;have fYL:=zc hbY f0V;refine⟨i64 e.th,by rw [<- hb];exact zb (za fY) (i:=0) rfl,biE (fun h=>?_) fun h=>?_⟩
  ·have h:e.th = -1:=dT h;have hr:zbL ev k=0:=by
    unfold zbL;rw [hek];exact Gp h
   refine nxI (by omega) ⟨k+1,(cvE rfl rfl),⟨hkl,?_,fYL,by omega,hwY⟩,zdc (by omega)⟩;rw [<- zlI,hr,zjy];exact fYM
  have h:¬ e.th = -1:=dF h;have hr:zbL ev k=zge e.th (k+1) (ev.drop (k+1)) 0:=by
   unfold zbL;rw [hek];exact Gn h
  refine nxI (by omega) ?_;refine⟨Nat×Nat,fun s=>⟨[(0,.slice (some ⟨bp,op,none⟩) ev.length cap),(2,At0 L),(3,At0 (L+1)),(4,i64 (k:Nat)),(5,At0 b),(6,i64 (s.1:Nat)),(10,.slice (some ⟨bp,op,none⟩) ev.length cap),(11,i64 ev.length),(12,i64 (k:Nat))],[]⟩,
   fun s Z=>s.1<=ev.length/\zbL ev k=zge e.th s.1 (ev.drop s.1) s.2/\s.2<2^64/\zaR Z (L+1) ⟨ev.length,upd (poG ev k) k s.2⟩/\zaR Z L jx/\Z.heap[b]?=some (.cells (evE.enc e).toArray 60 (0,0))/\Bw w Z,fun s=>ev.length-s.1,(k+1,0),
   ⟨.cons rfl (.cons rfl (.cons rfl (.cons rfl (.cons eb (.cons rfl (.cons rfl (.cons rfl (.cons rfl .nil)))))))),rfl⟩,⟨hkl,hr,(by decide:0<2^64),by rw [zjy];exact fYM,fYL,fY,hwY⟩,?_⟩
  clear fY fYM fYL hwY hbY sY f0V fV hbV sV;rintro⟨j,s⟩ Z ⟨hj,hacc,hs,fM,fL,fb,hbZ⟩;dsimp only at hj hacc hs fM ⊢;refine biE (fun hc=>?_) fun hc=>?_
  ·have hc:(j:Int)<(ev.length:Int):=dT hc;have hjl:j<ev.length:=by omega
   have hdrop:ev.drop j=ev[j]::ev.drop (j+1):=(JF hjl).symm;rw [hdrop] at hacc;have hacc:zbL ev k=zge e.th (j+1) (ev.drop (j+1)) (if ev[j].th=e.th then s|||2^j else s):=hacc;refine DrawE.ord [] [0,1,2,3,4,5,6,7] (by kernel_rfl) ⟨j,rfl,hjl,i64 ev[j].th,zb (zm hbZ (hat j hjl)) (i:=0) rfl,i64 e.th,zb (za (hdr fb)) (i:=0) rfl,?_⟩;have hslot:(zi ⟨(ev.length:Int),upd (poG ev k) k s⟩)[1+k]?=some (s64 s):=by
    have:=ziq ⟨(ev.length:Int),upd (poG ev k) k s⟩ (i:=k) (by omega);rw [this];show some (s64 (upd (poG ev k) k s k))=_;rw [zL]
   have hdZ:Bw Z Z.drew:=(Gb _ Z).drew;refine biE (fun he=>?_) fun he=>?_
   ·have he:ev[j].th=e.th:=dT he;rw [Gp he] at hacc;refine DrawE.ord [9] [0,1,2,3,4,5,6,7,8,9] (by kernel_rfl) ⟨k,rfl,by omega,?_⟩;refine⟨s64 s,by rw [UX,UD];exact zb (za (hdr (hdr fM))) hslot,by omega,_,zar (e:=j) (by omega),_,za1 hs (qc (by omega)),k,rfl,by omega,?_⟩;refine zj k45 (hdr (hdr fM)) (o:=0+1+k*1) (v:=s64 (s|||2^j)) rfl rfl (by rw [zk];omega) rfl fun S fS gS sS=>?_;rw [UR,UX,zeb _ (show k<48 by omega)] at fS;have gS2:Z.grownBy S (some (L+1)):=zd (zf (Gb _ Z).drew) (zd (zf (Gb _ _).drew) gS);refine nxI (by omega) ⟨(j+1,s|||2^j),(cvE rfl rfl),⟨hjl,hacc,KZ hs (qc (by omega)),?_,(gS2.block L (hlt fL) (by simp)).trans fL,(gS2.block b (hlt fb) (by simp;omega)).trans fb,hbZ.trans (zh gS2 hbZ.size (by omega))⟩,zdc (by omega)⟩;have:upd (upd (poG ev k) k s) k (s|||2^j)=upd (poG ev k) k (s|||2^j):=by
     funext i;unfold upd
     split <;> rfl
    rw [this] at fS;exact fS
   ·have he:¬ ev[j].th=e.th:=dF he;rw [Gn he] at hacc;exact nxI (by omega) ⟨(j+1,s),(cvE rfl rfl),⟨hjl,hacc,hs,fM,fL,fb,(zst hbZ hdZ)⟩,zdc (by omega)⟩
  ·have hc:¬ (j:Int)<(ev.length:Int):=dF hc;have:j=ev.length:=by omega
   subst this;rw [Qn] at hacc;have hacc:zbL ev k=s:=hacc;refine nxI (by omega) ⟨k+1,(cvE rfl rfl),⟨hkl,?_,fL,hlt fM,hbZ⟩,zdc (by omega)⟩;rw [<- zlI,hacc];exact fM
 ·have hc:¬ (k:Int)<(ev.length:Int):=dF hc;obtain rfl:k=ev.length:=by omega
  rw [zpG] at fV;exact⟨zi (poR ev),zk _,za fV,hlt fV,zE (v := .agg (zi (poR ev)).toArray) k48 f0V rfl rfl (qo _) ⟨zi (poR ev),zk _,za (zx f0V),rfl,zy hbV (by omega) _⟩⟩
end
structure RelAt (X:Wd) (b o:Nat) (T:TypeId) (A Z:List Value) (r:RelD):Prop where
 at_:A.length=o
 cells:X.heap[b]?=some (.cells (A++(zi r++Z)).toArray T (0,0))
section
variable {X:Wd} {b o:Nat} {T:TypeId} {A Z:List Value} {r:RelD}
theorem RelAt.cell (h:RelAt X b o T A Z r) {i:Nat} (hi:i<48):X.cell? ⟨b,o+1+i*1,none⟩=some (s64 (r.to i)):=by
 have:(A++(zi r++Z))[o+1+i*1]?=some (s64 (r.to i)):=by
  rw [UX,UD,jr h.at_,Jr (by rw [zk];omega),ziq r hi]
 have h2:=zb (za h.cells) this;rw [UR] at h2;exact h2
theorem RelAt.set (h:RelAt X b o T A Z r) {i:Nat} (hi:i<48) (v:Nat):(A++(zi r++Z)).set (o+1+i*1) (s64 v)=A++(zi ⟨r.n,upd r.to i v⟩++Z):=by
 rw [UX,UD,qs h.at_,List.set_append_left _ _ (by rw [zk];omega),zeb r hi]
theorem RelAt.len (h:RelAt X b o T A Z r):(A++(zi r++Z)).length=o+49+Z.length:=by
 rw [lap,lap,zk,h.at_];omega
theorem RelAt.same {Y:Wd} (h:RelAt X b o T A Z r) (hs:Y.heap[b]?=X.heap[b]?):RelAt Y b o T A Z r:=⟨h.at_,hs.trans h.cells⟩
def zn2 (f:Nat) (ps:List (Nat×Nat)):Prop:=∀ p∈ps,f+p.1<48/\f+p.2<48
theorem zed {f:Nat}:∀ {ps:List (Nat×Nat)} {to:Nat->Nat},zZ to->zn2 f ps->zZ (zeR f ps to)
 | [],_,h,_=>h
 | p::ps,to,h,hp=>by
  have h1:=hp p KA;exact zed (ps:=ps) (zfE h (KZ (h _ h1.1) (qc (by omega)))) fun q hq=>hp q (JY _ hq)
theorem zks {n:Nat} (h:n<256):((UInt8.ofNat n).toNat:Int)=(n:Nat):=by
 have:(UInt8.ofNat n).toNat=n:=by simp;omega
 rw [this]
theorem zn1 {w:Wd} {q:OA} {cap f:Nat} {ps:List (Nat×Nat)} (hr:RelAt w b o T A Z r) (hw:zZ r.to) (hl:SlR prE w q ps) (hqb:∀ a,q=some a->a.block≠b) (hn:ps.length<=100000) (hp:zn2 f ps) :
  Calls PG 79 #[.pointer (some ⟨b,o,none⟩),.slice q ps.length cap,i64 f] w fun e w'=>e = .returned (.tuple #[])/\RelAt w' b o T A Z (zkL f ps r)/\w.grownBy w' (some b):=by
 refine zI 35 [.pointer (some ⟨b,o,none⟩),.slice q ps.length cap,i64 f] Tryz.func79 ?_;have hbw:=hlt hr.cells;refine⟨Nat×(Nat->Nat),fun s=>⟨[(0,.pointer (some ⟨b,o,none⟩)),(1,.slice q ps.length cap),(2,i64 f),(8,.slice q ps.length cap),(9,i64 ps.length),(10,i64 (s.1:Nat))],[]⟩,
  fun s X=>s.1<=ps.length/\zZ s.2/\zeR f (ps.drop s.1) s.2=zeR f ps r.to/\RelAt X b o T A Z ⟨r.n,s.2⟩/\w.grownBy X (some b),fun s=>ps.length-s.1,(0,r.to),
  (cvE rfl rfl),⟨UZ _,hw,rfl,hr,z3 _ _⟩,?_⟩
 rintro⟨k,g⟩ X ⟨hk,hg,he,hX,gX⟩;dsimp only at hk hg he hX ⊢;have hXs:=gX.size;refine biE (fun hc=>?_) fun hc=>?_
 ·have hc:(k:Int)<(ps.length:Int):=dT hc;have hkl:k<ps.length:=by omega
  obtain⟨pr,hpr⟩:∃ pr,ps[k]=pr:=⟨_,rfl⟩;obtain⟨p1,p2⟩:=hp pr (by rw [<- hpr];exact gM hkl);rw [<- JF hkl,hpr] at he;have he:zeR f (ps.drop (k+1)) (upd g (f+pr.1) (g (f+pr.1)|||2^(f+pr.2)))=zeR f ps r.to:=he;obtain⟨bp,op,rfl,hlp,hat⟩:=hl.at hkl;have hbp:bp≠b:=hqb _ rfl;have hatX:zu X ⟨bp,op+k*2,none⟩ (prE.enc ps[k]):=jo (gX.block bp hlp (by simpa using hbp)) (hat k hkl);refine⟨k,rfl,hkl,prE.enc pr,rfl,by rw [<- hpr];exact hatX,nL hlp hXs,?_⟩;refine zn (X:=X) (v := .agg (prE.enc pr).toArray) zsz rfl rfl rfl fun Y hbY fY sY=>DrawE.ord [20] [0,1,2,3,4,5,6,7,8,9,10,11,12,13,14,15,16,17,18,19,20] (by kernel_rfl) ?_;have fY1:Y.heap[X.heap.size]?=some (.cells (prE.enc pr).toArray 184 (0,0)):=fY;have hrY:=hX.same (hbY.block b (nL hbw hXs));refine⟨0,rfl,by decide,?_⟩;refine⟨u8 (UInt8.ofNat pr.1),zb (za (hdr fY1)) (i:=0*1) rfl,((pr.1:Nat):Int),by rw [zks (by omega)];exact ze (by omega),((f+pr.1:Nat):Int),(ze (by omega)).trans (by omega),f+pr.1,rfl,by omega,?_⟩;refine⟨s64 (g (f+pr.1)),(hrY.same (Y:=Y.drew) rfl).cell p1,1,rfl,by decide,?_⟩;refine⟨u8 (UInt8.ofNat pr.2),zb (za (hdr fY1)) (i:=1*1) rfl,((pr.2:Nat):Int),by rw [zks (by omega)];exact ze (by omega),((f+pr.2:Nat):Int),(ze (by omega)).trans (by omega),by omega,_,zar (e:=f+pr.2) (by omega),_,za1 (hg _ p1) (qc (by omega)),f+pr.1,rfl,by omega,?_⟩;refine zj k45 (hrY.same (Y:=Y.drew) rfl).cells (o:=o+1+(f+pr.1)*1) (v:=s64 (g (f+pr.1)|||2^(f+pr.2))) rfl rfl (by rw [hrY.len];omega) rfl fun S fS gS sS=>?_;rw [hrY.set p1] at fS;exact nxI (by omega) ⟨(k+1,_),(cvE rfl rfl),⟨hkl,zfE hg (KZ (hg _ p1) (qc (by omega))),he,⟨hr.at_,fS⟩,zd gX (zd (zf hbY) (zd (zf (Gb _ Y).drew) gS))⟩,zdc (by omega)⟩
 ·have hc:¬ (k:Int)<(ps.length:Int):=dF hc;obtain rfl:k=ps.length:=by omega
  rw [Qn] at he;have he:g=zeR f ps r.to:=he;subst he;exact⟨rfl,hX,gX⟩
end
def zs8 (pre:List Nat) (vs:List Value) (W:Wd):Prop:=∃ (a i:Nat),pre.getLast?=some a/\vs=[i64 i,i64 a]
theorem zr1 {bx:Nat} {l:List Nat} {q:OA} {c:Nat} {W0:Wd} (fx:W0.heap[bx]?=some (.cells #[.slice q l.length c] 66 (0,0))) (hl:SlR zw W0 q l) (hql:∀ a,q=some a->a.block<W0.heap.size) (hn:l.length<=100000) :
  zh6 PG 112 [At0 bx] l.reverse W0 (fun k=>k=bx\/∃ a,q=some a/\k=a.block) (fun _=>False) zs8:=by
 intro yl F0 J Jx W hsz hrd hrf hJ hJx hy h0;have fxW:=(hrd bx (.inl (.inl rfl))).trans fx;have hlW:SlR zw W q l:=qS hl fun a ha=>hrd _ (.inl (.inr ⟨a,ha,rfl⟩));have hbxW:=hlt fxW;refine zI 19 [.func (.yield yl) #[] #[],At0 bx] Tryz.func112 ?_;refine⟨_,zb (za fxW) (i:=0) rfl,((l.length:Nat):Int)-1,ze (by omega),?_⟩;refine⟨Nat×(Nat->Prop),fun s=>⟨[(0,.func (.yield yl) #[] #[]),(1,At0 bx),(3,i64 (((l.length:Nat):Int)-1-(s.1:Nat)))],[]⟩,
  fun s V=>s.1<=l.length/\J (l.reverse.take s.1) s.2 V/\W.heap.size<=V.heap.size/\V.heap[bx]?=some (.cells #[.slice q l.length c] 66 (0,0))/\¬ s.2 bx/\RowF zw W.heap.size s.2 V q l,fun s=>l.length-s.1,(0,F0),
  ⟨.cons rfl (.cons rfl (.cons (by show _=some (i64 (((l.length:Nat):Int)-1-((0:Nat):Int)));rw [Int.ofNat_zero,Int.sub_zero];rfl) .nil)),rfl⟩,⟨UZ _,h0,UW _,fxW,hrf _ (.inl rfl),⟨hlW,fun a ha=>⟨by have:=hql a ha;omega,hrf _ (.inr ⟨a,ha,rfl⟩)⟩⟩⟩,?_⟩
 rintro⟨t,F⟩ V ⟨ht,hjV,hWV,fxV,hbF,hqV⟩;dsimp only at ht hjV hbF hqV ⊢;refine biE (fun hi=>?_) fun hi=>?_
 ·have hi:(0:Int)<=((l.length:Nat):Int)-1-(t:Nat):=dT hi;obtain⟨i,hit⟩:∃ i,i+t+1=l.length:=⟨l.length-1-t,by omega⟩;have hii:((l.length:Nat):Int)-1-(t:Nat)=(i:Nat):=by omega
  rw [hii];have hil:i<l.length:=by omega
  have hrt:l.reverse[t]?=some l[i]:=by
   rw [JL (by omega),show l.length-1-t=i by omega,gE hil]
  have htl:t<l.reverse.length:=by rw [Kk];omega
  have hre:l.reverse[t]=l[i]:=by rw [gE htl] at hrt;exact Uf hrt
  have htk:l.reverse.take (t+1)=l.reverse.take t++[l[i]]:=by rw [tsg htl,hre]
  refine⟨_,zb (za fxV) (i:=0) rfl,?_⟩;obtain⟨bq,oq,hqe,hlq,hatq⟩:=hqV.row.at hil;subst hqe;refine⟨i,rfl,hil,i64 l[i],zb (hatq i hil) (i:=0) rfl,YieldR.mono (hy _ l[i] [i64 (i:Nat),i64 l[i]] F V hjV ⟨l[i],i,by simp,rfl⟩ (by rw [<- htk];exact List.take_prefix _ _)) ?_⟩;rintro v Y (⟨rfl,F',hjY,kY⟩ | ⟨rfl,F',hjY⟩)
  ·refine brF ?_;have hbF':¬ F' bx:=fun h=>by
    rcases kY.fp bx h with h | h
    ·exact hbF h
    ·have:=hlt fxV;omega
   exact⟨((l.length:Nat):Int)-1-((t+1:Nat):Int),(ze (by omega)).trans (by omega),(t+1,F'),(cvE rfl rfl),⟨by omega,by rw [htk];exact hjY,UM hWV kY.size,(kY.same bx (hlt fxV) hbF).trans fxV,hbF',hqV.keep hWV kY (fun _ _ h=>h)⟩,zdc (by omega)⟩
  ·exact brT ⟨⟨_,rfl⟩,.inr ⟨_,F',by rw [<- htk];exact List.take_prefix _ _,hjY⟩⟩
 ·have hi:¬ (0:Int)<=((l.length:Nat):Int)-1-(t:Nat):=dF hi;have hte:t=l.length:=by omega
  subst hte;rw [JH (by rw [Kk];exact UW _)] at hjV;exact⟨⟨_,rfl⟩,.inl ⟨F,hjV⟩⟩
theorem zqE {q:OA} {n c:Nat} {w:Wd}:Calls PG 83 #[.slice q n c] w fun e w'=>e = .returned (.func (.func 112) #[] #[At0 w.heap.size])/\w'.heap[w.heap.size]?=some (.cells #[.slice q n c] 66 (0,0))/\w'.heap.size=w.heap.size+1/\Bw w w':=by
 refine zI 4 [.slice q n c] Tryz.func83 ?_;exact⟨rfl,zz w _,wz _ _,(zba w _)⟩
theorem zoc {q:OA} {n c:Nat} {w:Wd}:Calls PG 45 #[.slice q n c] w fun e w'=>e = .returned (.func (.func 76) #[] #[At0 w.heap.size])/\w'.heap[w.heap.size]?=some (.cells #[.slice q n c] 66 (0,0))/\w'.heap.size=w.heap.size+1/\Bw w w':=by
 refine zI 4 [.slice q n c] Tryz.func45 ?_;exact⟨rfl,zz w _,wz _ _,(zba w _)⟩
def zfy (p:(Nat->Nat)×Nat) (a:Nat):(Nat->Nat)×Nat:=(upd p.1 a p.2,p.2|||2^a)
theorem zdL:∀ (l:List Nat) (f:Nat->Nat) (b:Nat),zgA l f b=(l.foldl zfy (f,b)).1
 | [],_,_=>rfl
 | a::l,f,b=>zdL l (upd f a b) (b|||2^a)
theorem ziD:∀ {l:List Nat} {f:Nat->Nat} {b:Nat},zZ f->b<2^64->(∀ a∈l,a<48)->zZ (l.foldl zfy (f,b)).1/\(l.foldl zfy (f,b)).2<2^64
 | [],_,_,h,hb,_=>⟨h,hb⟩
 | a::l,f,b,h,hb,hl=>ziD (l:=l) (zfE h hb) (KZ hb (qc (by have:=hl a KA;omega))) fun x hx=>hl x (JY _ hx)
theorem zhM {l:List Nat} {r:RelD} (h:zZ r.to) (hl:∀ a∈l,a<48):zZ (j5 l r).to:=by
 show zZ (zgA l.reverse r.to 0);rw [zdL];exact (ziD h (by decide) fun a ha=>hl a (by simpa using ha)).1
section
variable {b o:Nat} {T:TypeId} {A Z:List Value} {r:RelD} {w:Wd} {q:OA} {c:Nat} {l:List Nat}
theorem zop (hr:RelAt w b o T A Z r) (hw:zZ r.to) (hl:SlR zw w q l) (hql:∀ a,q=some a->a.block<w.heap.size/\a.block≠b) (hn:l.length<=100000) (h48:∀ a∈l,a<48) :
  Calls PG 50 #[.pointer (some ⟨b,o,none⟩),.slice q l.length c] w fun e w'=>e = .returned (.tuple #[])/\RelAt w' b o T A Z (j5 l r)/\w.grownBy w' (some b):=by
 refine je 21 [.pointer (some ⟨b,o,none⟩),.slice q l.length c] (.s .p (.c .p .p)) Tryz.func50 ?_;obtain⟨L,hL⟩:=nm (w.heap.size);refine⟨Unit,fun _=>⟨[(1,.slice q l.length c),(2,At0 L),(4,At0 (L+1))],[]⟩,fun _ X=>X.heap[L]?=some (.cells #[.pointer (some ⟨b,o,none⟩)] 95 (0,0))/\X.heap[L+1]?=some (.cells #[s64 0] 45 (0,0))/\X.heap.size=L+2/\Bw w X,?_,?_⟩
 ·have s1:=wz w (.cells #[.pointer (some ⟨b,o,none⟩)] 95 (0,0));have h2:=zz (w.alloc (.cells #[.pointer (some ⟨b,o,none⟩)] 95 (0,0))) (.cells #[s64 0] 45 (0,0));have s2:=wz (w.alloc (.cells #[.pointer (some ⟨b,o,none⟩)] 95 (0,0))) (.cells #[s64 0] 45 (0,0));rw [s1] at h2 s2;exact⟨(),⟨.cons rfl (.cons (by rw [hL];rfl) (.cons (by rw [hL,<- s1];rfl) .nil)),rfl⟩,by rw [hL];exact qF _ (zz w _),by rw [hL];exact h2,by rw [hL];exact s2,((zba w _)).alloc (by simp) _⟩
 rintro _ X ⟨f0,f1,sX,hbX⟩;have hbw:=hlt hr.cells;refine cmo zqE ?_;rintro e W ⟨rfl,fx,sW,hbW⟩;have hwW:=zst hbX hbW;have hI:=zr1 fx (hl.below hwW) (fun a ha=>by have:=(hql a ha).1;omega) hn;have f0:=zc hbW f0;have f1:=zc hbW f1;refine zcO (zbc _) rfl (lb := #[At0 X.heap.size]) rfl rfl hI (UW _) (fun k hk=>⟨?_,rfl⟩) (fun pre vs W ⟨a,i,_,h⟩=>by rw [h];rfl) (by decide)
  (fun k=>k=b\/k=L+1) (fun pre F Y=>F=(fun k=>k=b\/k=L+1)/\W.heap.size<=Y.heap.size/\RelAt Y b o T A Z ⟨r.n,(pre.foldl zfy (r.to,0)).1⟩/\Y.heap[L+1]?=some (.cells [s64 (pre.foldl zfy (r.to,0)).2].toArray 45 (0,0))/\Y.heap[L]?=some (.cells #[.pointer (some ⟨b,o,none⟩)] 95 (0,0))/\w.grownBy Y (some b)) (fun _ _ _ _=>False) (fun k hk=>?_)
  (joG (F:=fun k=>k=b\/k=L+1) (J:=fun (pre:List Nat) Y=>W.heap.size<=Y.heap.size/\RelAt Y b o T A Z ⟨r.n,(pre.foldl zfy (r.to,0)).1⟩/\Y.heap[L+1]?=some (.cells [s64 (pre.foldl zfy (r.to,0)).2].toArray 45 (0,0))/\Y.heap[L]?=some (.cells #[.pointer (some ⟨b,o,none⟩)] 95 (0,0))/\w.grownBy Y (some b))
   (fun k h=>by omega) (fun s A h=>h.1) (fun pre A B ⟨h1,h2,h3,h4,h5⟩ hb=>⟨UM h1 hb.size,h2.same (hb.block _ (by omega)),ji hb (by omega) h3,ji hb (by omega) h4,jn h5 (hb.mono hwW.size)⟩))
  (fun ex=>⟨fun _ _ _ _ h=>h.elim,fun _ _ _ _ h=>h.elim⟩) ⟨rfl,UW _,hr.same (hwW.block _ hbw),f1,f0,zf hwW⟩ ?_ ?_ ?_
 ·rcases hk with (rfl | ⟨a,ha,rfl⟩) | h
  ·omega
  ·have:=(hql a ha).1;have:=hwW.size;omega
  ·exact h.elim
 ·rcases hk with rfl | ⟨a,ha,rfl⟩
  ·omega
  ·have:=hql a ha;omega
 ·rintro yl pre x vs F Y hyl hpre hJ ⟨a,i,hlast,rfl⟩ hfy hlo;have hxa:x=a:=by simpa using hlast
  subst hxa;refine⟨rfl,F,KeepsG.refl _ _,hJ,?_⟩;rintro O Y2 hY2 ⟨rfl,h1,h2,h3,h4,h5⟩;obtain⟨g1,g2⟩:=ziD (l:=pre) (f:=r.to) (b:=0) hw (by decide) (fun a ha=>h48 a (by have:=hpre.subset (JW _ ha);simpa using this));have hx48:x<48:=h48 x (by have:=hpre.subset (JO _ (KB.2 rfl));simpa using this);have hfold:(pre++[x]).foldl zfy (r.to,0)=zfy (pre.foldl zfy (r.to,0)) x:=by rw [KU];rfl
  obtain⟨P,hP⟩:=nm (pre.foldl zfy (r.to,0));rw [<- hP] at h2 h3 g1 g2 hfold;refine DrawE.ord [6] [0,1,2,3,4,5,6] (by kernel_rfl) ⟨_,zb (za (hdr h4)) (i:=0) rfl,_,zb (za (hdr h3)) (i:=0) rfl,x,rfl,hx48,zj k45 (h2.same (Y:=Y2.drew) rfl).cells (o:=o+1+x*1) (v:=s64 P.2) rfl rfl (by rw [h2.len];omega) rfl fun S fS gS sS=>?_⟩;rw [h2.set hx48] at fS;have gS2:Y2.grownBy S (some b):=zd (zf (Gb _ Y2).drew) gS;have h3S:=(gS2.block (L+1) (hlt h3) (by simp;omega)).trans h3;refine DrawE.ord [4] [0,1,2,3,4] (by kernel_rfl) ⟨_,zb (za (hdr h3S)) (i:=0) rfl,by omega,_,zar (e:=x) (by omega),_,za1 g2 (qc (by omega)),zj k45 (hdr h3S) (o:=0) (v:=s64 (P.2|||2^x)) rfl rfl (by show 0<1;decide) rfl fun V fV gV sV=>?_⟩;have gV2:S.grownBy V (some (L+1)):=zd (zf (Gb _ S).drew) gV;have hLw:L=w.heap.size:=hL;refine⟨fun k=>k=b\/k=L+1,⟨rfl,?_,⟨hr.at_,?_⟩,by rw [hfold];exact fV,?_,?_⟩,(KeepsG.grown gS2 (.inl rfl)).trans (KeepsG.grown gV2 (.inr rfl))⟩
  ·have:=gS2.size;have:=gV2.size;omega
  ·rw [hfold];exact (gV2.block b (hlt fS) (by simp;omega)).trans fS
  ·exact (gV2.block L (nL (hlt h4) gS2.size) (by simp)).trans ((gS2.block L (hlt h4) (by simp;omega)).trans h4)
  ·exact⟨gV2.os.trans (gS2.os.trans h5.os),gV2.tape.trans (gS2.tape.trans h5.tape),gV2.output.trans (gS2.output.trans h5.output),by have:=gS2.size;have:=gV2.size;have:=h5.size;omega,fun k hk hne=>(gV2.block k (by have:=gS2.size;have:=h5.size;omega) (by simp;omega)).trans ((gS2.block k (by have:=h5.size;omega) hne).trans (h5.block k hk hne))⟩
 ·rintro D F Y hD hfD ⟨rfl,h1,h2,h3,h4,h5⟩ hdef;refine⟨_,rfl,hdef,?_⟩;have hDb:b≠D:=by have:=hwW.size;omega
  refine⟨rfl,⟨hr.at_,?_⟩,?_⟩
  ·rw [show j5 l r=⟨r.n,(l.reverse.foldl zfy (r.to,0)).1⟩ by unfold j5;rw [zdL]];exact (zg hDb).trans h2.cells
  ·exact⟨h5.os,h5.tape,h5.output,by have:=h5.size;simpa [World.putObj] using this,fun k hk hne=>(zg (by have:=hwW.size;omega)).trans (h5.block k hk hne)⟩
 ·rintro D ex pre F Y hD hfD hpre h;exact h.elim
end
theorem ziv {P:Program} {iT:TI} {T B g cap i v:Nat} {l:List Nat} {w:Wd} (hT:TIok P T iT) (hs:iT.size=1) (h:OwnS zw T B w (some ⟨g,0,none⟩) cap l) (hi:i<l.length) {K:Wd->Prop}
  (k:∀ w',OwnS zw T B w' (some ⟨g,0,none⟩) cap (l.set i v)->w.grownBy w' (some g)->K w'):SatR ((storeVar T ⟨g,0+i*1,none⟩ (i64 v)).run P w) fun _ w'=>K w':=by
 rcases h.inv with ⟨h,_⟩ | ⟨g',cur,hg,hB,hc,hl,hm,hs2,ht⟩
 ·cases h
 ·simp only [Qa,Uu,Gi] at hg;subst hg;have e:cur=cur.toList.toArray:=rfl;have hsz:cur.toList.length=cap:=by
   have:cur.toList.length=cur.size:=rfl;rw [this,hs2];exact UX _
  refine zj hT (cs:=cur.toList) (by rw [<- e];exact hc) (o:=0+i*1) (v:=i64 v) rfl hs (by omega) rfl fun w' fw gw sw=>k w' ?_ gw;unfold OwnS World.ownsRow;have ht:cur.toList.take (l.length*1)=l.flatMap zw.enc:=ht;refine⟨by rw [qp],.inr ⟨g,cap,_,rfl,hB,fw,by rw [QQ];exact hl,hm,?_,?_⟩⟩
  ·show (cur.toList.set (0+i*1) (i64 v)).length=_;rw [QQ];exact hs2
  ·show (cur.toList.set (0+i*1) (i64 v)).take ((l.set i v).length*1)=_;rw [UX,UR,UX,QQ,List.take_set,<- UX l.length,ht,zek,zek];unfold zin;rw [UI]
theorem zp8 {before:Nat->Nat}:∀ (m left:Nat) (l:List Nat),∀ x∈j0 before m left l,∀ a∈x,a∈l\/a∈els left:=by
 intro m
 induction m with
 | zero =>
  intro left l x hx a ha;unfold j0 at hx
  split at hx
  ·rw [KB.1 hx] at ha;exact .inl ha
  ·cases hx
 | succ m ih =>
  intro left l x hx a ha;unfold j0 at hx
  split at hx
  ·rw [KB.1 hx] at ha;exact .inl ha
  ·obtain⟨b,hb,hx⟩:=List.mem_flatMap.1 hx
   split at hx
   ·rcases ih _ _ x hx a ha with h | h
    ·rcases QS.1 h with h | h
     ·exact .inl h
     ·rw [KB.1 h];exact .inr hb
    ·refine .inr ?_;unfold els at h ⊢;rw [QT] at h ⊢;refine⟨h.1,?_⟩;have h2:=h.2;unfold zaz at h2;rw [Uc,bAT] at h2;exact h2.1
   ·cases hx
theorem zpJ {r:RelD} {n:Nat} (hr:r.n=n) (hn:n<=64) {x:List Nat} (h:x∈za3 r) {a:Nat} (ha:a∈x):a<n:=by
 unfold za3 at h
 split at h
 ·rcases zp8 _ _ _ x h a ha with h | h
  ·cases h
  ·rw [zaj,hr,zdk hn] at h;exact Uo.1 h
 ·cases h
abbrev crs (n:Nat):RelD:=zgU n 1 (zaz (jP n) 1)
theorem zoU:∀ n,n<=48->okR (crs n)=true:=by
 intro n hn;have h:(List.range 49).all (fun n=>okR (crs n))=true:=by kernel_rfl
 rw [Qk] at h;exact h n (Uo.2 (by omega))
theorem zdq (n:Int):jP n<2^64:=zaF n
theorem zl8 (n:Nat):zZ (crs n).to:=fun i _=>by
 show (if i<n then (if Nat.testBit 1 i then zaz (jP n) 1&&&jP n else 0) else 0)<2^64
 split
 ·split
  ·exact KF Qy (zdq n)
  ·decide
 ·decide
def zbr (ws:List Nat) (o:List Nat):List Nat:=o.map fun k=>ws.getD k 0
theorem zpC {ws o:List Nat} {i:Nat} (hi:i<o.length) (h:i<(zbr ws (o.take i)++o.drop i).length):(zbr ws (o.take i)++o.drop i)[i]=o[i]:=by
 have hl:(zbr ws (o.take i)).length=i:=by unfold zbr;rw [QN,Qv,Ua (by omega)]
 have h2:(zbr ws (o.take i)++o.drop i)[i]?=o[i]?:=by
  rw [Jn (by omega),hl,UO,Kx,UL]
 rw [gE h,gE hi] at h2;exact Uf h2
theorem znS {ws o:List Nat} {i:Nat} (hi:i<o.length) (ho:o[i]<ws.length):(zbr ws (o.take i)++o.drop i).set i ws[o[i]]=zbr ws (o.take (i+1))++o.drop (i+1):=by
 have hl:(zbr ws (o.take i)).length=i:=by unfold zbr;rw [QN,Qv,Ua (by omega)]
 rw [JP _ _ (by omega),hl,UO,<- JF hi,List.set_cons_zero,tsg hi];unfold zbr;rw [QR,KQ,UB,List.map_nil,gDe,gE ho];rfl
section
variable {q:OA} {c:Nat} {ws:List Nat} {w:Wd}
theorem zoa (hl:SlR zw w q ws) (hn:ws.length<=48) (hT:Tz64M w) :
  Calls PG 48 #[.slice q ws.length c] w fun e w'=>(∃ (xs:List (List Nat×OA×Nat)) (p:OA) (c':Nat),e = .returned (.slice p xs.length c')/\xs.map (·.1)=zJ ws/\OwnS qT 66 w.heap.size w' p c' xs/\∀ x∈xs,OwnS zw 3 w.heap.size w' x.2.1 x.2.2 x.1)/\Bw w w':=by
 refine je 44 [.slice q ws.length c] (.s .p (.s .p (.c .p .p))) Tryz.func48 ?_;obtain⟨B,hB⟩:=nm (w.heap.size);refine⟨List (List Nat×OA×Nat)×OA×Nat,fun s=>⟨[(0,.slice q ws.length c),(4,.slice s.2.1 s.1.length s.2.2)],[]⟩,fun s X=>(zJ ws=(s.1.map (·.1)).map (zbr ws)/\AscB s.1/\s.1.length<=10000/\∀ x∈s.1,x.1.length<=64/\∀ a∈x.1,a<ws.length)/\OwnS qT 66 B X s.2.1 s.2.2 s.1/\(∀ x∈s.1,OwnS zw 3 B X x.2.1 x.2.2 x.1)/\Bw w X,?_,?_⟩
 ·refine cmo zh8 ?_;rintro e _ ⟨rfl,rfl⟩;refine⟨_,zb0 (zaF _) (by decide:1<2^64),cmo (zqO (n:=ws.length) (a:=1) (b:=qH (j9 ws.length) 1) hn (by decide) (jW (zaF _))) ?_⟩;rintro e X ⟨rfl,hbX⟩;refine cmo (zpl (r:=crs ws.length) (m:=10000) (zl8 _) (hT.below hbX) (UW _) (zoU _ hn)) ?_;rintro e Y ⟨⟨hm,xs,p,c',rfl,hxs,hasc,ho,hx⟩ | ⟨hm,rfl⟩,hbY⟩
  ·refine⟨(xs,p,c'),(cvE rfl rfl),⟨?_,hasc,?_,fun x hx=>?_⟩,ho.lower (by rw [hB];exact hbX.size),fun x h=>(hx x h).lower (by rw [hB];exact hbX.size),(zst hbX hbY)⟩
   ·show zJ ws=(xs.map (·.1)).map (zbr ws);rw [hxs];unfold zJ;exact Gp hm
   ·show xs.length<=10000;rw [<- hxs,QN] at hm;exact hm
   ·have hmem:x.1∈za3 (crs ws.length):=(by rw [<- hxs];exact UJ.2 ⟨x,hx,rfl⟩);exact⟨zlO hmem,fun a ha=>zpJ rfl (by omega) hmem ha⟩
  ·refine⟨([],none,0),(cvE rfl rfl),⟨?_,List.Pairwise.nil,UZ _,fun x hx=>(by cases hx)⟩,OwnS.nil,fun x hx=>(by cases hx),(zst hbX hbY)⟩;show zJ ws=[];unfold zJ;exact Gn (by show ¬ (za3 (crs ws.length)).length<=10000;omega)
 rintro⟨xs,p,c'⟩ X ⟨⟨hrk,hasc,hxl,hxx⟩,ho,hx,hbX⟩;dsimp only at hrk hasc hxl hxx ho hx ⊢;have hbs:=hbX.size;refine⟨Nat,fun k=>⟨[(0,.slice q ws.length c),(4,.slice p xs.length c'),(21,.slice p xs.length c'),(22,i64 xs.length),(23,i64 (k:Nat))],[]⟩,
  fun k Z=>k<=xs.length/\OwnS qT 66 B Z p c' xs/\(∀ x∈xs.take k,OwnS zw 3 B Z x.2.1 x.2.2 (zbr ws x.1))/\(∀ x∈xs.drop k,OwnS zw 3 B Z x.2.1 x.2.2 x.1)/\Bw w Z,fun k=>xs.length-k,0,
  (cvE rfl rfl),⟨UZ _,ho,fun x h=>(by rw [Up] at h;cases h),fun x h=>hx x h,hbX⟩,?_⟩
 clear ho hx hbX hbs;rintro k Z ⟨hk,ho,htk,hdr,hbZ⟩;have hbs:=hbZ.size;refine biE (fun hc=>?_) fun hc=>?_
 ·have hc:(k:Int)<(xs.length:Int):=dT hc;have hkl:k<xs.length:=by omega
  obtain⟨x,hxk⟩:∃ x,xs[k]=x:=⟨_,rfl⟩;have hxm:x∈xs:=by rw [<- hxk];exact gM hkl
  obtain⟨hx64,hxa⟩:=hxx x hxm;have hsplit:xs=xs.take k++x::xs.drop (k+1):=by rw [<- hxk,JF,JQ]
  have hdrop:xs.drop k=x::xs.drop (k+1):=by rw [<- hxk,JF]
  have hox:OwnS zw 3 B Z x.2.1 x.2.2 x.1:=hdr x (by rw [hdrop];simp);obtain⟨bp,op,hpe,hlp,hat⟩:=ho.row.at hkl;subst hpe;refine⟨k,rfl,hkl,.slice x.2.1 x.1.length x.2.2,by rw [<- hxk];exact zb (hat k hkl) (i:=0) rfl,?_⟩;refine⟨Nat,fun i=>⟨[(0,.slice q ws.length c),(4,.slice (some ⟨bp,op,none⟩) xs.length c'),(7,.slice x.2.1 x.1.length x.2.2),(21,.slice (some ⟨bp,op,none⟩) xs.length c'),(22,i64 xs.length),(23,i64 (k:Nat)),(27,.slice x.2.1 x.1.length x.2.2),(28,i64 x.1.length),(29,i64 (i:Nat))],[]⟩,
   fun i V=>i<=x.1.length/\OwnS zw 3 B V x.2.1 x.2.2 (zbr ws (x.1.take i)++x.1.drop i)/\Z.grownBy V (x.2.1.map Addr.block),fun i=>x.1.length-i,0,
   (cvE rfl rfl),⟨UZ _,hox,z3 _ _⟩,?_⟩
  rintro i V ⟨hi,hoV,gV⟩;refine biE (fun hc=>?_) fun hc=>?_
  ·have hc:(i:Int)<(x.1.length:Int):=dT hc;have hil:i<x.1.length:=by omega
   have hlen:(zbr ws (x.1.take i)++x.1.drop i).length=x.1.length:=by
    unfold zbr;simp;omega
   have hgi:(zbr ws (x.1.take i)++x.1.drop i)[i]'(by omega)=x.1[i]:=by
    exact zpC hil (by omega)
   obtain⟨b',o',hqe,hlq,hat'⟩:=hoV.row.at (i:=i) (by omega);have hao:=hxa x.1[i] (gM hil);obtain⟨bw,ow,hwe,hlw,hatw⟩:=hl.at hao;subst hwe;have hq0:∃ g,x.2.1=some ⟨g,0,none⟩:=by
    rcases hoV.inv with ⟨h,_⟩ | ⟨g,cur,h,_⟩
    ·rw [h] at hqe;cases hqe
    ·exact⟨g,h⟩
   obtain⟨g,hg⟩:=hq0;have hbo:b'=g/\o'=0:=by rw [hg] at hqe;simpa using hqe.symm
   obtain⟨rfl,rfl⟩:=hbo;rw [hg] at hoV gV ⊢;have hBg:=(zq hoV rfl).1;refine⟨i,rfl,hil,i64 x.1[i],by have:=zb (hat' i (by omega)) (i:=0) (v:=i64 x.1[i]) (by rw [hgi];rfl);exact this,x.1[i],rfl,hao,?_⟩;have hVw:V.heap[bw]?=w.heap[bw]?:=(gV.block bw (by omega) (by have:B<=b':=hBg;simp;omega)).trans (hbZ.block bw hlw);refine⟨i64 ws[x.1[i]],zb (jo hVw (hatw _ hao)) (i:=0) rfl,i,rfl,hil,ziv (i:=i) (v:=ws[x.1[i]]) k3 rfl hoV (by omega) fun V' oV' gV'=>nxI (by omega) ⟨i+1,(cvE rfl rfl),⟨hil,?_,zd gV gV'⟩,zdc (by omega)⟩⟩;have e:(zbr ws (x.1.take i)++x.1.drop i).set i ws[x.1[i]]=zbr ws (x.1.take (i+1))++x.1.drop (i+1):=znS hil hao;rw [e] at oV';exact oV'
  ·have hc:¬ (i:Int)<(x.1.length:Int):=dF hc;obtain rfl:i=x.1.length:=by omega
   rw [Qx,Qn,QK] at hoV;have keepI:∀ y:List Nat×OA×Nat,∀ l',OwnS zw 3 B Z y.2.1 y.2.2 l'->(∀ a b,x.2.1=some a->y.2.1=some b->a.block≠b.block)->OwnS zw 3 B V y.2.1 y.2.2 l':=fun y l' hy hne=>hy.same fun b hb=>gV.block _ (zq hy hb).2.1 (by
    intro e
    cases hx1:x.2.1 with
    | none=>rw [hx1] at e;cases e
    | some a =>
     rw [hx1] at e;simp only [Ue,Qa] at e;exact hne a b hx1 hb e.symm)
   unfold AscB at hasc;rw [hsplit,List.pairwise_append,List.pairwise_cons] at hasc;obtain⟨_,⟨hA1,_⟩,hA2⟩:=hasc;refine nxI (by omega) ⟨k+1,(cvE rfl rfl),⟨hkl,?_,fun y hy=>?_,fun y hy=>?_,?_⟩,zdc (by omega)⟩
   ·refine ho.same fun a ha=>gV.block _ (zq ho ha).2.1 fun e=>?_
    cases hx1:x.2.1 with
    | none=>rw [hx1] at e;cases e
    | some a2 =>
     rw [hx1] at e;simp only [Ue,Qa] at e;obtain⟨_,_,c1,h1⟩:=zq ho ha;obtain⟨_,_,c2,h2⟩:=zq hox hx1;rw [<- e,h1] at h2;simp at h2
   ·rw [tsg hkl,hxk] at hy;rcases QS.1 hy with hy | hy
    ·exact keepI y _ (htk y hy) fun a b ha hb e=>by
      have:=hA2 y hy x (by simp) b a hb ha;omega
    ·rw [KB.1 hy];exact hoV
   ·exact keepI y _ (hdr y (by rw [hdrop];exact JY _ hy)) fun a b ha hb e=>by
     have:=hA1 y hy a b ha hb;omega
   ·cases hx1:x.2.1 with
    | none =>
     rw [hx1] at gV;exact hbZ.trans ⟨gV.os,gV.tape,gV.output,gV.size,fun j hj=>gV.block j (by omega) (fun e=>by cases e)⟩
    | some a =>
     rw [hx1] at gV;exact hbZ.trans (zh gV hbs (by have:=(zq hox hx1).1;omega))
 ·have hc:¬ (k:Int)<(xs.length:Int):=dF hc;obtain rfl:k=xs.length:=by omega
  rw [Qx] at htk;refine⟨⟨xs.map fun x=>(zbr ws x.1,x.2),p,c',by rw [QN];rfl,?_,?_,fun y hy=>?_⟩,hbZ⟩
  ·rw [hrk,UH,UH];rfl
  ·rw [<- hB];have e1:(xs.map fun x=>(zbr ws x.1,x.2)).flatMap qT.enc=xs.flatMap qT.enc:=by
    rw [Qp];congr 1;funext x;show [Value.slice x.2.1 (zbr ws x.1).length x.2.2]=[Value.slice x.2.1 x.1.length x.2.2];unfold zbr;rw [QN]
   unfold OwnS at ho ⊢;rw [e1,QN];exact ho
  ·obtain⟨x,hx,rfl⟩:=UJ.1 hy;rw [<- hB];exact htk x hx
end
end Go.Proofs.YtpalcnbhkigagaaGreatDoor
