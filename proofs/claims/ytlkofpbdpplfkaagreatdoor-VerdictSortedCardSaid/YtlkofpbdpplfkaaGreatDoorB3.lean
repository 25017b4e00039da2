/- Contracts of functions, and plain facts, for the law that the last text of this claim proves. -/
import Derived.Test.YtlkofpbdpplfkaaGreatDoorB2
import Derived.Lib.AppendZerosOnto
import Derived.Laws.OwnMore
import Derived.Test.YtlkofpbdpplfkaaGreatDoorB1
set_option linter.unusedSimpArgs false
set_option linter.unusedVariables false
namespace Go.Proofs.YtlkofpbdpplfkaaGreatDoor
open Go.Vc Go.RowKit Go.Sei
theorem zb8 {X:World} {b:Nat} {r:RelD} (f:X.heap[b]?=some (.cells (relC r).toArray 102 (0,0))) {i:Nat} (h:i<48):X.cell? ⟨b,0+1+i*1,none⟩=some (s64 (r.to i)):=by
 rw [Nat.mul_one,Nat.add_assoc];exact zac (zaa f) (zfq r h)
theorem za5 {r:RelD} (h:okR r=true):0<=r.n/\r.n<=48/\∀ a,a<48->zb5 (r.to a) (allN r.n)=0/\((a:Int)<r.n\/r.to a=0):=by
 unfold okR at h;rw [bAT,bAT,dE,dE,List.all_eq_true] at h;refine⟨h.1,h.2.1,fun a ha=>?_⟩;have:=h.2.2 a (List.mem_range.2 ha);unfold zdO at this;rw [bAT,Bool.or_eq_true,dE,dE,dE] at this;exact this
theorem zhm {n:Int} (h0:0<=n) (h:n<=64) {i:Nat} (hi:i<64):(allN n).testBit i=decide ((i:Int)<n):=by
 unfold allN
 split
 ·rw [Nat.zero_testBit,decide_eq_false (by omega)]
 split
 ·rw [show 18446744073709551615=2^64-1 from rfl,Nat.testBit_two_pow_sub_one];rw [decide_eq_true hi,decide_eq_true (by omega)]
 ·rw [Nat.testBit_two_pow_sub_one];apply decide_eq_decide.2;omega
theorem zlS {r:RelD} (h:okR r=true) (hr:WrdR r.to) {a i:Nat} (ha:a<48) (hb:(r.to a).testBit i=true):(i:Int)<r.n/\(a:Int)<r.n:=by
 obtain⟨h0,h48,hall⟩:=za5 h;obtain⟨h1,h2⟩:=hall a ha;have hi:i<64:=by
  apply Nat.lt_of_not_le;intro hi;have:=Nat.testBit_lt_two_pow (nL (hr a ha) (Nat.pow_le_pow_right (by decide) hi));rw [this] at hb;cases hb
 refine⟨?_,?_⟩
 ·have h3:(zb5 (r.to a) (allN r.n)).testBit i=false:=by rw [h1];exact Nat.zero_testBit i
  rw [zfK (zc1 _) hi,hb,zhm h0 (by omega) hi] at h3;simpa using h3
 ·rcases h2 with h2 | h2
  ·exact h2
  ·rw [h2,Nat.zero_testBit] at hb;cases hb
theorem ziC {r:RelD} (h:okR r=true) (hr:WrdR r.to) {a:Nat} (ha:a<48):∀ i∈els (r.to a),(i:Int)<r.n/\i<48:=fun i hi=>by
 have h1:=(zlS h hr ha (ziH.1 hi).2).1;have:=(za5 h).2.1;exact⟨h1,by omega⟩
theorem zcU {s:Nat} (h0:s≠0) (h:s<2^64):(els s).headD 0=ctz s/\(els s).isEmpty=false:=by
 rw [(zbq h0 h).1];exact⟨rfl,rfl⟩
theorem zhg {s:Nat} (h:s<2^64) (he:(els s).isEmpty=true):s=0:=by
 apply Classical.byContradiction;intro h0;rw [(zcU h0 h).2] at he;cases he
theorem zfd {s:Nat} (h:s<2^64) (he:(!(els s).isEmpty)=true):s≠0:=fun h0=>by
 subst h0;rw [zcY] at he;cases he
section
variable {r:RelD} {w:World}
theorem zpG {b s:Nat} (f:w.heap[b]?=some (.cells (relC r).toArray 102 (0,0))) (hr:WrdR r.to) (hs:s<2^64) (h48:∀ i∈els s,i<48) (hT:Tz64M w) :
  CB 225 #[At0 b,s64 s] w (s64 (zgw r.to s)):=by
 refine cofE 32 [At0 b,s64 s] Tryz.func225 ?_;refine cmo (zcq hs hT) ?_;rintro e X ⟨rfl,hbX⟩;refine⟨Nat×Nat,fun q=>⟨[(0,At0 b),(1,s64 q.2),(5,s64 q.1),(6,i64 ((els q.2).headD 0:Nat)),(7,.bool (!(els q.2).isEmpty))],[]⟩,
  fun q Y=>zgw r.to s=(els q.2).foldl (fun t a=>t|||r.to a) q.1/\(q.1<2^64/\q.2<2^64/\∀ i∈els q.2,i<48)/\Bw w Y,fun q=>q.2,(0,s),
  (cvE rfl rfl),⟨rfl,⟨(by decide:0<2^64),hs,h48⟩,hbX⟩,?_⟩
 clear hbX X;rintro⟨t,q⟩ X ⟨he,⟨ht,hq,h48⟩,hbX⟩;dsimp only at he ht hq h48 ⊢;refine biE (fun hc=>?_) fun hc=>?_
 ·have h0:=zfd hq hc;obtain⟨e1,e2,_,e3⟩:=zbq h0 hq;have hd:=(zcU h0 hq).1;have hc48:ctz q<48:=h48 _ (by rw [e1];exact List.mem_cons_self);rw [hd];have fX:=zab hbX f;refine⟨ctz q,rfl,hc48,?_⟩;refine⟨_,zb8 fX hc48,?_⟩;refine⟨_,zb2 ht (hr _ hc48),?_⟩;refine⟨((q-1:Nat):Int),(w64 (a:=(q:Int)-1) (by omega)).trans (by omega),?_⟩;refine⟨((rest q:Nat):Int),zbz (a:=q) (b:=q-1) hq (by omega),?_⟩;refine cmo (zcq (s:=rest q) (by omega) (hT.below hbX)) ?_;rintro e Y ⟨rfl,hbY⟩;refine⟨(t|||r.to (ctz q),rest q),(cvE rfl rfl),⟨?_,⟨Nat.or_lt_two_pow ht (hr _ hc48),by omega,fun i hi=>h48 i (by rw [e1];exact List.mem_cons_of_mem _ hi)⟩,(zst hbX hbY)⟩,e2⟩;rw [he,e1];rfl
 ·have hc:(els q).isEmpty=true:=by simpa using hc
  have:=zhg hq hc;subst this;refine⟨?_,hbX⟩;rw [he,zcY];rfl
theorem zfX {ra rb:RelD} {ba bb g:Nat} {caps:Array Value} {row:Nat->Nat} (fa:w.heap[ba]?=some (.cells (relC ra).toArray 102 (0,0))) (fb:w.heap[bb]?=some (.cells (relC rb).toArray 102 (0,0)))
  (ha:WrdR ra.to) (hb:WrdR rb.to) (hok:zbr (sg 0) g=true)
  (hrow:ra.n=rb.n->okR ra=true->okR rb=true->∀ i X,i<ra.n.toNat->Bw w X->Calls Tryz.prog g (i64 (i:Nat)::caps.toList).toArray X fun e Y=>e = .returned (s64 (row i))/\Bw X Y) :
  CB 223 #[At0 ba,At0 bb,.func (.func g) #[] caps] w (.tuple #[.agg (relC (comb ra rb row).1).toArray,i64 (comb ra rb row).2]):=by
 refine cofM 38 [At0 ba,At0 bb,.func (.func g) #[] caps] (.c .p (.s .p .p)) Tryz.func223 ?_;obtain⟨L,hL⟩:=nm (w.heap.size);refine⟨Unit,fun _=>⟨[(0,At0 ba),(1,At0 bb),(2,.func (.func g) #[] caps),(6,At0 L)],[]⟩,fun _ X=>X.heap[L]?=some (.cells (relC zav).toArray 102 (0,0))/\Bw w X,⟨(),⟨.cons rfl (.cons rfl (.cons rfl (.cons (by rw [hL];rfl) .nil))),rfl⟩,by rw [hL];exact hnew w _,(zba w _)⟩,?_⟩;rintro _ X ⟨f0,hbX⟩;have hd:Bw X X.drew:=(Below.refl _ X).drew;have hbD:=zst hbX hd;have no:∀ {Y:World},Y.heap[L]?=some (.cells (relC zav).toArray 102 (0,0))->Bw w Y->(ra.n=rb.n&&(okR ra&&okR rb))=false->∀ {K:World->Prop},(∀ Z,Z.heap[L]?=some (.cells (relC (comb ra rb row).1).toArray 102 (0,0))->(comb ra rb row).2=2->Bw w Z->K Z)->SatR ((storeVar 102 ⟨L,0,none⟩ (.agg (relC zav).toArray)).run Tryz.prog Y) fun _ w'=>K w' :=
  fun {Y} f b h {K} k=>by
   have e:comb ra rb row=(zav,2):=by unfold comb;rw [h];rfl
   refine zam (v := .agg (relC zav).toArray) k102 f rfl rfl (zau _) ?_;exact k _ (by rw [e];exact zaj f) (by rw [e]) (zag b (by omega) _)
 refine DrawE.ord [] [0,1,2,3,4,5,6,7,8,9,10,11,12,13,14,15,16,17,18,19,20,21,22] (by kernel_rfl) ?_;have hz:∀ {Y:World},Bw w Y->∀ {K:Value->Prop},K (.agg (relC zav).toArray)->K (.agg (relC zav).toArray):=fun _ _ h=>h;refine⟨_,zac (zaa (zab hbD fa)) (i:=0) rfl,?_⟩;refine⟨_,zac (zaa (zab hbD fb)) (i:=0) rfl,?_⟩;refine biE (fun h=>?_) fun h=>?_
 ·have h:ra.n≠rb.n:=fun e=>by
   have h:(!decide (ra.n=rb.n))=true:=h;rw [decide_eq_true e] at h;cases h
  refine brT ?_;refine brT ?_;refine⟨relC zav,rfl,?_⟩;refine no (hdr f0) hbD (by rw [decide_eq_false h];rfl) fun Z fZ e2 bZ=>?_;refine⟨relC (comb ra rb row).1,zad _,zaa fZ,?_,bZ⟩;rw [e2];rfl
 have h:ra.n=rb.n:=by
  have h:(!decide (ra.n=rb.n))=false:=h;simpa using h
 refine⟨relC ra,zad _,zaa (zab hbD fa),hlt (zab hbD fa),?_⟩;refine cmo (zbl ha) ?_;rintro e Y ⟨rfl,hbY⟩;refine⟨hbY,?_⟩;have hbwY:=zst hbD hbY;have f0Y:=zab hbY (hdr f0);refine biE (fun h1=>?_) fun h1=>?_
 ·have h1:okR ra=false:=by
   have h1:(!okR ra)=true:=h1;simpa using h1
  refine brT ?_;refine⟨relC zav,rfl,?_⟩;refine no f0Y hbwY (by rw [h1,Bool.false_and,Bool.and_false]) fun Z fZ e2 bZ=>?_;refine⟨relC (comb ra rb row).1,zad _,zaa fZ,?_,bZ⟩;rw [e2];rfl
 have h1:okR ra=true:=by
  have h1:(!okR ra)=false:=h1;simpa using h1
 refine⟨relC rb,zad _,zaa (zab hbwY fb),hlt (zab hbwY fb),?_⟩;refine cmo (zbl hb) ?_;rintro e V ⟨rfl,hbV⟩;refine⟨hbV,?_⟩;have hbwV:=zst hbwY hbV;have f0V:=zab hbV f0Y;refine biE (fun h2=>?_) fun h2=>?_
 ·have h2:okR rb=false:=by
   have h2:(!okR rb)=true:=h2;simpa using h2
  refine⟨relC zav,rfl,?_⟩;refine no f0V hbwV (by rw [h2,Bool.and_false,Bool.and_false]) fun Z fZ e2 bZ=>?_;refine⟨relC (comb ra rb row).1,zad _,zaa fZ,?_,bZ⟩;rw [e2];rfl
 have h2:okR rb=true:=by
  have h2:(!okR rb)=false:=h2;simpa using h2
 obtain⟨p0,p48,_⟩:=za5 h1;have e:comb ra rb row=(zcb ra.n.toNat row,0):=by unfold comb;rw [h1,h2,decide_eq_true h];rfl
 rw [e];have hn:ra.n=(ra.n.toNat:Int):=by omega
 refine⟨i64 (ra.n.toNat:Nat),by rw [<- hn];exact zac (zaa (zab hbwV fa)) (i:=0) rfl,?_⟩;refine cmo (zi2 (w:=V) (n:=ra.n.toNat) (by omega) hok (fun i Z hi hbZ=>hrow h h1 h2 i Z hi ((zst hbwV hbZ)))) ?_;rintro e Z ⟨rfl,hbZ⟩;have f0Z:=zab hbZ f0V;refine zam (v := .agg (relC (zcb ra.n.toNat row)).toArray) k102 f0Z rfl rfl (zau _) ?_;exact⟨relC (zcb ra.n.toNat row),zad _,zaa (zaj f0Z),rfl,zag ((zst hbwV hbZ)) (by omega) _⟩
end
theorem zej {n:Nat} {f:Nat->Nat} (h:∀ i,i<n->i<48->f i<2^64):WrdR (zcb n f).to:=fun i hi=>by
 unfold zcb;dsimp only
 split
 ·rename_i h1;exact h i h1 hi
 ·decide
theorem zjI {to:Nat->Nat} (ht:WrdR to):∀ (l:List Nat) (t:Nat),t<2^64->(∀ i∈l,i<48)->l.foldl (fun t a=>t|||to a) t<2^64
 | [],t,h,_=>h
 | x::l,t,h,hl=>by
  rw [List.foldl_cons];exact zjI ht l _ (Nat.or_lt_two_pow h (ht x (hl x List.mem_cons_self))) fun i hi=>hl i (List.mem_cons_of_mem _ hi)
section
variable {ra rb:RelD} {w:World}
theorem zok {ba bb i:Nat} (fa:w.heap[ba]?=some (.cells (relC ra).toArray 102 (0,0))) (fb:w.heap[bb]?=some (.cells (relC rb).toArray 102 (0,0))) (ha:WrdR ra.to) (hb:WrdR rb.to) (hi:i<48) :
  CB 256 (i64 (i:Nat)::[At0 ba,At0 bb]).toArray w (s64 (ra.to i|||rb.to i)):=by
 refine cofE 14 (i64 (i:Nat)::[At0 ba,At0 bb]) Tryz.func256 ?_;refine DrawE.ord [] [0,1,2,3,4,5,6,7,8,9] (by kernel_rfl) ?_;have hd:Bw w w.drew:=(Below.refl _ w).drew;refine⟨i,rfl,hi,?_⟩;refine⟨_,zb8 (hdr fa) hi,?_⟩;refine⟨i,rfl,hi,?_⟩;refine⟨_,zb8 (hdr fb) hi,?_⟩;exact⟨_,zb2 (ha i hi) (hb i hi),rfl,hd⟩
theorem zqq (ha:WrdR ra.to) (hb:WrdR rb.to):CB 222 #[.agg (relC ra).toArray,.agg (relC rb).toArray] w (.tuple #[.agg (relC (zeP ra rb).1).toArray,i64 (zeP ra rb).2]):=by
 refine cofM 10 [.agg (relC ra).toArray,.agg (relC rb).toArray] (.c .p .p) Tryz.func222 ?_;obtain⟨L,hL⟩:=nm (w.heap.size);refine⟨Unit,fun _=>⟨[(2,At0 L),(3,At0 (L+1)),(4,At0 (L+2)),(5,i64 0)],[]⟩,fun _ X=>X.heap[L]?=some (.cells (relC ra).toArray 102 (0,0))/\X.heap[L+1]?=some (.cells (relC rb).toArray 102 (0,0))/\X.heap[L+2]?=some (.cells (relC zav).toArray 102 (0,0))/\Bw w X,?_,?_⟩
 ·have s1:=wz w (.cells (relC ra).toArray 102);have s2:=wz (w.alloc (.cells (relC ra).toArray 102)) (.cells (relC rb).toArray 102);have h2:=hnew (w.alloc (.cells (relC ra).toArray 102)) (.cells (relC rb).toArray 102);have h3:=hnew ((w.alloc (.cells (relC ra).toArray 102)).alloc (.cells (relC rb).toArray 102)) (.cells (relC zav).toArray 102);rw [s1] at s2 h2;rw [s2] at h3;refine⟨(),⟨.cons (by rw [hL];rfl) (.cons (by rw [hL,<- s1];rfl) (.cons (by rw [hL,<- s2];rfl) (.cons rfl .nil))),rfl⟩,?_,?_,?_,?_⟩
  ·rw [hL];exact hold _ (hold _ (hnew w _))
  ·rw [hL];exact hold _ h2
  ·rw [hL];exact h3
  ·exact (((zba w _)).alloc (by simp) _).alloc (by simp;omega) _
 rintro _ X ⟨f0,f1,f2,hbX⟩;refine cmo (zfX (row:=fun i=>ra.to i|||rb.to i) f0 f1 ha hb (by kernel_rfl) (fun e h1 h2 i Y hi hbY=>?_)) ?_
 ·have h48:=(za5 h1).2.1;exact zok (zab hbY f0) (zab hbY f1) ha hb (by omega)
 rintro e Y ⟨rfl,hbY⟩;refine zam (v := .agg (relC (zeP ra rb).1).toArray) k102 (zab hbY f2) rfl rfl (zau _) ?_;exact⟨relC (zeP ra rb).1,zad _,zaa (zaj (zab hbY f2)),rfl,zag ((zst hbX hbY)) (by omega) _⟩
theorem zqD {ba bb i:Nat} (fa:w.heap[ba]?=some (.cells (relC ra).toArray 102 (0,0))) (fb:w.heap[bb]?=some (.cells (relC rb).toArray 102 (0,0))) (ha:WrdR ra.to) (hb:WrdR rb.to) (hi:i<48) :
  CB 226 (i64 (i:Nat)::[At0 ba,At0 bb]).toArray w (s64 (ra.to i&&&rb.to i)):=by
 refine cofE 14 (i64 (i:Nat)::[At0 ba,At0 bb]) Tryz.func226 ?_;refine DrawE.ord [] [0,1,2,3,4,5,6,7,8,9] (by kernel_rfl) ?_;have hd:Bw w w.drew:=(Below.refl _ w).drew;refine⟨i,rfl,hi,?_⟩;refine⟨_,zb8 (hdr fa) hi,?_⟩;refine⟨i,rfl,hi,?_⟩;refine⟨_,zb8 (hdr fb) hi,?_⟩;exact⟨_,zbz (ha i hi) (hb i hi),rfl,hd⟩
theorem zoS (ha:WrdR ra.to) (hb:WrdR rb.to):CB 164 #[.agg (relC ra).toArray,.agg (relC rb).toArray] w (.tuple #[.agg (relC (zdi ra rb).1).toArray,i64 (zdi ra rb).2]):=by
 refine cofM 10 [.agg (relC ra).toArray,.agg (relC rb).toArray] (.c .p .p) Tryz.func164 ?_;obtain⟨L,hL⟩:=nm (w.heap.size);refine⟨Unit,fun _=>⟨[(2,At0 L),(3,At0 (L+1)),(4,At0 (L+2)),(5,i64 0)],[]⟩,fun _ X=>X.heap[L]?=some (.cells (relC ra).toArray 102 (0,0))/\X.heap[L+1]?=some (.cells (relC rb).toArray 102 (0,0))/\X.heap[L+2]?=some (.cells (relC zav).toArray 102 (0,0))/\Bw w X,?_,?_⟩
 ·have s1:=wz w (.cells (relC ra).toArray 102);have s2:=wz (w.alloc (.cells (relC ra).toArray 102)) (.cells (relC rb).toArray 102);have h2:=hnew (w.alloc (.cells (relC ra).toArray 102)) (.cells (relC rb).toArray 102);have h3:=hnew ((w.alloc (.cells (relC ra).toArray 102)).alloc (.cells (relC rb).toArray 102)) (.cells (relC zav).toArray 102);rw [s1] at s2 h2;rw [s2] at h3;refine⟨(),⟨.cons (by rw [hL];rfl) (.cons (by rw [hL,<- s1];rfl) (.cons (by rw [hL,<- s2];rfl) (.cons rfl .nil))),rfl⟩,?_,?_,?_,?_⟩
  ·rw [hL];exact hold _ (hold _ (hnew w _))
  ·rw [hL];exact hold _ h2
  ·rw [hL];exact h3
  ·exact (((zba w _)).alloc (by simp) _).alloc (by simp;omega) _
 rintro _ X ⟨f0,f1,f2,hbX⟩;refine cmo (zfX (row:=fun i=>ra.to i&&&rb.to i) f0 f1 ha hb (by kernel_rfl) (fun e h1 h2 i Y hi hbY=>?_)) ?_
 ·have h48:=(za5 h1).2.1;exact zqD (zab hbY f0) (zab hbY f1) ha hb (by omega)
 rintro e Y ⟨rfl,hbY⟩;refine zam (v := .agg (relC (zdi ra rb).1).toArray) k102 (zab hbY f2) rfl rfl (zau _) ?_;exact⟨relC (zdi ra rb).1,zad _,zaa (zaj (zab hbY f2)),rfl,zag ((zst hbX hbY)) (by omega) _⟩
theorem zqr {ba bb i:Nat} (fa:w.heap[ba]?=some (.cells (relC ra).toArray 102 (0,0))) (fb:w.heap[bb]?=some (.cells (relC rb).toArray 102 (0,0))) (ha:WrdR ra.to) (hb:WrdR rb.to) (hi:i<48) (h48:∀ j∈els (ra.to i),j<48) (hT:Tz64M w) :
  CB 224 (i64 (i:Nat)::[At0 bb,At0 ba]).toArray w (s64 (zgw rb.to (ra.to i))):=by
 refine cofE 10 (i64 (i:Nat)::[At0 bb,At0 ba]) Tryz.func224 ?_;refine⟨i,rfl,hi,?_⟩;refine⟨_,zb8 fa hi,?_⟩;refine cmo (zpG fb hb (ha i hi) h48 hT) ?_;rintro e Y ⟨rfl,hbY⟩;exact⟨rfl,hbY⟩
theorem zdK (ha:WrdR ra.to) (hb:WrdR rb.to) (hT:Tz64M w):CB 163 #[.agg (relC ra).toArray,.agg (relC rb).toArray] w (.tuple #[.agg (relC (zbJ ra rb).1).toArray,i64 (zbJ ra rb).2]):=by
 refine cofM 10 [.agg (relC ra).toArray,.agg (relC rb).toArray] (.c .p .p) Tryz.func163 ?_;obtain⟨L,hL⟩:=nm (w.heap.size);refine⟨Unit,fun _=>⟨[(2,At0 L),(3,At0 (L+1)),(4,At0 (L+2)),(5,i64 0)],[]⟩,fun _ X=>X.heap[L]?=some (.cells (relC ra).toArray 102 (0,0))/\X.heap[L+1]?=some (.cells (relC rb).toArray 102 (0,0))/\X.heap[L+2]?=some (.cells (relC zav).toArray 102 (0,0))/\Bw w X,?_,?_⟩
 ·have s1:=wz w (.cells (relC ra).toArray 102);have s2:=wz (w.alloc (.cells (relC ra).toArray 102)) (.cells (relC rb).toArray 102);have h2:=hnew (w.alloc (.cells (relC ra).toArray 102)) (.cells (relC rb).toArray 102);have h3:=hnew ((w.alloc (.cells (relC ra).toArray 102)).alloc (.cells (relC rb).toArray 102)) (.cells (relC zav).toArray 102);rw [s1] at s2 h2;rw [s2] at h3;refine⟨(),⟨.cons (by rw [hL];rfl) (.cons (by rw [hL,<- s1];rfl) (.cons (by rw [hL,<- s2];rfl) (.cons rfl .nil))),rfl⟩,?_,?_,?_,?_⟩
  ·rw [hL];exact hold _ (hold _ (hnew w _))
  ·rw [hL];exact hold _ h2
  ·rw [hL];exact h3
  ·exact (((zba w _)).alloc (by simp) _).alloc (by simp;omega) _
 rintro _ X ⟨f0,f1,f2,hbX⟩;refine cmo (zfX (row:=fun i=>zgw rb.to (ra.to i)) f0 f1 ha hb (by kernel_rfl) (fun e h1 h2 i Y hi hbY=>?_)) ?_
 ·have h48:=(za5 h1).2.1;exact zqr (zab hbY f0) (zab hbY f1) ha hb (by omega) (fun j hj=>(ziC h1 ha (by omega) j hj).2) ((hT.below hbX).below hbY)
 rintro e Y ⟨rfl,hbY⟩;refine zam (v := .agg (relC (zbJ ra rb).1).toArray) k102 (zab hbY f2) rfl rfl (zau _) ?_;exact⟨relC (zbJ ra rb).1,zad _,zaa (zaj (zab hbY f2)),rfl,zag ((zst hbX hbY)) (by omega) _⟩
theorem zoo {ba bb i a b:Nat} (fa:w.heap[ba]?=some (.cells #[s64 a] 99 (0,0))) (fb:w.heap[bb]?=some (.cells #[s64 b] 99 (0,0))) (hi:i<48) :
  CB 249 (i64 (i:Nat)::[At0 ba,At0 bb]).toArray w (s64 (if a.testBit i then b else 0)):=by
 refine cofE 11 (i64 (i:Nat)::[At0 ba,At0 bb]) Tryz.func249 ?_;refine⟨_,zac (zaa fa) (i:=0) rfl,?_⟩;refine⟨by omega,_,zgM (k:=i) (by omega),?_⟩;have e1:IntKind.u64.wrap ((BitVec.ofInt IntKind.u64.bits ((a/2^i:Nat):Int)&&&BitVec.ofInt IntKind.u64.bits (1:Int)).toNat:Int)=((a/2^i&&&1:Nat):Int):=by
  show IntKind.u64.wrap ((BitVec.ofInt 64 ((a/2^i:Nat):Int)&&&BitVec.ofInt 64 (1:Int)).toNat:Int)=_;rw [BitVec.toNat_and,show (BitVec.ofInt 64 (1:Int)).toNat=1 from rfl,Nat.and_one_is_mod,Nat.and_one_is_mod,BitVec.toNat_ofInt];have e2:(((a/2^i:Nat):Int)%((2^64:Nat):Int)).toNat=(a/2^i)%2^64:=by
   rw [<- Int.natCast_emod,Int.toNat_natCast]
  rw [e2];generalize a/2^i=m;rw [w64 (by omega)];omega
 refine⟨_,e1,?_⟩;rw [zi4];refine biE (fun h=>?_) fun h=>?_
 ·have h:a.testBit i=false:=by
   cases hc:a.testBit i with
   | false=>rfl
   | true =>
    rw [hc] at h;exact absurd h (by decide)
  exact⟨by rw [h];rfl,Below.refl _ _⟩
 ·have h:a.testBit i=true:=by
   cases hc:a.testBit i with
   | true=>rfl
   | false =>
    rw [hc] at h;exact absurd h (by decide)
  refine⟨_,zac (zaa fb) (i:=0) rfl,?_⟩;exact⟨by rw [h];rfl,Below.refl _ _⟩
theorem zqB {n a b:Nat} (hn:n<=48) (ha:a<2^64) (hb:b<2^64):CB 211 #[i64 n,s64 a,s64 b] w (.agg (relC (zh4 n a b)).toArray):=by
 refine cofM 21 [i64 n,s64 a,s64 b] (.c .p (.s .p (.s .p .p))) Tryz.func211 ?_;obtain⟨L,hL⟩:=nm (w.heap.size);refine⟨Unit,fun _=>⟨[(0,i64 n),(4,At0 L),(5,At0 (L+1)),(6,At0 (L+2))],[]⟩,fun _ X=>X.heap[L]?=some (.cells #[s64 a] 99 (0,0))/\X.heap[L+1]?=some (.cells [s64 b].toArray 99 (0,0))/\X.heap[L+2]?=some (.cells (relC zav).toArray 102 (0,0))/\Bw w X,?_,?_⟩
 ·have s1:=wz w (.cells #[s64 a] 99);have s2:=wz (w.alloc (.cells #[s64 a] 99)) (.cells #[s64 b] 99);have h2:=hnew (w.alloc (.cells #[s64 a] 99)) (.cells #[s64 b] 99);have h3:=hnew ((w.alloc (.cells #[s64 a] 99)).alloc (.cells #[s64 b] 99)) (.cells (relC zav).toArray 102);rw [s1] at s2 h2;rw [s2] at h3;refine⟨(),⟨.cons rfl (.cons (by rw [hL];rfl) (.cons (by rw [hL,<- s1];rfl) (.cons (by rw [hL,<- s2];rfl) .nil))),rfl⟩,?_,?_,?_,?_⟩
  ·rw [hL];exact hold _ (hold _ (hnew w _))
  ·rw [hL];exact hold _ h2
  ·rw [hL];exact h3
  ·exact (((zba w _)).alloc (by simp) _).alloc (by simp;omega) _
 rintro _ X ⟨f0,f1,f2,hbX⟩;refine brN (decide_eq_false (by omega)) ?_;refine brN (decide_eq_false (by omega)) ?_;refine DrawE.ord [4] [0,1,2,3,4] (by kernel_rfl) ?_;refine⟨_,zac (zaa (hdr f1)) (i:=0) rfl,?_⟩;refine cmo zkZ ?_;rintro e _ ⟨rfl,rfl⟩;refine⟨Below.refl _ _,?_⟩;refine⟨_,zbz (a:=b) (b:=allN n) hb (zc1 _),?_⟩;have hd:Bw X X.drew:=(Below.refl _ X).drew;refine zal k99 (hdr f1) (o:=0) (v:=s64 (b&&&allN n)) rfl rfl (by show 0<1;decide) rfl fun Y fY gY sY=>?_;have fY:Y.heap[L+1]?=some (.cells #[s64 (b&&&allN n)] 99 (0,0)):=fY;have hbY:Bw w Y:=((zst hbX hd)).trans (zak gY hbX.size (by omega));have f0Y:=(gY.block L (hlt (hdr f0)) (by simp)).trans (hdr f0);have f2Y:=(gY.block (L+2) (hlt (hdr f2)) (by simp)).trans (hdr f2);refine cmo (zi2 (w:=Y) (n:=n) (row:=fun x=>if a.testBit x then b&&&allM n else 0) hn (by kernel_rfl) (fun i Z hi hbZ=>zoo (zab hbZ f0Y) (zab hbZ fY) (by omega))) ?_;rintro e Z ⟨rfl,hbZ⟩;have f2Z:=zab hbZ f2Y;refine zam (v := .agg (relC (zh4 n a b)).toArray) k102 f2Z rfl rfl (zau _) ?_;exact⟨relC (zh4 n a b),zad _,zaa (zaj f2Z),rfl,zag ((zst hbY hbZ)) (by omega) _⟩
theorem zse {ba i s:Nat} (fa:w.heap[ba]?=some (.cells #[s64 s] 99 (0,0))) (hs:s<2^64) (hi:i<48) :
  CB 292 (i64 (i:Nat)::[At0 ba]).toArray w (s64 (s&&&2^i)):=by
 refine cofE 8 (i64 (i:Nat)::[At0 ba]) Tryz.func292 ?_;refine DrawE.ord [] [0,1,2,3,4] (by kernel_rfl) ?_;refine⟨_,zac (zaa (hdr fa)) (i:=0) rfl,?_⟩;refine⟨by omega,_,zby (e:=i) (by omega),?_⟩;exact⟨_,zbz hs (zaF (by omega)),rfl,(Below.refl _ w).drew⟩
theorem Id_c {n s:Nat} (hn:n<=48) (hs:s<2^64):CB 258 #[i64 n,s64 s] w (.agg (relC (idR n s)).toArray):=by
 refine cofM 15 [i64 n,s64 s] (.c .p (.s .p .p)) Tryz.func258 ?_;obtain⟨L,hL⟩:=nm (w.heap.size);refine⟨Unit,fun _=>⟨[(0,i64 n),(3,At0 L),(4,At0 (L+1))],[]⟩,fun _ X=>X.heap[L]?=some (.cells #[s64 s] 99 (0,0))/\X.heap[L+1]?=some (.cells (relC zav).toArray 102 (0,0))/\Bw w X,?_,?_⟩
 ·have s1:=wz w (.cells #[s64 s] 99);have h2:=hnew (w.alloc (.cells #[s64 s] 99)) (.cells (relC zav).toArray 102);rw [s1] at h2;refine⟨(),⟨.cons rfl (.cons (by rw [hL];rfl) (.cons (by rw [hL,<- s1];rfl) .nil)),rfl⟩,?_,?_,?_⟩
  ·rw [hL];exact hold _ (hnew w _)
  ·rw [hL];exact h2
  ·exact ((zba w _)).alloc (by simp) _
 rintro _ X ⟨f0,f1,hbX⟩;refine brN (decide_eq_false (by omega)) ?_;refine brN (decide_eq_false (by omega)) ?_;refine cmo (zi2 (w:=X) (n:=n) (row:=fun a=>s&&&2^a) hn (by kernel_rfl) (fun i Z hi hbZ=>zse (zab hbZ f0) hs (by omega))) ?_;rintro e Z ⟨rfl,hbZ⟩;have f1Z:=zab hbZ f1;refine zam (v := .agg (relC (idR n s)).toArray) k102 f1Z rfl rfl (zau _) ?_;exact⟨relC (idR n s),zad _,zaa (zaj f1Z),rfl,zag ((zst hbX hbZ)) (by omega) _⟩
theorem zrK (ha:WrdR ra.to):CB 227 #[.agg (relC ra).toArray] w (s64 (zl9 ra)):=by
 refine cofE 24 [.agg (relC ra).toArray] Tryz.func227 ?_;have f0:=hnew w (.cells (relC ra).toArray 102);have hb:Bw w (w.alloc (.cells (relC ra).toArray 102)):=zba w _;refine⟨relC ra,zad _,zaa f0,hlt f0,?_⟩;refine cmo (zbl ha) ?_;rintro e X ⟨rfl,hbX⟩;have hbw:=zst hb hbX;have fX:=zab hbX f0;refine biE (fun h=>?_) fun h=>?_
 ·have h:okR ra=false:=by
   have h:(!okR ra)=true:=h;simpa using h
  exact⟨by unfold zl9;rw [h];rfl,hbw⟩
 have h:okR ra=true:=by
  have h:(!okR ra)=false:=h;simpa using h
 obtain⟨p0,p48,_⟩:=za5 h;obtain⟨n,hn⟩:∃ n:Nat,ra.n=n:=⟨ra.n.toNat,by omega⟩;refine⟨i64 n,by rw [<- hn];exact zac (zaa fX) (i:=0) rfl,?_⟩;have e0:zl9 ra=(List.range n).foldl (fun s a=>if ra.to a=0 then s else s|||2^a) 0:=by unfold zl9;rw [if_pos h,hn];rfl
 refine⟨Nat,fun k=>⟨[(1,.pointer (some ⟨w.heap.size,0,none⟩)),(3,s64 ((List.range k).foldl (fun s a=>if ra.to a=0 then s else s|||2^a) 0)),(9,i64 n),(10,i64 (k:Nat))],[]⟩,fun k Y=>X=Y/\k<=n/\(List.range k).foldl (fun s a=>if ra.to a=0 then s else s|||2^a) 0<2^64,fun k=>n-k,0,
  (cvE rfl rfl),⟨rfl,Nat.zero_le _,(by decide:0<2^64)⟩,?_⟩
 rintro k _ ⟨rfl,hk,hlt64⟩;refine biE (fun hc=>?_) fun hc=>?_
 ·have hc:(k:Int)<(n:Int):=dT hc;have hkn:k<n:=by omega
  have step:(List.range (k+1)).foldl (fun s a=>if ra.to a=0 then s else s|||2^a) 0=if ra.to k=0 then (List.range k).foldl (fun s a=>if ra.to a=0 then s else s|||2^a) 0 else (List.range k).foldl (fun s a=>if ra.to a=0 then s else s|||2^a) 0|||2^k:=by
   rw [List.range_succ,List.foldl_append];rfl
  refine⟨k,rfl,by omega,?_⟩;refine⟨_,zb8 fX (by omega),?_⟩;refine biE (fun h1=>?_) fun h1=>?_
  ·have h1:¬ ra.to k=0:=fun e=>by
    have h1:(!decide (((ra.to k:Nat):Int)=0))=true:=h1;rw [e] at h1;exact absurd h1 (by decide)
   rw [if_neg h1] at step;refine⟨by omega,_,zby (e:=k) (by omega),?_⟩;refine⟨_,zb2 hlt64 (zaF (by omega)),?_⟩;refine nxI (by omega) ?_;exact⟨k+1,⟨.cons rfl (.cons (by rw [step];rfl) (.cons rfl (.cons rfl .nil))),rfl⟩,⟨rfl,hkn,by rw [step];exact Nat.or_lt_two_pow hlt64 (zaF (by omega))⟩,zdc (by omega)⟩
  ·have h1:ra.to k=0:=by
    have h1:(!decide (((ra.to k:Nat):Int)=0))=false:=h1;have h2:decide (((ra.to k:Nat):Int)=0)=true:=(by simpa using h1);exact Int.ofNat.inj (dT h2)
   rw [if_pos h1] at step;refine nxI (by omega) ?_;exact⟨k+1,⟨.cons rfl (.cons (by rw [step];rfl) (.cons rfl (.cons rfl .nil))),rfl⟩,⟨rfl,hkn,by rw [step];exact hlt64⟩,zdc (by omega)⟩
 ·have hc:¬ (k:Int)<(n:Int):=dF hc;obtain rfl:k=n:=by omega
  exact⟨by rw [e0];rfl,hbw⟩
theorem zqA (ha:WrdR ra.to):CB 165 #[.agg (relC ra).toArray] w (.bool (zdJ ra)):=by
 refine cofE 10 [.agg (relC ra).toArray] Tryz.func165 ?_;have f0:=hnew w (.cells (relC ra).toArray 102);have hb:Bw w (w.alloc (.cells (relC ra).toArray 102)):=zba w _;refine⟨relC ra,zad _,zaa f0,hlt f0,?_⟩;refine cmo (zbl ha) ?_;rintro e X ⟨rfl,hbX⟩;have hbw:=zst hb hbX;have fX:=zab hbX f0;refine biE (fun h=>?_) fun h=>?_
 ·have h:okR ra=true:=h;refine⟨relC ra,zad _,zaa fX,hlt fX,?_⟩;refine cmo (zrK ha) ?_;rintro e Y ⟨rfl,hbY⟩;refine⟨rb ?_,(zst hbw hbY)⟩;unfold zdJ;rw [h,Bool.true_and];exact decide_eq_decide.2 Int.ofNat_inj
 ·have h:okR ra=false:=h;exact⟨rb (by unfold zdJ;rw [h];rfl),hbw⟩
end
theorem zgN {f:Nat->Nat} (h:WrdR f) {i v:Nat} (hv:v<2^64):WrdR (upd f i v):=fun j hj=>by
 by_cases e:j=i
 ·rw [e,zbd];exact hv
 ·rw [zcx _ _ e];exact h j hj
def zrz (a:Nat) (l:List Nat) (f:Nat->Nat):Nat->Nat:=l.foldl (fun f b=>upd f b (f b|||2^a)) f
section
variable {r:RelD} {w:World}
theorem zif (hr:WrdR r.to) (hT:Tz64M w):Calls Tryz.prog 214 #[.agg (relC r).toArray] w fun e w'=>e = .returned (.agg (relC (zbw r)).toArray)/\Bw w w'/\WrdR (zbw r).to:=by
 refine cofM 50 [.agg (relC r).toArray] (.c .p (.s .p (.s .p (.c .p .p)))) Tryz.func214 ?_;obtain⟨L,hL⟩:=nm (w.heap.size);refine⟨Unit,fun _=>⟨[(1,At0 L),(2,At0 (L+1))],[]⟩,fun _ X=>X.heap[L]?=some (.cells (relC r).toArray 102 (0,0))/\X.heap[L+1]?=some (.cells (relC zav).toArray 102 (0,0))/\X.heap.size=L+2/\Bw w X,?_,?_⟩
 ·have s1:=wz w (.cells (relC r).toArray 102);have h2:=hnew (w.alloc (.cells (relC r).toArray 102)) (.cells (relC zav).toArray 102);have s2:=wz (w.alloc (.cells (relC r).toArray 102)) (.cells (relC zav).toArray 102);rw [s1] at h2 s2;refine⟨(),⟨.cons (by rw [hL];rfl) (.cons (by rw [hL,<- s1];rfl) .nil),rfl⟩,?_,?_,?_,?_⟩
  ·rw [hL];exact hold _ (hnew w _)
  ·rw [hL];exact h2
  ·rw [hL];exact s2
  ·exact ((zba w _)).alloc (by simp) _
 rintro _ X ⟨f0,f1,sX,hbX⟩;refine⟨relC r,zad _,zaa f0,hlt f0,?_⟩;refine cmo (zbl hr) ?_;rintro e Y ⟨rfl,hbY⟩;have hbwY:=zst hbX hbY;have f0Y:=zab hbY f0;have f1Y:=zab hbY f1;refine biE (fun h=>?_) fun h=>?_
 ·have h:okR r=false:=by
   have h:(!okR r)=true:=h;simpa using h
  have e:zbw r=zav:=by unfold zbw;rw [h];rfl
  rw [e];refine⟨relC zav,rfl,?_⟩;refine zam (v := .agg (relC zav).toArray) k102 f1Y rfl rfl (zau _) ?_;exact⟨relC zav,zad _,zaa (zaj f1Y),rfl,zag hbwY (by omega) _,fun i _=>(by decide:0<2^64)⟩
 have h:okR r=true:=by
  have h:(!okR r)=false:=h;simpa using h
 obtain⟨p0,p48,_⟩:=za5 h;obtain⟨n,hn⟩:∃ n:Nat,r.n=n:=⟨r.n.toNat,by omega⟩;have hn48:n<=48:=by omega
 have e0:zbw r=⟨n,zcH r.to n⟩:=by unfold zbw;rw [if_pos h,hn];rfl
 rw [e0];have hnY:Y.cell? ⟨L,0+0,none⟩=some (i64 n):=by rw [<- hn];exact zac (zaa f0Y) (i:=0) rfl
 refine⟨i64 n,hnY,?_⟩;refine⟨relC ⟨n,fun _=>0⟩,rfl,?_⟩;have sY:=hbY.size;refine zap (X:=Y) (v := .agg (relC ⟨n,fun _=>0⟩).toArray) k102 rfl rfl (zau _) fun Z hbZ fZ sZ=>?_;obtain⟨M,hM⟩:=nm (Y.heap.size);rw [<- hM] at fZ sZ;have pM:some (Value.pointer (some ⟨Y.heap.size,0,none⟩))=some (At0 M):=by rw [hM]
 have hbwZ:=zst hbwY hbZ;refine⟨Unit,fun _=>⟨[(1,At0 L),(2,At0 (L+1)),(3,At0 M)],[]⟩,fun _ V=>V.heap[M]?=some (.cells (relC ⟨n,zcH r.to n⟩).toArray 102 (0,0))/\V.heap[L+1]?=some (.cells (relC zav).toArray 102 (0,0))/\Bw w V/\WrdR (zcH r.to n),?_,?_⟩
 ·refine⟨i64 n,by rw [<- hn];exact zac (zaa (zab hbZ f0Y)) (i:=0) rfl,?_⟩;refine⟨Nat,fun k=>⟨[(1,At0 L),(2,At0 (L+1)),(3,At0 M),(16,i64 n),(17,i64 (k:Nat))],[]⟩,
   fun k V=>k<=n/\V.heap[M]?=some (.cells (relC ⟨n,zcH r.to k⟩).toArray 102 (0,0))/\WrdR (zcH r.to k)/\Below M Z V,fun k=>n-k,0,
   ⟨.cons rfl (.cons rfl (.cons pM (.cons rfl (.cons rfl .nil)))),rfl⟩,⟨Nat.zero_le _,fZ,fun i _=>(by decide:0<2^64),Below.refl _ _⟩,?_⟩
  rintro k V ⟨hk,fV,hwV,hbV⟩;have sV:=hbV.size;refine biE (fun hc=>?_) fun hc=>?_
  ·have hc:(k:Int)<(n:Int):=dT hc;have hkn:k<n:=by omega
   have step:zcH r.to (k+1)=zrz k (els (r.to k)) (zcH r.to k):=by
    unfold zcH;rw [List.range_succ,List.foldl_append];rfl
   have h48:=ziC h hr (a:=k) (by omega);have f0V:V.heap[L]?=some (.cells (relC r).toArray 102 (0,0)):=(hbV.block L (by omega)).trans (zab hbZ f0Y);have hTV:Tz64M V:=hT.below (hbwZ.trans (hbV.mono (by omega)));refine⟨k,rfl,by omega,?_⟩;refine⟨_,zb8 f0V (by omega),?_⟩;refine cmo (zcq (hr k (by omega)) hTV) ?_;rintro e U ⟨rfl,hbU⟩;refine⟨(Nat->Nat)×Nat,fun q=>⟨[(1,At0 L),(2,At0 (L+1)),(3,At0 M),(4,i64 (k:Nat)),(5,s64 q.2),(6,i64 ((els q.2).headD 0:Nat)),(7,.bool (!(els q.2).isEmpty)),(16,i64 n),(17,i64 (k:Nat))],[]⟩,
    fun q T=>(zcH r.to (k+1)=zrz k (els q.2) q.1/\WrdR q.1/\q.2<2^64/\∀ b∈els q.2,b<48)/\T.heap[M]?=some (.cells (relC ⟨n,q.1⟩).toArray 102 (0,0))/\Below M Z T,fun q=>q.2,(zcH r.to k,r.to k),
    (cvE rfl rfl),⟨⟨step,hwV,hr k (by omega),fun b hb=>(h48 b hb).2⟩,zab hbU fV,hbV.trans (hbU.mono (by omega))⟩,?_⟩
   rintro⟨g,q⟩ T ⟨⟨he,hg,hq,hb48⟩,fT,hbT⟩;dsimp only at he hg hq hb48 fT ⊢;have sT:=hbT.size;refine biE (fun hc=>?_) fun hc=>?_
   ·have h0:=zfd hq hc;obtain⟨e1,e2,_,e3⟩:=zbq h0 hq;have hd:=(zcU h0 hq).1;have hc48:ctz q<48:=hb48 _ (by rw [e1];exact List.mem_cons_self);rw [hd];refine DrawE.ord [9] [0,1,2,3,4,5,6,7,8,9] (by kernel_rfl) ?_;refine⟨ctz q,rfl,hc48,?_⟩;refine⟨_,zb8 (hdr fT) hc48,?_⟩;refine⟨by omega,_,zby (e:=k) (by omega),?_⟩;refine⟨_,zb2 (hg _ hc48) (zaF (by omega)),?_⟩;refine⟨ctz q,rfl,hc48,?_⟩;refine zal k99 (hdr fT) (o:=0+1+ctz q*1) (v:=s64 (g (ctz q)|||2^k)) rfl rfl (by rw [zad];omega) rfl fun S fS gS sS=>?_;rw [Nat.zero_add,Nat.mul_one,ze4 _ hc48] at fS;have hdT:Bw T T.drew:=(Below.refl _ T).drew;have hbS:Below M Z S:=(hbT.trans (hdT.mono (show M<=T.heap.size by omega))).trans (zak gS (show M<=T.heap.size by omega) (Nat.le_refl _));refine⟨((q-1:Nat):Int),(w64 (a:=(q:Int)-1) (by omega)).trans (by omega),?_⟩;refine⟨((rest q:Nat):Int),zbz (a:=q) (b:=q-1) hq (by omega),?_⟩;refine cmo (zcq (s:=rest q) (by omega) (hT.below (hbwZ.trans (hbS.mono (by omega))))) ?_;rintro e R ⟨rfl,hbR⟩;have sS2:=hbS.size;refine⟨(upd g (ctz q) (g (ctz q)|||2^k),rest q),(cvE rfl rfl),⟨⟨?_,zgN hg (Nat.or_lt_two_pow (hg _ hc48) (zaF (by omega))),by show rest q<_;omega,fun b hb=>hb48 b (by rw [e1];exact List.mem_cons_of_mem _ hb)⟩,zab hbR fS,hbS.trans (hbR.mono (by omega))⟩,e2⟩;rw [he,e1];rfl
   ·have hc:(els q).isEmpty=true:=(by simpa using hc);have:=zhg hq hc;subst this;rw [zcY] at he;have he:zcH r.to (k+1)=g:=he;refine nxI (by omega) ?_;exact⟨k+1,(cvE rfl rfl),⟨hkn,by rw [he];exact fT,by rw [he];exact hg,hbT⟩,zdc (by omega)⟩
  ·have hc:¬ (k:Int)<(n:Int):=dF hc;obtain rfl:k=n:=by omega
   exact⟨(),(cvE rfl rfl),fV,(hbV.block (L+1) (by omega)).trans (zab hbZ f1Y),hbwZ.trans (hbV.mono (by omega)),hwV⟩
 clear fZ sZ pM hbwZ hbZ Z;rintro _ V ⟨fM,f1V,hbV,hw⟩;refine⟨relC ⟨n,zcH r.to n⟩,zad _,zaa fM,hlt fM,?_⟩;refine zam (v := .agg (relC ⟨n,zcH r.to n⟩).toArray) k102 f1V rfl rfl (zau _) ?_;exact⟨relC ⟨n,zcH r.to n⟩,zad _,zaa (zaj f1V),rfl,zag hbV (by omega) _,hw⟩
theorem zmc {p:Nat->Bool} {x:Nat} {l:List Nat}:(x::l).find? p=if p x then some x else l.find? p:=by
 rw [List.find?_cons]
 cases p x <;> rfl
theorem zq4 {b left:Nat} (f:w.heap[b]?=some (.cells (relC r).toArray 102 (0,0))) (hr:WrdR r.to) (hs:left<2^64) (h48:∀ i∈els left,i<48) (hT:Tz64M w) :
  CB 255 #[At0 b,s64 left] w (.tuple #[i64 ((zge r.to left).getD 0:Nat),.bool (zge r.to left).isSome]):=by
 refine cofE 35 [At0 b,s64 left] Tryz.func255 ?_;refine cmo (zcq hs hT) ?_;rintro e X ⟨rfl,hbX⟩;refine⟨Nat,fun q=>⟨[(0,At0 b),(1,s64 left),(6,s64 q),(7,i64 ((els q).headD 0:Nat)),(8,.bool (!(els q).isEmpty))],[]⟩,
  fun q Y=>zge r.to left=(els q).find? (fun a=>decide (r.to a&&&left=0))/\(q<2^64/\∀ i∈els q,i<48)/\Bw w Y,fun q=>q,left,
  (cvE rfl rfl),⟨rfl,⟨hs,h48⟩,hbX⟩,?_⟩
 clear hbX X;rintro q X ⟨he,⟨hq,h48⟩,hbX⟩;refine biE (fun hc=>?_) fun hc=>?_
 ·have h0:=zfd hq hc;obtain⟨e1,e2,_,e3⟩:=zbq h0 hq;have hd:=(zcU h0 hq).1;have hc48:ctz q<48:=h48 _ (by rw [e1];exact List.mem_cons_self);have fX:=zab hbX f;refine⟨ctz q,congrArg Nat.cast hd.symm,hc48,?_⟩;refine⟨_,zb8 fX hc48,?_⟩;refine⟨_,zbz (hr _ hc48) hs,?_⟩;rw [e1,zmc] at he;refine biE (fun h=>?_) fun h=>?_
  ·have h:r.to (ctz q)&&&left=0:=Int.ofNat.inj (dT h);rw [decide_eq_true h] at he;have he:zge r.to left=some (ctz q):=he;exact⟨by rw [he,<- hd];rfl,hbX⟩
  ·have h:¬ r.to (ctz q)&&&left=0:=fun e=>by
    have h:¬ (((r.to (ctz q)&&&left:Nat):Int)=0):=dF h;exact h (by rw [e];rfl)
   rw [decide_eq_false h] at he;refine⟨((q-1:Nat):Int),(w64 (a:=(q:Int)-1) (by omega)).trans (by omega),?_⟩;refine⟨((rest q:Nat):Int),zbz (a:=q) (b:=q-1) hq (by omega),?_⟩;refine cmo (zcq (s:=rest q) (by omega) (hT.below hbX)) ?_;rintro e Y ⟨rfl,hbY⟩;exact⟨rest q,(cvE rfl rfl),⟨he,⟨by omega,fun i hi=>h48 i (by rw [e1];exact List.mem_cons_of_mem _ hi)⟩,(zst hbX hbY)⟩,e2⟩
 ·have hc:(els q).isEmpty=true:=by simpa using hc
  have:=zhg hq hc;subst this;rw [zcY] at he;have he:zge r.to left=none:=he;exact⟨by rw [he];rfl,hbX⟩
end
theorem zhh {s a:Nat} (hs:s<2^64) (ha:a∈els s):els (zb5 s (2^a))=(els s).filter (fun i => !decide (i=a)):=by
 have ha64:=zrh ha;unfold els;rw [List.filter_filter];apply List.filter_congr;intro i hi;rw [zfK (zaF ha64) (List.mem_range.1 hi),Nat.testBit_two_pow,Bool.and_comm];congr 2;exact decide_eq_decide.2 ⟨fun h=>h.symm,fun h=>h.symm⟩
theorem zdf {s a:Nat} (hs:s<2^64) (ha:a∈els s):(els (zb5 s (2^a))).length<(els s).length:=by
 rw [zhh hs ha];exact List.length_filter_lt_length_iff_exists.2 ⟨a,ha,by simp⟩
theorem znN {s a:Nat} (hs:s<2^64) (ha:a∈els s):zb5 s (2^a)<s:=by
 have h1:zb5 s (2^a)<=s:=Nat.and_le_left;have h2:zb5 s (2^a)≠s:=fun e=>by
  have:=zdf hs ha;rw [e] at this;omega
 omega
theorem ziX {n:Nat} (h:n<=64):els (allN n)=List.range n:=by
 have e:∀ i∈List.range 64,(allN n).testBit i=decide (i<n):=fun i hi=>by
  rw [zhm (by omega) (by omega) (List.mem_range.1 hi)];exact decide_eq_decide.2 (by omega)
 unfold els;rw [List.filter_congr e];obtain⟨m,hm⟩:∃ m,64=n+m:=⟨64-n,by omega⟩;rw [hm,List.range_add,List.filter_append];have f1:(List.range n).filter (fun i=>decide (i<n))=List.range n:=by
  rw [List.filter_eq_self];intro i hi;simpa using hi
 have f2:((List.range m).map (n + ·)).filter (fun i=>decide (i<n))=[]:=by
  rw [List.filter_eq_nil_iff];intro i hi;obtain⟨j,_,rfl⟩:=List.mem_map.1 hi;simp
 rw [f1,f2,List.append_nil]
theorem znX {before:Nat->Nat} {left a:Nat} (h:zge before left=some a):a∈els left:=List.mem_of_find?_eq_some h
section
variable {r:RelD} {w:World}
theorem zsb (hr:WrdR r.to) (hT:Tz64M w):Calls Tryz.prog 221 #[.agg (relC r).toArray] w fun e w' =>
  (∃ p c,e = .returned (.tuple #[.slice p ((topF r).getD []).length c,.bool (topF r).isSome])/\OwnS natE 3 w.heap.size w' p c ((topF r).getD []))/\Bw w w':=by
 refine cofM 38 [.agg (relC r).toArray] (.c .p (.s .p (.c .p (.c .p (.s .p .p))))) Tryz.func221 ?_;obtain⟨L,hL⟩:=nm (w.heap.size);refine⟨Unit,fun _=>⟨[(1,At0 L)],[]⟩,fun _ X=>X.heap[L]?=some (.cells (relC r).toArray 102 (0,0))/\X.heap.size=L+1/\Bw w X,⟨(),⟨.cons (by rw [hL];rfl) .nil,rfl⟩,by rw [hL];exact hnew w _,by rw [hL];exact wz _ _,(zba w _)⟩,?_⟩;rintro _ X ⟨f0,sX,hbX⟩;refine⟨relC r,zad _,zaa f0,hlt f0,?_⟩;refine cmo (zbl hr) ?_;rintro e Y ⟨rfl,hbY⟩;have hbwY:=zst hbX hbY;have f0Y:=zab hbY f0;refine biE (fun h=>?_) fun h=>?_
 ·have h:okR r=false:=by
   have h:(!okR r)=true:=h;simpa using h
  have e:topF r=none:=by unfold topF;rw [h];rfl
  rw [e];exact⟨⟨none,0,rfl,OwnS.nil⟩,hbwY⟩
 have h:okR r=true:=by
  have h:(!okR r)=false:=h;simpa using h
 obtain⟨p0,p48,_⟩:=za5 h;obtain⟨n,hn⟩:∃ n:Nat,r.n=n:=⟨r.n.toNat,by omega⟩;have hn48:n<=48:=by omega
 have sY:=hbY.size;refine⟨Nat,fun M=>⟨[(1,At0 L),(4,At0 M)],[]⟩,fun M Z=>Z.heap[M]?=some (.cells (relC (zbw r)).toArray 102 (0,0))/\L<M/\Z.heap[L]?=some (.cells (relC r).toArray 102 (0,0))/\WrdR (zbw r).to/\Bw w Z,?_,?_⟩
 ·refine⟨relC r,zad _,zaa f0Y,hlt f0Y,?_⟩;refine cmo (zif hr (hT.below hbwY)) ?_;rintro e Z ⟨rfl,hbZ,hw⟩;refine zap (X:=Z) (v := .agg (relC (zbw r)).toArray) k102 rfl rfl (zau _) fun V hbV fV sV=>?_;have sZ:=hbZ.size;exact⟨Z.heap.size,(cvE rfl rfl),fV,by omega,zab hbV (zab hbZ f0Y),hw,((zst hbwY hbZ)).trans (hbV.mono (by omega))⟩
 clear f0 sX hbX hbY hbwY f0Y sY Y X;rintro M X ⟨fM,hLM,f0,hw,hbX⟩;refine⟨Unit,fun _=>⟨[(1,At0 L),(4,At0 M),(5,s64 (allN n))],[]⟩,fun _ Y=>X=Y,?_,?_⟩
 ·refine⟨i64 n,by rw [<- hn];exact zac (zaa f0) (i:=0) rfl,?_⟩;refine cmo zkZ ?_;rintro e _ ⟨rfl,rfl⟩;exact⟨(),(cvE rfl rfl),rfl⟩
 rintro _ _ rfl;refine⟨i64 n,by rw [<- hn];exact zac (zaa f0) (i:=0) rfl,?_⟩;refine zea (E:=natE) Tryz.underlying150 k3 rfl rfl rfl n (by show 8*n<=_;omega) (by unfold maxLen;omega) fun Z oZ hbZ sZ=>?_;have hbwZ:=zst hbX hbZ;have wX:=hbX.size;have eT:topF r=topR (zbw r).to 64 (allN n) []:=by unfold topF;rw [if_pos h,zf4,hn]
 have hMX:=hlt fM;refine⟨Nat×List Nat×Nat×Option Addr×Nat,fun q=>⟨[(1,At0 L),(4,At0 M),(5,s64 q.1),(6,.slice q.2.2.2.1 q.2.1.length q.2.2.2.2)],[]⟩,
  fun q Y=>(topF r=topR (zbw r).to q.2.2.1 q.1 q.2.1/\(els q.1).length<=q.2.2.1/\q.2.2.1+q.2.1.length=64/\q.1<2^64/\∀ i∈els q.1,i<48)/\OwnS natE 3 X.heap.size Y q.2.2.2.1 q.2.2.2.2 q.2.1/\Bw X Y,fun q=>q.1,(allN n,[],64,some ⟨X.heap.size,0,none⟩,n),
  (cvE rfl rfl),⟨⟨eT,zfT _,rfl,zc1 _,fun i hi=>by
   rw [show els (allN n)=List.range n from ziX (by omega)] at hi;have:=List.mem_range.1 hi;omega⟩,oZ,hbZ⟩,?_⟩
 rintro⟨q,l,m,p,c⟩ Y ⟨⟨he,hm,hml,hq,h48⟩,ho,hbY⟩;dsimp only at he hm hml hq h48 ho ⊢;have sY:=hbY.size;refine biE (fun hc=>?_) fun hc=>?_
 ·have hc:(!decide ((q:Int)=0))=true:=hc;have h0:q≠0:=fun e=>by
   subst e;exact absurd hc (by decide)
  obtain⟨e1,_,_,_⟩:=zbq h0 hq;have hm1:1<=(els q).length:=by rw [e1];simp
  obtain⟨m,rfl⟩:∃ m',m=m'+1:=⟨m-1,by omega⟩;have fMY:=zab hbY fM;have step:topF r=match zge (zbw r).to q with | none=>none | some a=>topR (zbw r).to m (zdA q (2^a)) (l++[a]):=by
   rw [he];show (if q=0 then some l else _)=_;rw [if_neg h0]
   cases zge (zbw r).to q <;> rfl
  refine cmo (zq4 fMY hw hq h48 (hT.below (hbX.trans (hbY.mono wX)))) ?_;rintro e V ⟨rfl,hbV⟩;have hbXV:=hbY.trans (hbV.mono sY)
  cases hf:zge (zbw r).to q with
  | none =>
   rw [hf] at step;refine brT ?_;have e:topF r=none:=step;rw [e];exact⟨⟨none,0,rfl,OwnS.nil⟩,hbX.trans (hbXV.mono wX)⟩
  | some a =>
   rw [hf] at step;refine brF ?_;have ha:=znX hf;have ha48:=h48 a ha;refine⟨⟨by decide,by decide,rfl⟩,natE.enc a,rfl,?_⟩;have hba:Bw V (V.alloc (.cells (natE.enc a).toArray 3)):=zba _ _;have hYa:Bw Y (V.alloc (.cells (natE.enc a).toArray 3)):=zst hbV hba;have sa:(V.alloc (.cells (natE.enc a).toArray 3)).heap.size=V.heap.size+1:=wz _ _;have sV:=hbV.size;refine zbi (E:=natE) (T:=3) (B:=X.heap.size) (l:=l) (news:=[a]) (cap:=c) (m:=1) Tryz.underlying150 k3 rfl rfl rfl (ho.below hYa) rfl (zaW natE a) (by omega) (by omega) (by show (l.length+1)*8<=_;omega) ?_;intro p2 c2 U oU gU hbU hat;refine⟨by omega,_,zby (e:=a) (by omega),?_⟩;refine⟨_,zdn hq (zaF (by omega)),?_⟩;have hlen:=zdf hq ha;refine⟨(zb5 q (2^a),l++[a],m,p2,c2),(cvE rfl rfl),⟨⟨step,by show (els (zb5 q (2^a))).length<=m;omega,by simp only [lap,List.length_cons,List.length_nil];omega,zg6 hq,fun i hi=>?_⟩,oU,?_⟩,znN hq ha⟩
   ·rw [zhh hq ha] at hi;exact h48 i (List.mem_filter.1 hi).1
   ·exact (hbY.trans (hYa.mono sY)).trans hbU
 ·have hc:(!decide ((q:Int)=0))=false:=hc;have h0:q=0:=by
   have h1:decide ((q:Int)=0)=true:=by simpa using hc
   exact Int.ofNat.inj (dT h1)
  subst h0;have e:topF r=some l:=by
   rw [he]
   cases m <;> rfl
  rw [e];exact⟨⟨p,c,rfl,OwnS.lower ho wX⟩,hbX.trans (hbY.mono wX)⟩
theorem zek (hr:WrdR r.to) (hT:Tz64M w):CB 161 #[.agg (relC r).toArray] w (.bool (acyR r)):=by
 refine cofE 11 [.agg (relC r).toArray] Tryz.func161 ?_;have f0:=hnew w (.cells (relC r).toArray 102);have hb:Bw w (w.alloc (.cells (relC r).toArray 102)):=zba w _;refine⟨relC r,zad _,zaa f0,hlt f0,?_⟩;refine cmo (zsb hr (hT.below hb)) ?_;rintro e X ⟨⟨p,c,rfl,_⟩,hbX⟩;exact⟨rfl,(zst hb hbX)⟩
end
end Go.Proofs.YtlkofpbdpplfkaaGreatDoor
namespace Go.Vc
open Go.RowKit
theorem KeepsG.more {F G:Nat->Prop} {A B:World} {g:Nat} (h:KeepsG G F A B) (hg:G g):KeepsG G (fun k=>F k\/k=g) A B :=
 ⟨h.os,h.tape,h.output,h.size,h.same,fun k hk=>hk.elim (h.fp k) fun e => .inl (by rw [e];exact hg)⟩
theorem zqo {α:Type} {E:Enc α} {P:Program} {w:World} {t T ty B g cap m c:Nat} {a:Addr} {l news:List α} {iT:TI} (hu:P.underlying t=some (.slice T)) (hT:TIok P T iT) (hs:iT.size=E.sz)
  (ho:OwnS E T B w (some ⟨g,0,none⟩) cap l) (hm:news.length=m) (hn:zax w a (news.flatMap E.enc)) (hroom:l.length+m<=cap) {K:Value->World->Prop}
  (k:∀ w',OwnS E T B w' (some ⟨g,0,none⟩) cap (l++news)->w.grownBy w' (some g)->K (.slice (some ⟨g,0,none⟩) (l++news).length cap) w') :
  SatR ((Builtin.append_ #[t,t] ty #[.slice (some ⟨g,0,none⟩) l.length cap,.slice (some a) m c]).run P w) K:=by
 obtain⟨⟨inf,hi,hsz,_,_⟩,_⟩:=hT;obtain⟨w',hr,ho',hg⟩:=run_append_fits (P:=P) w B t ty T inf E.sz hu hi (hsz.trans hs) g l.length cap (l.flatMap E.enc) ho a m c (news.flatMap E.enc) (by rw [zaG,hm]) hn (zhd news) hroom;refine SatR.mk hr ?_;have hl:l.length+m=(l++news).length:=by simp [hm]
 have hf:l.flatMap E.enc++news.flatMap E.enc=(l++news).flatMap E.enc:=by rw [List.flatMap_append]
 rw [hl,hf] at ho';rw [hl];exact k w' ho' hg
theorem OwnS.pref {α:Type} {E:Enc α} {T B cap g:Nat} {w:World} {l m:List α} (h:OwnS E T B w (some ⟨g,0,none⟩) cap (l++m)):OwnS E T B w (some ⟨g,0,none⟩) cap l:=by
 rcases h.inv with ⟨h,_⟩ | ⟨g',cur,hg,hB,hc,hl,hm,hs,ht⟩
 ·cases h
 ·simp only [Option.some.injEq,Addr.mk.injEq,and_true] at hg;subst hg;unfold OwnS World.ownsRow;refine⟨by rw [zaG],.inr ⟨g,cap,cur,rfl,hB,hc,by rw [lap] at hl;omega,hm,hs,?_⟩⟩;have:=congrArg (List.take (l.length*E.sz)) ht;rw [List.take_take,List.flatMap_append,List.take_left' (zaG l)] at this;rw [<- this];congr 1;rw [lap,Nat.add_mul];omega
theorem zas {α:Type} {E:Enc α} {T B c:Nat} {Y:World} {q:Option Addr} {l:List α} (h:OwnS E T B Y q c l) {a:Addr} (ha:q=some a):B<=a.block/\a.block<Y.heap.size/\∃ cur,Y.heap[a.block]?=some (.cells cur T (0,0)):=by
 rcases h.inv with ⟨h1,_⟩ | ⟨g,cur,h1,h2,h3,_⟩
 ·rw [h1] at ha;cases ha
 ·rw [h1] at ha;cases ha;exact⟨h2,hlt h3,cur,h3⟩
structure Gath {α:Type} (E:Enc α) (T TS B n0 L:Nat) (W:World) (NIn:(Nat->Prop)->World->α->Prop) (xs:List α) (F:Nat->Prop) (Y:World):Prop where
 size:n0<=Y.heap.size
 inL:F L
 lt:∀ k,F k->k<Y.heap.size
 row:∃ (p:Option Addr) (c:Nat),Y.heap[L]?=some (.cells [.slice p xs.length c].toArray TS (0,0))/\OwnS E T B Y p c xs/\∀ a,p=some a->F a.block
 nest:∀ x∈xs,NIn F Y x
 old:Below B W Y
def zkS {α:Type} (T TS:Nat) (NIn:(Nat->Prop)->World->α->Prop):Prop :=
 ∀ (F G:Nat->Prop) (Y Z:World) (x:α),NIn F Y x->(∀ k cur T',F k->Y.heap[k]?=some (.cells cur T' (0,0))->T'≠T->T'≠TS->Z.heap[k]?=Y.heap[k]?)->(∀ k,F k->G k)->NIn G Z x
theorem Gath.iter {α σ:Type} {E:Enc α} {T TS B n0 L:Nat} {W:World} {NIn:(Nat->Prop)->World->α->Prop} {f:σ->List α->Prop} (hN:zkS T TS NIn) (hB:B<=n0) :
  JG n0 (fun _=>False) (fun (s:σ) F Y=>∃ xs,f s xs/\Gath E T TS B n0 L W NIn xs F Y):=by
 refine⟨?_,?_⟩
 ·rintro s F A C ⟨xs,hf,h⟩ hs;have sf:∀ k,F k->k<A.heap.size->C.heap[k]?=A.heap[k]?:=fun k hk hl=>hs.same k hl (.inr hk);obtain⟨p,c,h1,h2,h3⟩:=h.row;exact⟨xs,hf,Nat.le_trans h.size hs.size,h.inL,fun k hk=>nL (h.lt k hk) hs.size,⟨p,c,(sf L h.inL (h.lt L h.inL)).trans h1,h2.same fun a ha=>sf _ (h3 a ha) (h.lt _ (h3 a ha)),h3⟩,
   fun x hx=>hN F F A C x (h.nest x hx) (fun k _ _ hk _ _ _=>sf k hk (h.lt k hk)) fun k h=>h,h.old.trans ⟨hs.os,hs.tape,hs.output,hs.size,fun k hk=>hs.same k (nL (nL hk hB) h.size) (.inl ⟨by omega,fun h=>h⟩)⟩⟩
 ·rintro s F A k ⟨xs,_,h⟩ hk;exact⟨h.lt k hk,fun h=>h⟩
theorem Gath.stepX {α:Type} {E:Enc α} {P:Program} {T TS B n0 L ty cap1:Nat} {W Y2 Y3:World} {NIn:(Nat->Prop)->World->α->Prop} {xs:List α} {F:Nat->Prop} {iT iS:TI} {z:List Value} (hN:zkS T TS NIn) (hne:T≠TS)
  (hu:P.underlying TS=some (.slice T)) (hT:TIok P T iT) (hz:iT.zero=some z) (hs:iT.size=E.sz) (hzl:z.length=E.sz) (hS:TIok P TS iS) (hS1:iS.size=1)
  (h:Gath E T TS B n0 L W NIn xs F Y2) (hB:B<=n0) (hL:B<=L) (hb3:Bw Y2 Y3) (nx:α) (hl:xs.length+1<=4611686018427387904) (hby:(xs.length+1)*iT.bytes<=140737488355328)
  (hnew:∀ (G:Nat->Prop) (Z:World),(∀ k,Y2.heap.size<=k->k<Y3.heap.size->Z.heap[k]?=Y3.heap[k]?)->(∀ k,Y2.heap.size<=k->k<Y3.heap.size->G k)->(∀ k cur T',F k->Y2.heap[k]?=some (.cells cur T' (0,0))->T'≠T->T'≠TS->Z.heap[k]?=Y2.heap[k]?)->(∀ k,F k->G k)->NIn G Z nx) :
  ∀ p c,Y2.heap[L]?=some (.cells [.slice p xs.length c].toArray TS (0,0)) ->
  ∃ v Y5,(Builtin.append_ #[TS,TS] ty #[.slice p xs.length c,.slice (some ⟨Y3.heap.size,0,none⟩) 1 cap1]).run P (Y3.alloc (.cells (E.enc nx).toArray T)) = .ok v Y5 /\
   ∃ Z,(storeVar TS ⟨L,0,none⟩ v).run P Y5 = .ok () Z/\∃ F',Gath E T TS B n0 L W NIn (xs++[nx]) F' Z/\KeepsG F F' Y2 Z/\∀ k,F k->F' k:=by
 intro p c h4;obtain⟨p',c',h4',h5,h6⟩:=h.row;rw [h4] at h4';simp at h4';obtain⟨rfl,rfl⟩:=h4';have h1:=h.size;have h2:=h.inL;have h3:=h.lt;have hba:Bw Y3 (Y3.alloc (.cells (E.enc nx).toArray T)):=zba _ _;have sa:(Y3.alloc (.cells (E.enc nx).toArray T)).heap.size=Y3.heap.size+1:=wz _ _;have s3:Y2.heap.size<=Y3.heap.size:=hb3.size;have hb2:Bw Y2 (Y3.alloc (.cells (E.enc nx).toArray T)):=hb3.trans (hba.mono s3);have hap:SatR ((Builtin.append_ #[TS,TS] ty #[.slice p xs.length c,.slice (some ⟨Y3.heap.size,0,none⟩) 1 cap1]).run P (Y3.alloc (.cells (E.enc nx).toArray T))) fun v Y5=>∃ p2 c2,v = .slice p2 (xs++[nx]).length c2/\OwnS E T B Y5 p2 c2 (xs++[nx])/\(Y3.alloc (.cells (E.enc nx).toArray T)).grownBy Y5 (Value.slice p xs.length c).ownBlock/\∀ a,p2=some a->p=some a\/a.block=(Y3.alloc (.cells (E.enc nx).toArray T)).heap.size :=
  zbi (E:=E) (T:=T) (B:=B) (l:=xs) (news:=[nx]) (cap:=c) (m:=1) hu hT hz hs hzl (h5.below hb2) rfl (by
   have:=zh9 (w:=Y3) (cs:=(E.enc nx).toArray) (t:=T);simpa using this) (by omega) (by omega) hby fun p2 c2 Y5 o5 g5 hb5 hat=>⟨p2,c2,rfl,o5,g5,hat⟩
 obtain⟨v,Y5,hrun,p2,c2,rfl,o5,g5,hat⟩:=hap;have pb:∀ {k:Nat},(Value.slice p xs.length c).ownBlock=some k->∃ a,p=some a/\a.block=k:=fun {k} e=>by
  cases hp:p with
  | none=>rw [hp] at e;simp [Value.ownBlock] at e
  | some a =>
   rw [hp] at e;simp only [Value.ownBlock,Option.some.injEq] at e;exact⟨a,rfl,e⟩
 have h4':Y5.heap[L]?=some (.cells [.slice p xs.length c].toArray TS (0,0)):=by
  refine (g5.block L (hlt (zab hb2 h4)) fun e=>?_).trans (zab hb2 h4);obtain⟨a,hp,e⟩:=pb e.symm;obtain⟨_,_,cur,hcur⟩:=zas h5 hp;rw [e,h4] at hcur;simp at hcur;exact hne hcur.2.symm
 have hst:SatR ((storeVar TS ⟨L,0,none⟩ (.slice p2 (xs++[nx]).length c2)).run P Y5) fun _ Z=>Z.heap[L]?=some (.cells [.slice p2 (xs++[nx]).length c2].toArray TS (0,0))/\Y5.grownBy Z (some L)/\Z.heap.size=Y5.heap.size :=
  zal hS h4' (o:=0) (v := .slice p2 (xs++[nx]).length c2) rfl hS1 (by show 0<1;decide) rfl fun Z fZ gZ sZ=>⟨fZ,gZ,sZ⟩
 obtain⟨u,Z,hrun2,fZ,gZ,sZ⟩:=hst;have s5:=g5.size;refine⟨_,Y5,hrun,Z,hrun2,fun k=>F k\/(Y2.heap.size<=k/\k<Z.heap.size),?_⟩;have wr:∀ k,k<Y2.heap.size->k≠L->(∀ a,p=some a->k≠a.block)->Z.heap[k]?=Y2.heap[k]?:=fun k hk hne hnp=>by
  refine (gZ.block k (by omega) (by simpa using hne)).trans ((g5.block k (by omega) fun e=>?_).trans (hb2.block k hk));obtain⟨a,hp,e⟩:=pb e.symm;exact hnp a hp e.symm
 have new:∀ k,Y2.heap.size<=k->k<Y3.heap.size->Z.heap[k]?=Y3.heap[k]?:=fun k hk1 hk2=>by
  have hL2:=h3 L h2;refine (gZ.block k (by omega) (by simp;omega)).trans ((g5.block k (by omega) fun e=>?_).trans (hba.block k hk2));obtain⟨a,hp,e⟩:=pb e.symm;have:=h3 _ (h6 a hp);omega
 have ty':∀ k cur T',F k->Y2.heap[k]?=some (.cells cur T' (0,0))->T'≠T->T'≠TS->Z.heap[k]?=Y2.heap[k]?:=fun k cur T' hk hc t1 t2=>by
  refine wr k (h3 k hk) (fun e=>?_) fun a ha e=>?_
  ·rw [e,h4] at hc;simp at hc;exact t2 hc.2.symm
  ·obtain⟨_,_,cur',hcur'⟩:=zas h5 ha;rw [<- e,hc] at hcur';simp at hcur';exact t1 hcur'.2
 refine⟨⟨by omega,.inl h2,fun k hk=>?_,⟨p2,c2,fZ,o5.kept gZ fun g hg e=>?_,fun a ha=>?_⟩,fun y hy=>?_,?_⟩,⟨gZ.os.trans (g5.os.trans hb2.os),gZ.tape.trans (g5.tape.trans hb2.tape),gZ.output.trans (g5.output.trans hb2.output),by omega,fun k hk hf=>wr k hk (fun e=>hf (by rw [e];exact h2)) (fun a ha e=>hf (by rw [e];exact h6 a ha)),fun k hk=>hk.imp id fun h=>h.1⟩,fun k hk => .inl hk⟩
 ·rcases hk with hk | hk
  ·have:=h3 k hk;omega
  ·exact hk.2
 ·obtain⟨_,_,cur,hcur⟩:=zas o5 hg;simp only [Option.some.injEq] at e;have hcur:Y5.heap[g]?=_:=hcur;rw [<- e,h4'] at hcur;simp at hcur;exact hne hcur.2.symm
 ·rcases hat a ha with h | h
  ·exact .inl (h6 a h)
  ·have:=(zas o5 ha).2.1;exact .inr ⟨by omega,by omega⟩
 ·rcases List.mem_append.1 hy with hy | hy
  ·exact hN F _ Y2 Z y (h.nest y hy) ty' fun k hk => .inl hk
  ·simp only [List.mem_singleton] at hy;subst hy;exact hnew _ Z new (fun k hk1 hk2 => .inr ⟨hk1,by omega⟩) ty' fun k hk => .inl hk
 ·refine h.old.trans ⟨gZ.os.trans (g5.os.trans hb2.os),gZ.tape.trans (g5.tape.trans hb2.tape),gZ.output.trans (g5.output.trans hb2.output),by omega,fun k hk=>wr k (by omega) (by omega) fun a ha=>?_⟩;have:=(zas h5 ha).1;omega
theorem Gath.step {α:Type} {E:Enc α} {P:Program} {T TS B n0 L ty cap1:Nat} {W Y2 Y3:World} {NIn:(Nat->Prop)->World->α->Prop} {xs:List α} {F:Nat->Prop} {iT iS:TI} {z:List Value} (hN:zkS T TS NIn) (hne:T≠TS)
  (hu:P.underlying TS=some (.slice T)) (hT:TIok P T iT) (hz:iT.zero=some z) (hs:iT.size=E.sz) (hzl:z.length=E.sz) (hS:TIok P TS iS) (hS1:iS.size=1)
  (h:Gath E T TS B n0 L W NIn xs F Y2) (hB:B<=n0) (hL:B<=L) (hb3:Bw Y2 Y3) (nx:α) (hl:xs.length+1<=4611686018427387904) (hby:(xs.length+1)*iT.bytes<=140737488355328)
  (hnew:∀ (G:Nat->Prop) (Z:World),(∀ k,Y2.heap.size<=k->k<Y3.heap.size->Z.heap[k]?=Y3.heap[k]?)->(∀ k,Y2.heap.size<=k->k<Y3.heap.size->G k)->NIn G Z nx) :
  ∀ p c,Y2.heap[L]?=some (.cells [.slice p xs.length c].toArray TS (0,0)) ->
  ∃ v Y5,(Builtin.append_ #[TS,TS] ty #[.slice p xs.length c,.slice (some ⟨Y3.heap.size,0,none⟩) 1 cap1]).run P (Y3.alloc (.cells (E.enc nx).toArray T)) = .ok v Y5 /\
   ∃ Z,(storeVar TS ⟨L,0,none⟩ v).run P Y5 = .ok () Z/\∃ F',Gath E T TS B n0 L W NIn (xs++[nx]) F' Z/\KeepsG F F' Y2 Z/\∀ k,F k->F' k :=
 h.stepX hN hne hu hT hz hs hzl hS hS1 hB hL hb3 nx hl hby fun G Z h1 h2 _ _=>hnew G Z h1 h2
end Go.Vc
namespace Go.Proofs.YtlkofpbdpplfkaaGreatDoor
open Go.Vc Go.RowKit Go.Sei
abbrev RelH (X : World) (b : Nat) (r : RelD) : Prop := X.heap[b]? = some (.cells (relC r).toArray 102 (0, 0))
def StO (pre : List (List Nat)) (vs : List Value) (W : World) : Prop := ∃ l q c, pre.getLast? = some l ∧ vs = [.slice q l.length c] ∧ SlR natE W q l ∧ (q = none → c = 0) ∧ ∀ a, q = some a → ∃ cur, W.heap[a.block]? = some (.cells cur 3 (0, 0))
section
variable {yl n0 n bB : Nat} {J Jx : List (List Nat) → (Nat → Prop) → World → Prop} {xs : List (List Nat)} {r : RelD}
theorem zn1 (hJ : JG n0 (fun _ => False) J) (hn0 : ∀ pre F X, J pre F X → n0 ≤ X.heap.size) (hy : ∀ pre x vs F W1, J pre F W1 → StO (pre ++ [x]) vs W1 → (pre ++ [x]) <+: xs → YieldR Tryz.prog yl vs.toArray W1 fun v W2 =>
      (v = .bool true ∧ ∃ F', J (pre ++ [x]) F' W2 ∧ KeepsG F F' W1 W2) ∨ (v = .bool false ∧ ∃ F', Jx (pre ++ [x]) F' W2)) (hr : WrdR r.to) (hn : n ≤ 48) (ht0 : 8 < n0) :
    ∀ (m left : Nat) (l : List Nat) (g : Nat) (pre : List (List Nat)) (F : Nat → Prop) (X : World), (els left).length ≤ m → left < 2 ^ 64 → (∀ i ∈ els left, i < 48) → l.length + (els left).length ≤ n → OwnS natE 3 n0 X (some ⟨g, 0, none⟩) n l → ¬ F g → J pre F X → RelH X bB r → ¬ F bB → n0 ≤ bB → bB ≠ g → Tz64M X → ¬ F 8 → (pre ++ extR r.to m left l) <+: xs →
      Calls Tryz.prog 288 #[At0 bB, s64 left, .slice (some ⟨g, 0, none⟩) l.length n, .func (.yield yl) #[] #[]] X fun e Y =>
        (e = .returned (.bool true) ∧ ∃ F', J (pre ++ extR r.to m left l) F' Y ∧ KeepsG (fun k => F k ∨ k = g) F' X Y ∧ OwnS natE 3 n0 Y (some ⟨g, 0, none⟩) n l ∧ ¬ F' g) ∨ (e = .returned (.bool false) ∧ ∃ pre' F', pre' <+: xs ∧ Jx pre' F' Y) := by
  intro m
  induction m with
  | zero =>
    intro left l g pre F X hm hlt64 h48 hln ho hFg hj hR hFb hbn hbg hT hFt hpre
    have h0 : left = 0 := by
      apply Classical.byContradiction
      intro h0
      rw [(zbq h0 hlt64).1] at hm
      simp at hm
    subst h0
    refine zaZ (S := sg 56) (sgOk _) (args := [At0 bB, s64 0, .slice (some ⟨g, 0, none⟩) l.length n, .func (.yield yl) #[] #[]]) Tryz.func288 rfl rfl (Nat.le_of_ble_eq_true rfl) rfl ?_
    refine brT ?_
    have hs : extR r.to 0 0 l = [l] := rfl
    rw [hs] at hpre ⊢
    refine YieldR.mono (hy pre l [.slice (some ⟨g, 0, none⟩) l.length n] F X hj ⟨l, _, n, by simp, rfl, ho.row, fun h => (by cases h), fun a ha => (zas ho ha).2.2⟩ hpre) ?_
    rintro v Z (⟨rfl, F', hJZ, hKZ⟩ | ⟨rfl, F', hJZ⟩)
    · have hgl : g < X.heap.size := (zas ho rfl).2.1
      exact .inl ⟨rfl, F', hJZ, hKZ.weak fun k h => .inl h, ho.same fun a ha => by cases ha; exact hKZ.same g hgl hFg, fun h => by
        rcases hKZ.fp g h with h | h
        · exact hFg h
        · omega⟩
    · exact .inr ⟨rfl, _, F', hpre, hJZ⟩
  | succ m ih =>
    intro left l g pre F X hm hlt64 h48 hln ho hFg hj hR hFb hbn hbg hT hFt hpre
    refine zaZ (S := sg 56) (sgOk _) (args := [At0 bB, s64 left, .slice (some ⟨g, 0, none⟩) l.length n, .func (.yield yl) #[] #[]]) Tryz.func288 rfl rfl (Nat.le_of_ble_eq_true rfl) rfl ?_
    have hgl : g < X.heap.size := (zas ho rfl).2.1
    have hgn : n0 ≤ g := (zas ho rfl).1
    refine And.intro (fun h => ?_) (fun h => ?_)
    · have h : left = 0 := Int.ofNat.inj (of_decide_eq_true h)
      subst h
      have hs : extR r.to (m + 1) 0 l = [l] := rfl
      rw [hs] at hpre ⊢
      refine YieldR.mono (hy pre l [.slice (some ⟨g, 0, none⟩) l.length n] F X hj ⟨l, _, n, by simp, rfl, ho.row, fun h => (by cases h), fun a ha => (zas ho ha).2.2⟩ hpre) ?_
      rintro v Z (⟨rfl, F', hJZ, hKZ⟩ | ⟨rfl, F', hJZ⟩)
      · exact .inl ⟨rfl, F', hJZ, hKZ.weak fun k h => .inl h, ho.same fun a ha => by cases ha; exact hKZ.same g hgl hFg, fun h => by
        rcases hKZ.fp g h with h | h
        · exact hFg h
        · omega⟩
      · exact .inr ⟨rfl, _, F', hpre, hJZ⟩
    have h : left ≠ 0 := fun e => (of_decide_eq_false h) (by rw [e]; rfl)
    obtain ⟨G, hG⟩ : ∃ G : Nat → List (List Nat), G = fun a => if r.to a &&& left = 0 then extR r.to m (zdA left (2 ^ a)) (l ++ [a]) else [] := ⟨_, rfl⟩
    have hs : extR r.to (m + 1) left l = (els left).flatMap G := by
      rw [hG]
      show (if left = 0 then [l] else _) = _
      rw [if_neg h]
    rw [hs] at hpre ⊢
    refine Calls.mono (zcq hlt64 hT) ?_
    rintro e X1 ⟨rfl, hb1⟩
    refine ⟨Nat × List Nat × (Nat → Prop), fun s => ⟨[(0, At0 bB), (1, s64 left), (2, .slice (some ⟨g, 0, none⟩) l.length n), (3, .func (.yield yl) #[] #[]), (9, s64 s.1), (10, i64 ((els s.1).headD 0 : Nat)), (11, .bool (!(els s.1).isEmpty))], []⟩,
      fun s Z => (els left = s.2.1 ++ els s.1 ∧ s.1 < 2 ^ 64) ∧ J (pre ++ s.2.1.flatMap G) s.2.2 Z ∧ OwnS natE 3 n0 Z (some ⟨g, 0, none⟩) n l ∧ ¬ s.2.2 g ∧ RelH Z bB r ∧ ¬ s.2.2 bB ∧ Tz64M Z ∧ ¬ s.2.2 8 ∧ KeepsG (fun k => F k ∨ k = g) s.2.2 X Z, fun s => s.1, (left, [], F),
      ⟨.cons rfl (.cons rfl (.cons rfl (.cons rfl (.cons rfl (.cons rfl (.cons rfl .nil)))))), rfl⟩, ⟨⟨rfl, hlt64⟩, by show J (pre ++ []) F X1; rw [List.append_nil]; exact hJ.step _ _ _ _ hj (.below hb1), ho.below hb1, hFg, zab hb1 hR, hFb, hT.below hb1, hFt, KeepsG.below hb1 fun k h => .inl (.inl h)⟩, ?_⟩
    rintro ⟨q, don, F1⟩ Z ⟨⟨he, hq⟩, hjZ, hoZ, hgZ, hRZ, hbZ, hTZ, htZ, kZ⟩
    dsimp only at he hq hjZ hgZ hbZ htZ kZ ⊢
    have hZn := hn0 _ _ _ hjZ
    refine And.intro (fun hc => ?_) (fun hc => ?_)
    · have h0 := zfd hq hc
      obtain ⟨e1, e2, _, e3⟩ := zbq h0 hq
      have hd := (zcU h0 hq).1
      have hmem : ctz q ∈ els left := by rw [he, e1]; simp
      have hc48 : ctz q < 48 := h48 _ hmem
      rw [e1] at he
      have hpa : ∀ t, (don ++ [ctz q]).flatMap t = don.flatMap t ++ t (ctz q) := fun t : Nat → List (List Nat) => by
        rw [List.flatMap_append, List.flatMap_cons, List.flatMap_nil, List.append_nil]
      have next : ∀ {Y : World} {F2 : Nat → Prop}, J (pre ++ (don ++ [ctz q]).flatMap G) F2 Y → OwnS natE 3 n0 Y (some ⟨g, 0, none⟩) n l → ¬ F2 g → RelH Y bB r → ¬ F2 bB → Tz64M Y → ¬ F2 8 → KeepsG (fun k => F k ∨ k = g) F2 X Y →
          ∀ Y2, Below Y.heap.size Y Y2 → ((els left = (don ++ [ctz q]) ++ els (rest q) ∧ rest q < 2 ^ 64) ∧ J (pre ++ (don ++ [ctz q]).flatMap G) F2 Y2 ∧ OwnS natE 3 n0 Y2 (some ⟨g, 0, none⟩) n l ∧ ¬ F2 g ∧ RelH Y2 bB r ∧ ¬ F2 bB ∧ Tz64M Y2 ∧ ¬ F2 8 ∧ KeepsG (fun k => F k ∨ k = g) F2 X Y2) :=
        fun {Y F2} a1 a2 a3 a4 a5 a6 a7 a8 Y2 hb => ⟨⟨by rw [he]; simp, by omega⟩, hJ.step _ _ _ _ a1 (.below hb), a2.below hb, a3, zab hb a4, a5, a6.below hb, a7, a8.trans (KeepsG.below hb fun k h => .inl h)⟩
      refine DrawE.ord [18, 20] [0, 1, 2, 3, 4, 5, 6, 7, 8, 9, 10, 11, 12, 13, 14, 15, 16, 19, 17, 18, 20, 21, 22] (by kernel_rfl) ?_
      have hdZ : Below Z.heap.size Z Z.drew := (Below.refl _ _).drew
      refine ⟨ctz q, congrArg Nat.cast hd.symm, hc48, ?_⟩
      refine ⟨_, zb8 (hdr hRZ) hc48, ?_⟩
      refine ⟨_, zbz (hr _ hc48) hlt64, ?_⟩
      refine And.intro (fun hb => ?_) (fun hb => ?_)
      · have hb : r.to (ctz q) &&& left = 0 := Int.ofNat.inj (of_decide_eq_true hb)
        have hGc : G (ctz q) = extR r.to m (zdA left (2 ^ ctz q)) (l ++ [ctz q]) := by rw [hG]; exact if_pos hb
        refine ⟨by omega, ((2 ^ ctz q : Nat) : Int), by rw [hd]; exact zby (e := ctz q) (by omega), ?_⟩
        refine ⟨_, zdn hlt64 (zaF (by omega)), ?_⟩
        refine ⟨⟨by decide, by decide, rfl⟩, natE.enc (ctz q), by rw [hd]; rfl, ?_⟩
        have hba : Below Z.drew.heap.size Z.drew (Z.drew.alloc (.cells (natE.enc (ctz q)).toArray 3)) := (Below.refl _ _).alloc (Nat.le_refl _) _
        refine ⟨hba, ?_⟩
        have hbA : Below Z.heap.size Z (Z.drew.alloc (.cells (natE.enc (ctz q)).toArray 3)) := hdZ.trans hba
        have hll := zdf hlt64 hmem
        refine zqo (E := natE) (l := l) (news := [ctz q]) (m := 1) Tryz.underlying150 (ttOk.get 3 _ rfl) rfl (hoZ.below hbA) rfl (zaW natE (ctz q)) (by
          have : 1 ≤ (els left).length := by rw [he]; simp; omega
          omega) ?_
        intro Y oY gY
        have hjY := hJ.step _ _ _ _ (hJ.step _ _ _ _ hjZ (.below hbA)) (StepG.grown gY (.inl hgn) hgZ)
        have sA : (Z.drew.alloc (.cells (natE.enc (ctz q)).toArray 3)).heap.size = Z.heap.size + 1 := World.size_alloc _ _
        have hRY : RelH Y bB r := (gY.block bB (hlt (zab hbA hRZ)) (by simpa using hbg)).trans (zab hbA hRZ)
        have htl := zck hTZ
        have hTY : Tz64M Y := zbD (hTZ.below hbA) (gY.block _ (by omega) (by
          intro e
          have : 8 = g := by simpa using e
          omega))
        have hpre2 : ((pre ++ don.flatMap G) ++ extR r.to m (zdA left (2 ^ ctz q)) (l ++ [ctz q])) <+: xs := by
          refine List.IsPrefix.trans ?_ hpre
          rw [he, ← hGc, List.flatMap_append, List.flatMap_cons]
          exact ⟨(els (rest q)).flatMap G, by simp only [List.append_assoc]⟩
        refine Calls.mono (ih (zb5 left (2 ^ ctz q)) (l ++ [ctz q]) g (pre ++ don.flatMap G) F1 Y (by omega) (zg6 hlt64) (fun i hi => by
          rw [zhh hlt64 hmem] at hi
          exact h48 i (List.mem_filter.1 hi).1) (by simp only [List.length_append, List.length_cons, List.length_nil]; omega) oY hgZ hjY hRY hbZ hbn hbg hTY htZ hpre2) ?_
        rintro e V (⟨rfl, F2, hjV, kV, oV, hgV⟩ | ⟨rfl, pre', F2, hp', hjx⟩)
        · refine brF ?_
          have kZY : KeepsG (fun k => F1 k ∨ k = g) (fun k => F1 k ∨ k = g) Z Y := (KeepsG.below hbA fun k h => .inl h).trans (KeepsG.grown gY (.inr rfl))
          have kW : KeepsG (fun k => F k ∨ k = g) F2 X V := ((kZ.more (.inr rfl)).trans kZY).trans kV
          have sY := gY.size
          have kYV := kV.size
          have hbV : ¬ F2 bB := fun h => by
            have := hlt hRY
            rcases kV.fp bB h with (h | h) | h
            · exact hbZ h
            · exact hbg h
            · omega
          have htV : ¬ F2 8 := fun h => by
            rcases kV.fp _ h with (h | h) | h
            · exact htZ h
            · omega
            · omega
          have hRV : RelH V bB r := (kV.same bB (hlt hRY) (fun h => h.elim hbZ hbg)).trans hRY
          have hTV : Tz64M V := zbD hTY (kV.same _ (by omega) (fun h => h.elim htZ fun e => by omega))
          refine ⟨((q - 1 : Nat) : Int), (w64 (a := (q : Int) - 1) (by omega)).trans (by omega), ?_⟩
          refine ⟨((rest q : Nat) : Int), zbz (a := q) (b := q - 1) hq (by omega), ?_⟩
          refine Calls.mono (zcq (s := rest q) (by omega) hTV) ?_
          rintro e U ⟨rfl, hbU⟩
          exact ⟨(rest q, don ++ [ctz q], F2), ⟨.cons rfl (.cons rfl (.cons rfl (.cons rfl (.cons rfl (.cons rfl (.cons rfl .nil)))))), rfl⟩, next (by rw [hpa, hGc, ← List.append_assoc]; exact hjV) oV.pref hgV hRV hbV hTV htV kW U hbU, e2⟩
        · refine brT ?_
          exact .inr ⟨rfl, pre', F2, hp', hjx⟩
      · have hb : ¬ r.to (ctz q) &&& left = 0 := fun e => (of_decide_eq_false hb) (by rw [e]; rfl)
        have hGc : G (ctz q) = [] := by rw [hG]; exact if_neg hb
        refine brF ?_
        refine ⟨((q - 1 : Nat) : Int), (w64 (a := (q : Int) - 1) (by omega)).trans (by omega), ?_⟩
        refine ⟨((rest q : Nat) : Int), zbz (a := q) (b := q - 1) hq (by omega), ?_⟩
        refine Calls.mono (zcq (s := rest q) (by omega) (hTZ.below hdZ)) ?_
        rintro e Y ⟨rfl, hbY⟩
        exact ⟨(rest q, don ++ [ctz q], F1), ⟨.cons rfl (.cons rfl (.cons rfl (.cons rfl (.cons rfl (.cons rfl (.cons rfl .nil)))))), rfl⟩, next (by rw [hpa, hGc, List.append_nil]; exact hjZ) hoZ hgZ hRZ hbZ hTZ htZ kZ Y (hdZ.trans hbY), e2⟩
    · have hc : (els q).isEmpty = true := by simpa using hc
      have := zhg hq hc
      subst this
      rw [zcY, List.append_nil] at he
      rw [he]
      exact .inl ⟨rfl, F1, hjZ, kZ, hoZ, hgZ⟩
end
abbrev insV (x:InsD):Value := .agg (insE.enc x).toArray
section
variable {R:RunD} {b:Nat} {w:World}
theorem zlq {x:InsD} {v:UInt8} (f:RunH w b R) (hm:R.many<24) (hd:x.dst.toNat<8):Calls Tryz.prog 302 #[AtR b,insV x,u8 v] w fun e w' =>
  e = .returned (.tuple #[])/\RunH w' b (zqX R x v)/\w.grownBy w' (some b):=by
 refine cofE 21 [AtR b,insV x,u8 v] Tryz.func302 ?_;have f0:=hnew w (.cells (insE.enc x).toArray 68);have hb:Bw w (w.alloc (.cells (insE.enc x).toArray 68)):=zba w _;have fr:=zab hb f;have hne:w.heap.size≠b:=fun e=>by have:=hlt f;omega
 refine⟨_,zac (zaa f0) (i:=2) rfl,?_⟩;refine⟨_,zac (zaa f0) (i:=8) rfl,?_⟩;refine cmo (zmp (k:=1) (l:=x.loc) (v:=v) (m:=x.mode) (d:=0) fr hm) ?_;rintro e Y ⟨rfl,fY,gY,sY⟩;have f0Y:=(gY.block w.heap.size (hlt f0) (by simpa using hne)).trans f0;refine DrawE.ord [6] [0,1,2,3,4,5,6] (by kernel_rfl) ?_;refine⟨_,zac (zaa (hdr f0Y)) (i:=1) rfl,?_⟩;refine⟨by omega,_,zoU (e:=R.many) (by omega),?_⟩;refine cmo (zrX (d:=x.dst) (v:=v) (s:=2^R.many) (hdr fY) hd) ?_;rintro e Z ⟨rfl,fZ,gZ,sZ⟩;have gd:Y.grownBy Y.drew (some b):=⟨rfl,rfl,rfl,Nat.le_refl _,fun _ _ _=>rfl⟩;exact⟨rfl,fZ,zae (zah hb) (zae gY (zae gd gZ))⟩
theorem zko {x:InsD} {v:UInt8} (f:RunH w b R) (hm:R.many<24) (ha:x.ar=true->x.an.toNat<8):Calls Tryz.prog 303 #[AtR b,insV x,u8 v] w fun e w' =>
  e = .returned (.tuple #[])/\RunH w' b (zov R x)/\w.grownBy w' (some b):=by
 refine cofE 23 [AtR b,insV x,u8 v] Tryz.func303 ?_;have f0:=hnew w (.cells (insE.enc x).toArray 68);have hb:Bw w (w.alloc (.cells (insE.enc x).toArray 68)):=zba w _;have fr:=zab hb f;refine⟨[.bool x.ar,u8 x.an],rfl,zdh (o:=3) (n:=2) f0,hlt f0,?_⟩;refine cmo (zoV fr ha) ?_;rintro e Y ⟨rfl,hbY⟩;have f0Y:=zab hbY f0;have fY:=zab hbY fr;refine⟨_,zac (zaa f0Y) (i:=2) rfl,?_⟩;refine⟨_,zac (zaa f0Y) (i:=8) rfl,?_⟩;refine cmo (zmp (k:=2) (l:=x.loc) (v:=(valR x.ar x.an R).1) (m:=x.mode) (d:=(valR x.ar x.an R).2) fY hm) ?_;rintro e Z ⟨rfl,fZ,gZ,sZ⟩;exact⟨rfl,fZ,zae (zah hb) (zae (zah hbY) gZ)⟩
theorem zkp {x:InsD} {v:UInt8} (f:RunH w b R) (hm:R.many<24):Calls Tryz.prog 308 #[AtR b,insV x,u8 v] w fun e w' =>
  e = .returned (.tuple #[])/\RunH w' b (zoG R x)/\w.grownBy w' (some b):=by
 refine cofE 10 [AtR b,insV x,u8 v] Tryz.func308 ?_;have f0:=hnew w (.cells (insE.enc x).toArray 68);have hb:Bw w (w.alloc (.cells (insE.enc x).toArray 68)):=zba w _;have fr:=zab hb f;refine⟨_,zac (zaa f0) (i:=8) rfl,?_⟩;refine cmo (zmp (k:=3) (l:=0) (v:=0) (m:=x.mode) (d:=0) fr hm) ?_;rintro e Z ⟨rfl,fZ,gZ,sZ⟩;exact⟨rfl,fZ,zae (zah hb) gZ⟩
end
def ExOk (x:InsD):Prop:=(x.op=1/\x.dst.toNat<8)\/(x.op=2/\(x.ar=true->x.an.toNat<8))\/x.op=7
def fnV (g:Nat):Value := .func (.func g) #[] #[]
def effL:List Value:=[.nilFunc,fnV 302,fnV 303,fnV 304,fnV 305,fnV 306,fnV 307,fnV 308,fnV 309]
theorem zmq {w:World}:CB 299 #[] w (.agg effL.toArray):=by
 refine cofE 2 [] Tryz.func299 ?_;have f0:=hnew w (.cells (List.replicate 9 Value.nilFunc).toArray 376);have hb:Bw w (w.alloc (.cells (List.replicate 9 Value.nilFunc).toArray 376)):=zba w _;refine⟨effL,rfl,?_⟩;refine zam (v := .agg effL.toArray) k376 f0 rfl rfl rfl ?_;exact⟨effL,rfl,zaa (zaj f0),rfl,zag hb (Nat.le_refl _) _⟩
section
variable {R:RunD} {b:Nat} {w:World}
theorem zh1 {x:InsD} {v:UInt8} (f:RunH w b R) (hm:R.many<24) (hp:R.pc<=1000) (hx:ExOk x):Calls Tryz.prog 286 #[AtR b,insV x,u8 v] w fun e w' =>
  e = .returned (.tuple #[])/\RunH w' b (zbb R x v)/\w.grownBy w' (some b):=by
 refine cofE 21 [AtR b,insV x,u8 v] Tryz.func286 ?_;have f0:=hnew w (.cells (insE.enc x).toArray 68);obtain⟨W1,hW1⟩:=nm ((w.alloc (.cells (insE.enc x).toArray 68)).drew);have hb:Bw w W1:=by rw [hW1];exact ((zba w _)).drew
 have fr:RunH W1 b R:=zab hb f;have f0:W1.heap[w.heap.size]?=some (.cells (insE.enc x).toArray 68 (0,0)):=by rw [hW1];exact f0
 have hW1':(w.alloc (.cells (Value.agg (insE.enc x).toArray).cells 68)).drew=W1:=hW1.symm;refine DrawE.ord [7] [1,2,4,5,6,0,3,7] (by kernel_rfl) ?_;rw [hW1'];refine⟨_,zac (zaa f0) (i:=0) rfl,?_⟩;refine⟨insE.enc x,rfl,zaa f0,hlt f0,?_⟩;refine cmo zmq ?_;rintro e Y ⟨rfl,hbY⟩;refine⟨hbY,?_⟩;have fY:=zab hbY fr;have gY:w.grownBy Y (some b):=zae (zah hb) (zah hbY);have fin:∀ {S:RunD} {Z:World},RunH Z b S->Y.grownBy Z (some b)->S.pc=R.pc->zbb R x v={ S with pc:=S.pc+1 }->∃ u,Z.cell? ⟨b,0+0,none⟩=some u/\binE Tryz.prog .add 3 (.tmp 17) (.const (i64 1)) u (i64 1) (fun v18=>SatR ((storeVar 3 ⟨b,0+0,none⟩ v18).run Tryz.prog Z) fun _ w'=>(Ending.returned (.tuple #[])=Ending.returned (.tuple #[]))/\RunH w' b (zbb R x v)/\w.grownBy w' (some b)):=by
  intro S Z fZ gZ hpc he;refine⟨_,zac (zaa fZ) (i:=0) rfl,?_⟩;refine⟨((S.pc+1:Nat):Int),(zaf (by show _<=((S.pc:Nat):Int)+1/\((S.pc:Nat):Int)+1<=_;omega)).trans rfl,?_⟩;refine zal k3 fZ (o:=0+0) (v:=i64 (S.pc+1:Nat)) rfl rfl (by rw [zcd];decide) rfl fun V fV gV sV=>?_;rw [Nat.zero_add,zkm] at fV;rw [he];exact⟨rfl,fV,zae gY (zae gZ gV)⟩
 rcases hx with ⟨h1,h2⟩ | ⟨h1,h2⟩ | h1
 ·refine⟨1,by rw [h1];rfl,by decide,?_⟩;refine zdq (v:=fnV 302) rfl ?_;refine cmo (zlq fY hm h2) ?_;rintro e Z ⟨rfl,fZ,gZ⟩;exact fin fZ gZ rfl (by unfold zbb effR;rw [if_pos h1])
 ·refine⟨2,by rw [h1];rfl,by decide,?_⟩;refine zdq (v:=fnV 303) rfl ?_;refine cmo (zko fY hm h2) ?_;rintro e Z ⟨rfl,fZ,gZ⟩;exact fin fZ gZ rfl (by unfold zbb effR;rw [if_neg (by rw [h1];decide),if_pos h1])
 ·refine⟨7,by rw [h1];rfl,by decide,?_⟩;refine zdq (v:=fnV 308) rfl ?_;refine cmo (zkp fY hm) ?_;rintro e Z ⟨rfl,fZ,gZ⟩;exact fin fZ gZ rfl (by unfold zbb effR;rw [if_neg (by rw [h1];decide),if_neg (by rw [h1];decide),if_neg (by rw [h1];decide),if_neg (by rw [h1];decide),if_neg (by rw [h1];decide),if_neg (by rw [h1];decide),if_pos h1])
end
theorem ziU {R:RunD} {x:InsD} {v:UInt8} (hx:ExOk x):(zbb R x v).pc=R.pc+1/\(zbb R x v).many=R.many+1:=by
 unfold zbb effR;rcases hx with ⟨h,_⟩ | ⟨h,_⟩ | h
 ·rw [if_pos h];exact⟨rfl,rfl⟩
 ·rw [if_neg (by rw [h];decide),if_pos h];exact⟨rfl,rfl⟩
 ·rw [if_neg (by rw [h];decide),if_neg (by rw [h];decide),if_neg (by rw [h];decide),if_neg (by rw [h];decide),if_neg (by rw [h];decide),if_neg (by rw [h];decide),if_pos h];exact⟨rfl,rfl⟩
theorem zlk {α:Type} {E:Enc α} {w X:World} {q:Option Addr} {l:List α} {b:Nat} (h:SlR E w q l) (hq:∀ a,q=some a->a.block≠b) (g:w.grownBy X (some b)):SlR E X q l:=by
 rcases h with h | ⟨b',o,h1,h2,h3⟩
 ·exact .inl h
 ·refine .inr ⟨b',o,h1,nL h2 g.size,fun i hi=>zaY (g.block b' h2 (fun e=>hq _ h1 (by cases e;rfl))) (h3 i hi)⟩
theorem zoE {l:List InsD} {R:RunD} (h:l[R.pc]?=none):∀ n,goR l n R=R
 | 0=>rfl
 | n+1=>by unfold goR;rw [h]
theorem zpJ {l:List InsD} {R:RunD} {x:InsD} (h:l[R.pc]?=some x) (hr:zfr x=true):∀ n,goR l n R=R
 | 0=>rfl
 | n+1=>by unfold goR;rw [h];simp only [hr,if_true]
theorem zpI {l:List InsD} {R:RunD} {x:InsD} (h:l[R.pc]?=some x) (hr:zfr x=false) (n:Nat):goR l (n+1) R=goR l n (zbb R x 0):=by
 show (match l[R.pc]? with | none=>R | some x=>if zfr x then R else goR l n (zbb R x 0))=_;rw [h];simp only [hr,Bool.false_eq_true,if_false]
theorem znw {x:InsD} (hx:ExOk x):(x.op=1/\zfr x=true)\/((x.op=2\/x.op=7)/\zfr x=false):=by
 unfold zfr;rcases hx with ⟨h,_⟩ | ⟨h,_⟩ | h
 ·exact .inl ⟨h,by rw [h];rfl⟩
 ·exact .inr ⟨.inl h,by rw [h];rfl⟩
 ·exact .inr ⟨.inr h,by rw [h];rfl⟩
section
variable {R:RunD} {b:Nat} {w:World} {l:List InsD} {q:Option Addr} {cap:Nat}
theorem zhF (f:RunH w b R) (hl:SlR insE w q l) (hq:∀ a,q=some a->a.block≠b) (h12:l.length<=12) (hx:∀ x∈l,ExOk x) (hm:R.many<=R.pc) (hp:R.pc<=l.length) :
  Calls Tryz.prog 285 #[AtR b,.slice q l.length cap] w fun e w'=>e = .returned (.bool (l[(goR l l.length R).pc]?).isSome)/\RunH w' b (goR l l.length R)/\w.grownBy w' (some b)/\(goR l l.length R).many<=(goR l l.length R).pc/\(goR l l.length R).pc<=l.length/\R.pc<=(goR l l.length R).pc:=by
 refine cofE 34 [AtR b,.slice q l.length cap] Tryz.func285 ?_;refine⟨RunD×Nat,fun s=>⟨[(0,AtR b),(1,.slice q l.length cap)],[]⟩,
  fun s X=>(goR l l.length R=goR l s.2 s.1/\l.length<=s.2+s.1.pc/\s.1.many<=s.1.pc/\s.1.pc<=l.length/\R.pc<=s.1.pc)/\RunH X b s.1/\w.grownBy X (some b),fun s=>l.length-s.1.pc,(R,l.length),
  (cvE rfl rfl),⟨⟨rfl,by omega,hm,hp,Nat.le_refl _⟩,f,za7 w _⟩,?_⟩
 rintro⟨S,n⟩ X ⟨⟨he,hn,hm,hp,hpp⟩,fX,gX⟩;dsimp only at he hn hm hp hpp fX ⊢;refine⟨_,zac (zaa fX) (i:=0) rfl,?_⟩;refine biE (fun hc=>?_) fun hc=>?_
 ·have hc:(S.pc:Int)<(l.length:Int):=dT hc;have hi:S.pc<l.length:=by omega
  obtain⟨n,rfl⟩:∃ n',n=n'+1:=⟨n-1,by omega⟩;obtain⟨bq,oq,rfl,hlq,hat⟩:=(zlk hl hq gX).at hi;have hg:l[S.pc]?=some l[S.pc]:=gE hi;have hxi:=hx _ (gM hi);refine⟨_,zac (zaa fX) (i:=0) rfl,?_⟩;refine⟨S.pc,rfl,hi,?_⟩;refine⟨_,zac (hat S.pc hi) (i:=0) rfl,?_⟩;rcases znw hxi with ⟨ho,hr⟩ | ⟨ho,hr⟩
  ·have e1:goR l l.length R=S:=he.trans (zpJ hg hr _);refine brE (by rw [ho];rfl) ?_;refine brE (by rw [ho];rfl) ?_;rw [e1,hg];exact⟨rfl,fX,gX,hm,hp,hpp⟩
  ·have no:∀ k:UInt8,k=1\/k=4\/k=5\/k=6->decide (((l[S.pc].op).toNat:Int)=(k.toNat:Int))=false:=fun k hk=>by
    apply decide_eq_false;intro e;have:=zbe.1 e;rw [this] at ho;rcases hk with rfl | rfl | rfl | rfl <;> rcases ho with ho | ho <;> exact absurd ho (by decide)
   refine brN (no 1 (.inl rfl)) ?_;refine brN (no 4 (.inr (.inl rfl))) ?_;refine brN (no 5 (.inr (.inr (.inl rfl)))) ?_;refine brN (no 6 (.inr (.inr (.inr rfl)))) ?_;refine⟨_,zac (zaa fX) (i:=0) rfl,?_⟩;refine⟨S.pc,rfl,hi,?_⟩;refine⟨insE.enc l[S.pc],rfl,hat S.pc hi,hlq,?_⟩;refine cmo (zh1 (v:=0) fX (by omega) (by omega) hxi) ?_;rintro e Y ⟨rfl,fY,gY⟩;obtain⟨x1,x2⟩:=ziU (R:=S) (v:=0) hxi;exact⟨(zbb S l[S.pc] 0,n),(cvE rfl rfl),⟨⟨he.trans (zpI hg hr n),by rw [x1];omega,by rw [x1,x2];omega,by rw [x1];omega,by rw [x1];omega⟩,fY,zae gX gY⟩,by rw [x1];omega⟩
 ·have hc:¬ (S.pc:Int)<(l.length:Int):=dF hc;have hg:l[S.pc]?=none:=List.getElem?_eq_none (by omega);have e1:goR l l.length R=S:=he.trans (zoE hg _);rw [e1,hg];exact⟨rfl,fX,gX,hm,hp,hpp⟩
end
theorem zcP {n : Nat} {f : Nat → Value} (h : ∀ i, (f i).oneCell' = true) : (seg n f).all Value.oneCell' = true := by
  unfold seg
  rw [List.all_eq_true]
  intro u hu
  obtain ⟨i, _, rfl⟩ := List.mem_map.1 hu
  exact h i
theorem zk0 : (zm1).toArray.size = 259 := by kernel_rfl
theorem znq (R : RunD) : (runC R).all Value.oneCell' = true := by
  unfold runC
  rw [List.all_cons, List.all_append, List.all_append, List.all_append, List.all_append, List.all_append, List.all_append, zcP fun _ => rfl, zcP fun _ => rfl, zcP fun _ => rfl, zcP fun _ => rfl, zcP fun _ => rfl]
  have : (evsC R.ev).all Value.oneCell' = true := List.all_eq_true.2 fun u hu => zhd (E := evE) _ u hu
  rw [this]; rfl
theorem za4 {α : Type} {E : Enc α} {w X : World} {q : Option Addr} {l : List α} (h : SlR E w q l) (hs : ∀ a, q = some a → X.heap[a.block]? = w.heap[a.block]?) : SlR E X q l := by
  rcases h with h | ⟨b', o, h1, h2, h3⟩
  · exact .inl h
  · have h4 := hs _ h1
    have h4 : X.heap[b']? = w.heap[b']? := h4
    refine .inr ⟨b', o, h1, ?_, fun i hi => zaY h4 (h3 i hi)⟩
    have h5 : w.heap[b']? = some w.heap[b'] := Array.getElem?_eq_getElem h2
    rw [h5] at h4
    exact hlt h4
structure RowF {α : Type} (E : Enc α) (n0 : Nat) (F : Nat → Prop) (X : World) (q : Option Addr) (l : List α) : Prop where
  row : SlR E X q l
  out : ∀ a, q = some a → a.block < n0 ∧ ¬ F a.block
theorem RowF.keep {α : Type} {E : Enc α} {n0 : Nat} {F F' G : Nat → Prop} {X Y : World} {q : Option Addr} {l : List α} (h : RowF E n0 F X q l) (hn : n0 ≤ X.heap.size) (k : KeepsG G F' X Y) (hG : ∀ k, k < n0 → G k → F k) : RowF E n0 F' Y q l := by
  refine ⟨za4 h.row fun a ha => ?_, fun a ha => ⟨(h.out a ha).1, fun hf => ?_⟩⟩
  · have := h.out a ha
    exact k.same _ (by omega) fun hg => this.2 (hG _ this.1 hg)
  · have := h.out a ha
    rcases k.fp _ hf with h2 | h2
    · exact this.2 (hG _ this.1 h2)
    · omega
def StR (pre : List RunD) (vs : List Value) (W : World) : Prop := ∃ R b, pre.getLast? = some R ∧ vs = [AtR b] ∧ RunH W b R
section
variable {yl n0 cap cd : Nat} {J Jx : List RunD → (Nat → Prop) → World → Prop} {xs : List RunD} {l : List InsD} {dom : List UInt8} {q p : Option Addr}
theorem zni (hJ : JG n0 (fun _ => False) J) (hn0 : ∀ pre F X, J pre F X → n0 ≤ X.heap.size) (hy : ∀ pre x vs F W1, J pre F W1 → StR (pre ++ [x]) vs W1 → (pre ++ [x]) <+: xs → YieldR Tryz.prog yl vs.toArray W1 fun v W2 =>
      (v = .bool true ∧ ∃ F', J (pre ++ [x]) F' W2 ∧ KeepsG F F' W1 W2) ∨ (v = .bool false ∧ ∃ F', Jx (pre ++ [x]) F' W2)) (h12 : l.length ≤ 12) (hx : ∀ x ∈ l, ExOk x) (hd : dom.length ≤ 1000) :
    ∀ (n : Nat) (S : RunD) (b : Nat) (pre : List RunD) (F : Nat → Prop) (X : World), l.length ≤ n + S.pc → S.many ≤ S.pc → S.pc ≤ l.length → RunH X b S → n0 ≤ b → ¬ F b → J pre F X → RowF insE n0 F X q l → RowF zaH n0 F X p dom → (pre ++ zaK l dom n S) <+: xs →
      Calls Tryz.prog 242 #[AtR b, .slice q l.length cap, .slice p dom.length cd, .func (.yield yl) #[] #[]] X fun e Y =>
        (e = .returned (.bool true) ∧ ∃ F', J (pre ++ zaK l dom n S) F' Y ∧ KeepsG (fun k => F k ∨ k = b) F' X Y) ∨ (e = .returned (.bool false) ∧ ∃ pre' F', pre' <+: xs ∧ Jx pre' F' Y) := by
  intro n
  induction n with
  | zero =>
    intro S b pre F X hn hm hp fX hb hFb hj hq hdm hpre
    refine zaZ (S := sg 41) (sgOk _) (args := [AtR b, .slice q l.length cap, .slice p dom.length cd, .func (.yield yl) #[] #[]]) Tryz.func242 rfl rfl (Nat.le_of_ble_eq_true rfl) rfl ?_
    have hpc : S.pc = l.length := by omega
    have hg : l[S.pc]? = none := List.getElem?_eq_none (by omega)
    have e1 : goR l l.length S = S := zoE hg _
    refine Calls.mono (zhF fX hq.row (fun a ha => by have := (hq.out a ha).1; omega) h12 hx hm hp) ?_
    rintro e Y ⟨rfl, fY, gY, _⟩
    rw [e1] at fY ⊢
    rw [hg]
    refine brT ?_
    have hjY := hJ.step _ _ _ _ hj (StepG.grown gY (.inl hb) hFb)
    have hs : zaK l dom 0 S = [S] := by show [goR l l.length S] = _; rw [e1]
    rw [hs] at hpre ⊢
    refine YieldR.mono (hy pre S [AtR b] F Y hjY ⟨S, b, by simp, rfl, fY⟩ hpre) ?_
    rintro v Z (⟨rfl, F', hJZ, hKZ⟩ | ⟨rfl, F', hJZ⟩)
    · exact .inl ⟨rfl, F', hJZ, (KeepsG.grown (F := fun k => F k ∨ k = b) gY (.inr rfl)).trans (hKZ.weak fun k h => .inl h)⟩
    · exact .inr ⟨rfl, _, F', hpre, hJZ⟩
  | succ n ih =>
    intro S b pre F X hn hm hp fX hb hFb hj hq hdm hpre
    refine zaZ (S := sg 41) (sgOk _) (args := [AtR b, .slice q l.length cap, .slice p dom.length cd, .func (.yield yl) #[] #[]]) Tryz.func242 rfl rfl (Nat.le_of_ble_eq_true rfl) rfl ?_
    obtain ⟨T, hT⟩ : ∃ T, T = goR l l.length S := ⟨_, rfl⟩
    refine Calls.mono (zhF fX hq.row (fun a ha => by have := (hq.out a ha).1; omega) h12 hx hm hp) ?_
    rintro e Y ⟨rfl, fY, gY, tm, tp, tpp⟩
    rw [← hT] at fY tm tp tpp ⊢
    have hjY := hJ.step _ _ _ _ hj (StepG.grown gY (.inl hb) hFb)
    have hXn := hn0 _ _ _ hj
    have kY : KeepsG (fun k => F k ∨ k = b) F X Y := ⟨gY.os, gY.tape, gY.output, gY.size, fun k hk hf => gY.block k hk (fun e => hf (.inr (by cases e; rfl))), fun k h => .inl (.inl h)⟩
    have hqY := hq.keep hXn kY (fun k hk h => h.resolve_right (by omega))
    have hdY := hdm.keep hXn kY (fun k hk h => h.resolve_right (by omega))
    cases hg : l[T.pc]? with
    | none =>
      refine brT ?_
      have hs : zaK l dom (n + 1) S = [T] := by
        show (match l[(goR l l.length S).pc]? with | none => [goR l l.length S] | some x => _) = _
        rw [← hT, hg]
      rw [hs] at hpre ⊢
      refine YieldR.mono (hy pre T [AtR b] F Y hjY ⟨T, b, by simp, rfl, fY⟩ hpre) ?_
      rintro v Z (⟨rfl, F', hJZ, hKZ⟩ | ⟨rfl, F', hJZ⟩)
      · exact .inl ⟨rfl, F', hJZ, kY.trans hKZ⟩
      · exact .inr ⟨rfl, _, F', hpre, hJZ⟩
    | some x =>
      have hi : T.pc < l.length := (List.getElem?_eq_some_iff.1 hg).1
      have hxe : l[T.pc] = x := by rw [List.getElem?_eq_getElem hi] at hg; exact Option.some.inj hg
      have hxi : ExOk x := by rw [← hxe]; exact hx _ (List.getElem_mem hi)
      refine brF ?_
      have hs : zaK l dom (n + 1) S = dom.flatMap fun v => zaK l dom n (zbb T x v) := by
        show (match l[(goR l l.length S).pc]? with | none => [goR l l.length S] | some x => _) = _
        rw [← hT, hg]
      rw [hs] at hpre ⊢
      refine ⟨Nat × (Nat → Prop), fun s => ⟨[(0, AtR b), (1, .slice q l.length cap), (2, .slice p dom.length cd), (3, .func (.yield yl) #[] #[]), (19, .slice p dom.length cd), (20, i64 dom.length), (21, i64 (s.1 : Nat))], []⟩,
        fun s Z => s.1 ≤ dom.length ∧ J (pre ++ (dom.take s.1).flatMap fun v => zaK l dom n (zbb T x v)) s.2 Z ∧ RunH Z b T ∧ ¬ s.2 b ∧ RowF insE n0 s.2 Z q l ∧ RowF zaH n0 s.2 Z p dom ∧ KeepsG (fun k => F k ∨ k = b) s.2 X Z, fun s => dom.length - s.1, (0, F),
        ⟨.cons rfl (.cons rfl (.cons rfl (.cons rfl (.cons rfl (.cons rfl (.cons rfl .nil)))))), rfl⟩, ⟨Nat.zero_le _, by rw [List.take_zero]; show J (pre ++ []) F Y; rw [List.append_nil]; exact hjY, fY, hFb, hqY, hdY, kY⟩, ?_⟩
      clear fY gY hjY hqY hdY kY
      rintro ⟨k, G⟩ Z ⟨hk, hjZ, fZ, hGb, hqZ, hdZ, kZ⟩
      dsimp only at hk hjZ hGb hqZ hdZ kZ ⊢
      have hZn := hn0 _ _ _ hjZ
      refine And.intro (fun hc => ?_) (fun hc => ?_)
      · have hc : (k : Int) < (dom.length : Int) := of_decide_eq_true hc
        have hkd : k < dom.length := by omega
        obtain ⟨bp, op, hpe, hlp, hatp⟩ := hdZ.row.at hkd
        have hqr := hqZ
        obtain ⟨bq, oq, hqe, hlq, hatq⟩ := hqZ.row.at hi
        have ep : some (Value.slice p dom.length cd) = some (Value.slice (some ⟨bp, op, none⟩) dom.length cd) := by rw [hpe]
        subst hpe
        refine ⟨k, rfl, hkd, ?_⟩
        refine ⟨u8 dom[k], by have := zac (hatp k hkd) (i := 0) (v := u8 dom[k]) rfl; exact this, ?_⟩
        refine ⟨runC T, zcd _, zaa fZ, hlt fZ, ?_⟩
        refine zap (X := Z) (v := .agg (runC T).toArray) (ttOk.get 286 _ rfl) (zcd _) zk0 (znq _) fun V hbV fV sV => ?_
        subst hqe
        have fV : RunH V Z.heap.size T := fV
        refine ⟨_, zac (zaa fV) (i := 0) rfl, ?_⟩
        refine ⟨T.pc, rfl, hi, ?_⟩
        refine ⟨insE.enc x, rfl, by rw [← hxe]; exact zaq hbV (hatq T.pc hi), Nat.lt_of_lt_of_le hlq hbV.size, ?_⟩
        refine Calls.mono (zh1 (v := dom[k]) fV (by omega) (by omega) hxi) ?_
        rintro e U ⟨rfl, fU, gU⟩
        obtain ⟨x1, x2⟩ := ziU (R := T) (v := dom[k]) hxi
        have hGn : ¬ G Z.heap.size := fun h => by have := (hJ.lt _ _ _ _ hjZ h).1; omega
        have hjU := hJ.step _ _ _ _ (hJ.step _ _ _ _ hjZ (StepG.below hbV)) (StepG.grown gU (.inl hZn) hGn)
        have hbU : Below Z.heap.size Z U := hbV.trans (zak gU hbV.size (Nat.le_refl _))
        have kU : KeepsG G G Z U := KeepsG.below hbU fun k h => .inl h
        have hqU := hqr.keep hZn kU (fun k _ h => h)
        have hdU := hdZ.keep hZn kU (fun k _ h => h)
        have hdk : dom.flatMap (fun v => zaK l dom n (zbb T x v)) = (dom.take k).flatMap (fun v => zaK l dom n (zbb T x v)) ++ (zaK l dom n (zbb T x dom[k]) ++ (dom.drop (k + 1)).flatMap fun v => zaK l dom n (zbb T x v)) := by
          have e : dom = dom.take k ++ dom[k] :: dom.drop (k + 1) := by rw [List.getElem_cons_drop, List.take_append_drop]
          have e2 : (dom.take k ++ dom[k] :: dom.drop (k + 1)).flatMap (fun v => zaK l dom n (zbb T x v)) = (dom.take k).flatMap (fun v => zaK l dom n (zbb T x v)) ++ (zaK l dom n (zbb T x dom[k]) ++ (dom.drop (k + 1)).flatMap fun v => zaK l dom n (zbb T x v)) := by
            rw [List.flatMap_append, List.flatMap_cons]
          rw [← e] at e2
          exact e2
        have hpk : ((pre ++ (dom.take k).flatMap fun v => zaK l dom n (zbb T x v)) ++ zaK l dom n (zbb T x dom[k])) <+: xs := by
          refine List.IsPrefix.trans ?_ hpre
          rw [hdk]
          exact ⟨(dom.drop (k + 1)).flatMap fun v => zaK l dom n (zbb T x v), by simp only [List.append_assoc]⟩
        have htk : (dom.take (k + 1)).flatMap (fun v => zaK l dom n (zbb T x v)) = (dom.take k).flatMap (fun v => zaK l dom n (zbb T x v)) ++ zaK l dom n (zbb T x dom[k]) := by
          rw [List.take_succ_eq_append_getElem hkd, List.flatMap_append, List.flatMap_cons, List.flatMap_nil, List.append_nil]
        refine Calls.mono (ih (zbb T x dom[k]) Z.heap.size (pre ++ (dom.take k).flatMap fun v => zaK l dom n (zbb T x v)) G U (by rw [x1]; omega) (by rw [x1, x2]; omega) (by rw [x1]; omega) fU hZn hGn hjU hqU hdU hpk) ?_
        rintro e V' (⟨rfl, F', hjV, kV⟩ | ⟨rfl, pre', F', hp', hjx⟩)
        · refine brF ?_
          have kW : KeepsG G F' Z V' := ⟨kV.os.trans kU.os, kV.tape.trans kU.tape, kV.output.trans kU.output, Nat.le_trans kU.size kV.size, fun i hi hf => (kV.same i (Nat.lt_of_lt_of_le hi kU.size) (fun h => by
            rcases h with h | h
            · exact hf h
            · omega)).trans (kU.same i hi hf), fun i h => by
            have := kU.size
            rcases kV.fp i h with (h2 | h2) | h2
            · exact .inl h2
            · exact .inr (by omega)
            · exact .inr (by omega)⟩
          have hbZ := hlt fZ
          refine ⟨((k + 1 : Nat) : Int), (zaf (by omega)).trans (by omega), ?_⟩
          refine ⟨(k + 1, F'), ⟨.cons rfl (.cons rfl (.cons rfl (.cons rfl (.cons rfl (.cons rfl (.cons rfl .nil)))))), rfl⟩, ⟨hkd, ?_, (kW.same b hbZ hGb).trans fZ, fun h => ?_, hqr.keep hZn kW (fun _ _ h => h), hdZ.keep hZn kW (fun _ _ h => h), kZ.trans kW⟩, by show dom.length - (k + 1) < dom.length - k; omega⟩
          · show J (pre ++ (dom.take (k + 1)).flatMap fun v => zaK l dom n (zbb T x v)) F' V'
            rw [htk, ← List.append_assoc]
            exact hjV
          · rcases kW.fp b h with h2 | h2
            · exact hGb h2
            · omega
        · refine brT ?_
          exact .inr ⟨rfl, pre', F', hp', hjx⟩
      · have hc : ¬ (k : Int) < (dom.length : Int) := of_decide_eq_false hc
        obtain rfl : k = dom.length := by omega
        rw [List.take_length] at hjZ
        exact .inl ⟨rfl, G, hjZ, kZ⟩
theorem zmn {bi bd : Nat} {W0 : World} (hl : SlR insE W0 q l) (hp : SlR zaH W0 p dom) (fi : W0.heap[bi]? = some (.cells #[.slice q l.length cap] 64 (0, 0))) (fd : W0.heap[bd]? = some (.cells #[.slice p dom.length cd] 42 (0, 0))) (hql : ∀ a, q = some a → a.block < W0.heap.size) (hpl : ∀ a, p = some a → a.block < W0.heap.size) (h12 : l.length ≤ 12) (hx : ∀ x ∈ l, ExOk x) (hd : dom.length ≤ 1000) :
    zkT Tryz.prog 241 [AtR bi, AtR bd] (zcu l dom) W0 (fun k => (k = bi ∨ k = bd) ∨ (∃ a, q = some a ∧ k = a.block) ∨ ∃ a, p = some a ∧ k = a.block) (fun _ => False) StR := by
  intro yl F0 J Jx W hsz hrd hrf hJ hJx hy h0
  refine zaZ (S := sg 9) (sgOk _) (args := [.func (.yield yl) #[] #[], AtR bi, AtR bd]) Tryz.func241 rfl rfl (Nat.le_of_ble_eq_true rfl) rfl ?_
  obtain ⟨X, hX⟩ : ∃ X, X = W.alloc (.cells (runC run0).toArray 286) := ⟨_, rfl⟩
  have hbX : Below W.heap.size W X := by rw [hX]; exact (Below.refl _ W).alloc (Nat.le_refl _) _
  have fX : RunH X W.heap.size run0 := by rw [hX]; exact hnew W _
  have ez : zm1 = runC run0 := by kernel_rfl
  have hX' : W.alloc (.cells (zm1).toArray 286) = X := by rw [hX, ez]
  have fiW := (hrd bi (.inl (.inl (.inl rfl)))).trans fi
  have fdW := (hrd bd (.inl (.inl (.inr rfl)))).trans fd
  have hjX := hJ.step _ _ _ _ h0 (StepG.below hbX)
  have hF : ¬ F0 W.heap.size := fun h => by have := (hJ.lt _ _ _ _ h0 h).1; omega
  have hlX : RowF insE W.heap.size F0 X q l := ⟨za4 hl fun a ha => (hbX.block _ (by have := hql a ha; omega)).trans (hrd _ (.inl (.inr (.inl ⟨a, ha, rfl⟩)))), fun a ha => ⟨by have := hql a ha; omega, hrf _ (.inr (.inl ⟨a, ha, rfl⟩))⟩⟩
  have hpX : RowF zaH W.heap.size F0 X p dom := ⟨za4 hp fun a ha => (hbX.block _ (by have := hpl a ha; omega)).trans (hrd _ (.inl (.inr (.inr ⟨a, ha, rfl⟩)))), fun a ha => ⟨by have := hpl a ha; omega, hrf _ (.inr (.inr ⟨a, ha, rfl⟩))⟩⟩
  refine ⟨_, by rw [hX']; exact zac (zaa (zab hbX fiW)) (i := 0) rfl, ?_⟩
  refine ⟨_, by rw [hX']; exact zac (zaa (zab hbX fdW)) (i := 0) rfl, ?_⟩
  rw [hX']
  have hJn : JG W.heap.size (fun _ => False) (fun pre F Z => J pre F Z ∧ W.heap.size ≤ Z.heap.size) := ⟨fun s F A B ⟨h, hn⟩ hs => ⟨hJ.step _ _ _ _ h hs, Nat.le_trans hn hs.size⟩, fun s F A k ⟨h, _⟩ hk => hJ.lt _ _ _ _ h hk⟩
  refine Calls.mono (zni (xs := zcu l dom) (Jx := Jx) hJn (fun _ _ _ h => h.2) (fun pre x vs F W1 ⟨hj, hn⟩ hst hpre => YieldR.mono (hy pre x vs F W1 hj hst hpre) fun v W2 h => ?_) h12 hx hd l.length run0 W.heap.size [] F0 X (Nat.le_refl _) (Nat.le_refl _) (Nat.zero_le _) fX (Nat.le_refl _) hF ⟨hjX, hbX.size⟩ hlX hpX (List.prefix_refl _)) ?_
  · rcases h with ⟨rfl, F', h1, h2⟩ | h
    · exact .inl ⟨rfl, F', ⟨h1, Nat.le_trans hn h2.size⟩, h2⟩
    · exact .inr h
  · rintro e Y (⟨rfl, F', ⟨hj, _⟩, _⟩ | ⟨rfl, pre', F', h1, h2⟩)
    · exact ⟨⟨_, rfl⟩, .inl ⟨F', hj⟩⟩
    · exact ⟨⟨_, rfl⟩, .inr ⟨pre', F', h1, h2⟩⟩
theorem ziW {w : World} : Calls Tryz.prog 202 #[.slice q l.length cap, .slice p dom.length cd] w fun e w' => e = .returned (.func (.func 241) #[] #[AtR w.heap.size, AtR (w.heap.size + 1)]) ∧ w'.heap[w.heap.size]? = some (.cells #[.slice q l.length cap] 64 (0, 0)) ∧ w'.heap[w.heap.size + 1]? = some (.cells #[.slice p dom.length cd] 42 (0, 0)) ∧ w'.heap.size = w.heap.size + 2 ∧ Below w.heap.size w w' := by
  refine zaZ (S := sg 6) (sgOk _) (args := [.slice q l.length cap, .slice p dom.length cd]) Tryz.func202 rfl rfl (Nat.le_of_ble_eq_true rfl) rfl ?_
  have s1 := World.size_alloc w (.cells #[.slice q l.length cap] 64)
  have h2 := hnew (w.alloc (.cells #[.slice q l.length cap] 64)) (.cells #[.slice p dom.length cd] 42)
  have s2 := World.size_alloc (w.alloc (.cells #[.slice q l.length cap] 64)) (.cells #[.slice p dom.length cd] 42)
  rw [s1] at h2 s2
  refine ⟨?_, hold _ (hnew w _), h2, s2, ((Below.refl _ w).alloc (Nat.le_refl _) _).alloc (by simp) _⟩
  rw [← s1]; rfl
end
theorem zrg {P:Program} {t e:TypeId} (hu:P.underlying t=some (.slice e)) (d:Nat) (a:Option Addr) (n c:Nat) (w:World):(Op.equalIn (d+1) t (.slice a n c) (.slice none 0 0)).run P w = .ok a.isNone w:=by
 cases a <;> simp [Op.equalIn,run_underlying hu]
theorem zoC {n m:Nat} (h:n<256) (hm:Nat.ble 256 m=true):n<m:=nL h (Nat.le_of_ble_eq_true hm)
theorem zqI {s:ByteArray} {n:Nat} {K:UInt8->Prop} (h:n<s.size) (k:∀ u,K u):∃ u,s.data.toList[n]?=some u/\K u:=by
 have h:n<s.data.toList.length:=by simpa using h
 exact⟨_,gE h,k _⟩
theorem eqlS {P:Program} {t e:TypeId} (hu:P.underlying t=some (.slice e)) (x y:Operand) (a:Option Addr) (n c:Nat) (w:World):(do eqGuard .eql t x y (.slice a n c) (.slice none 0 0);binOp .eql t (.slice a n c) (.slice none 0 0):Sem Value).run P w = .ok (.bool a.isNone) w:=by
 have h:(Op.equal t (.slice a n c) (.slice none 0 0)).run P w = .ok a.isNone w:=by
  exact zrg hu 9999 a n c w
 have h1:(eqGuard .eql t x y (.slice a n c) (.slice none 0 0)).run P w = .ok () w:=by
  simp only [eqGuard,Bool.not_true,Bool.false_eq_true,if_false,Sem.run_pure]
 rw [Sem.run_bind,h1];simp only [Result.andThen_ok,binOp,Sem.run_bind,h,Sem.run_pure]
theorem zgS {α:Type} {E:Enc α} {T:TypeId} {w:World}:OwnS E T w.heap.size (w.alloc (.cells #[] T)) (some ⟨w.heap.size,0,none⟩) 0 []:=by
 unfold OwnS World.ownsRow;exact⟨by simp,.inr ⟨w.heap.size,0,#[],rfl,Nat.le_refl _,hnew w _,Nat.le_refl _,Nat.zero_le _,by simp,by simp⟩⟩
theorem zkc {p:Option Addr} {cap:Nat} {l:List UInt8} {w:World} (hl:SlR zaH w p l) (hn:l.length<=1000000) (hc:p=none->cap=0) :
  Calls Tryz.prog 140 #[.slice p l.length cap] w fun e w'=>(∃ q c,e = .returned (.slice q l.length c)/\OwnS zaH 5 w.heap.size w' q c l)/\Bw w w':=by
 refine cofE 8 [.slice p l.length cap] Tryz.func140 ?_;refine⟨_,fun w=>eqlS Tryz.underlying42 _ _ p l.length cap w,?_⟩
 cases p with
 | none =>
  refine brT ?_;have e:=hl.none;subst e;exact⟨⟨none,0,rfl,OwnS.nil⟩,Below.refl _ _⟩
 | some a =>
  refine brF ?_;refine⟨⟨by decide,by decide,rfl⟩,[],rfl,?_⟩;have hb0:Bw w (w.alloc (.cells #[] 5)):=zba w _;refine zdY (E:=zaH) (T:=5) (B:=w.heap.size) (l:=[]) (news:=l) (cap:=0) Tryz.underlying42 k5 rfl rfl rfl zgS rfl (hl.below hb0) (fun h=>by cases h) hb0.size (by simp;omega) (by simp;omega) ?_;intro p' cap' w' ho hg hbw;exact⟨⟨p',cap',rfl,ho⟩,hb0.trans hbw⟩
theorem zqW {x:UInt8} {w:World}:Calls Tryz.prog 173 #[u8 x] w fun e w'=>e = .returned (.bool false)/\w=w':=by
 refine cofE 6 [u8 x] Tryz.func173 ?_;refine⟨rb ?_,rfl⟩;rw [decide_eq_true rfl];rfl
theorem zpA {x y:UInt8} {w:World}:Calls Tryz.prog 282 #[u8 x,u8 y] w fun e w'=>e = .returned (.bool (decide ((x.toNat:Int)<(y.toNat:Int))))/\w=w':=by
 refine cofE 17 [u8 x,u8 y] Tryz.func282 ?_;refine cmo zqW ?_;rintro e _ ⟨rfl,rfl⟩;refine brF ?_;refine brF ?_;exact⟨rfl,rfl⟩
def srt8:List UInt8->Bool
 | []=>true
 | [_]=>true
 | x::y::r=>decide (x.toNat<=y.toNat)&&srt8 (y::r)
theorem zlg:∀ (l:List UInt8),srt8 l=true->∀ (k:Nat) (h:k+1<l.length),(l[k]).toNat<=(l[k+1]).toNat
 | [],_,k,h=>by simp at h
 | [x],_,k,h=>by simp at h
 | x::y::r,hs,k,h=>by
  unfold srt8 at hs;rw [bAT,dE] at hs
  cases k with
  | zero=>exact hs.1
  | succ k=>exact zlg (y::r) hs.2 k (by simpa using h)
section
variable {b o cap:Nat} {l:List UInt8} {w:World}
theorem zkE (hl:SlR zaH w (some ⟨b,o,none⟩) l) (h12:l.length<=12) (hs:srt8 l=true) :
  CB 276 #[.slice (some ⟨b,o,none⟩) l.length cap,i64 0,i64 l.length] w (.tuple #[]):=by
 refine cofE 49 [.slice (some ⟨b,o,none⟩) l.length cap,i64 0,i64 l.length] Tryz.func276 ?_;refine⟨1,by decide,?_⟩;refine⟨Nat,fun k=>⟨[(0,.slice (some ⟨b,o,none⟩) l.length cap),(1,i64 0),(2,i64 l.length),(6,i64 (k+1:Nat))],[]⟩,fun k X=>Bw w X,fun k=>l.length-k,0,
  (cvE rfl rfl),Below.refl _ _,?_⟩
 rintro k X hb;refine biE (fun hc=>?_) fun hc=>?_
 ·have hc:((k+1:Nat):Int)<(l.length:Int):=dT hc;have hk:k+1<l.length:=by omega
  refine⟨Unit,fun _=>⟨[(0,.slice (some ⟨b,o,none⟩) l.length cap),(1,i64 0),(2,i64 l.length),(6,i64 (k+1:Nat)),(7,i64 (k+1:Nat))],[]⟩,fun _ Y=>Bw w Y,fun _=>0,(),(cvE rfl rfl),hb,?_⟩;rintro _ Y hbY;have hbD:Bw w Y.drew:=hbY.drew;refine DrawE.ord [] [0,1,2,3,4,5,6,7,8,9,10,11,12,13,14] (by kernel_rfl) ?_;refine brE (decide_eq_true (by omega)) ?_;obtain⟨b',o',hp,hlt',hat⟩:=(hl.below hbD).at hk;simp only [Option.some.injEq,Addr.mk.injEq,and_true] at hp;obtain⟨rfl,rfl⟩:=hp;refine⟨k+1,rfl,hk,?_⟩;refine⟨u8 l[k+1],by have:=zac (hat (k+1) hk) (i:=0) (v:=u8 l[k+1]) rfl;exact this,?_⟩;refine⟨(k:Nat),(zaf (by omega)).trans (by omega),?_⟩;refine⟨k,rfl,by omega,?_⟩;refine⟨u8 l[k],by have:=zac (hat k (by omega)) (i:=0) (v:=u8 l[k]) rfl;exact this,?_⟩;refine cmo zpA ?_;rintro e _ ⟨rfl,rfl⟩;refine⟨Below.refl _ _,?_⟩;have hle:=zlg l hs k hk;refine brN (decide_eq_false (by omega)) ?_;refine⟨((k+1+1:Nat):Int),(zaf (by omega)).trans (by omega),?_⟩;exact⟨k+1,(cvE rfl rfl),hbD,zdc (by omega)⟩
 ·exact⟨rfl,hb⟩
theorem zqP {m:Int} (hl:SlR zaH w (some ⟨b,o,none⟩) l) (h12:l.length<=12) (hs:srt8 l=true) :
  CB 240 #[.slice (some ⟨b,o,none⟩) l.length cap,i64 0,i64 l.length,i64 m] w (.tuple #[]):=by
 refine cofE 134 [.slice (some ⟨b,o,none⟩) l.length cap,i64 0,i64 l.length,i64 m] Tryz.func240 ?_;refine⟨Unit,fun _=>⟨[(0,.slice (some ⟨b,o,none⟩) l.length cap),(1,i64 0),(2,i64 l.length),(3,i64 m)],[]⟩,fun _ X=>w=X,fun _=>0,(),(cvE rfl rfl),rfl,?_⟩;rintro _ _ rfl;refine⟨(l.length:Nat),(zaf (by omega)).trans (by omega),?_⟩;refine brE (decide_eq_true (by omega)) ?_;refine cmo (zkE hl h12 hs) ?_;rintro e X ⟨rfl,hb⟩;exact⟨rfl,hb⟩
theorem zqw {n:Nat} (h:n<256):Calls Tryz.prog 111 #[.int .u64 (n:Nat)] w fun e w'=>(∃ m:Int,e = .returned (i64 m))/\w=w':=by
 refine cofE 25 [.int .u64 (n:Nat)] Tryz.func111 ?_;refine brN (decide_eq_false (by omega)) ?_;refine brN (decide_eq_false (by omega)) ?_;refine brN (decide_eq_false (by omega)) ?_;refine⟨(n:Nat),zgK (by omega),?_⟩;refine⟨n,rfl,zoC h (by kernel_rfl),?_⟩;refine zqI (zoC h (by kernel_rfl)) fun u=>?_;refine⟨_,rfl,?_⟩;refine⟨_,rfl,?_⟩;exact⟨⟨_,rfl⟩,rfl⟩
theorem zmR {n:Nat} (h:n<256):Calls Tryz.prog 61 #[.int .u64 (n:Nat)] w fun e w'=>(∃ m:Int,e = .returned (i64 m))/\w=w':=by
 refine cofE 8 [.int .u64 (n:Nat)] Tryz.func61 ?_;refine brF ?_;refine cmo (zqw h) ?_;rintro e _ ⟨⟨m,rfl⟩,rfl⟩;exact⟨⟨m,rfl⟩,rfl⟩
theorem zqs (hl:SlR zaH w (some ⟨b,o,none⟩) l) (h12:l.length<=12) (hs:srt8 l=true) :
  CB 200 #[.slice (some ⟨b,o,none⟩) l.length cap] w (.tuple #[]):=by
 refine cofE 11 [.slice (some ⟨b,o,none⟩) l.length cap] Tryz.func200 ?_;refine⟨(l.length:Nat),ze2 (by omega),?_⟩;refine cmo (zmR (by omega)) ?_;rintro e _ ⟨⟨m,rfl⟩,rfl⟩;refine cmo (zqP hl h12 hs) ?_;rintro e X ⟨rfl,hb⟩;exact⟨rfl,hb⟩
end
section
variable {r:RelD}
theorem zsa {bx:Nat} {W0:World} (hr:WrdR r.to) (hn:r.n<=48) (fx:RelH W0 bx r) (hT:Tz64M W0) :
  zkT Tryz.prog 287 [At0 bx] (ordR r) W0 (fun k=>k=bx\/k=8) (fun _=>False) StO:=by
 intro yl F0 J Jx W hsz hrd hrf hJ hJx hy h0;have fxW:RelH W bx r:=(hrd bx (.inl (.inl rfl))).trans fx;have hTW:Tz64M W:=zbD hT (hrd _ (.inl (.inr rfl)));refine cofE 17 [.func (.yield yl) #[] #[],At0 bx] Tryz.func287 ?_;refine⟨relC r,zad _,zaa fxW,hlt fxW,?_⟩;refine cmo (zek hr hTW) ?_;rintro e X ⟨rfl,hbX⟩;refine biE (fun h=>?_) fun h=>?_
 ·have h:acyR r=false:=by
   have h:(!acyR r)=true:=h;simpa using h
  have hs:ordR r=[]:=by unfold ordR;rw [h];rfl
  rw [hs];exact⟨⟨_,rfl⟩,.inl ⟨F0,hJ.step _ _ _ _ h0 (.below hbX)⟩⟩
 have h:acyR r=true:=by
  have h:(!acyR r)=false:=h;simpa using h
 have hs:ordR r=extR (zbw r).to 64 (allM r.n) []:=by unfold ordR;rw [h];rfl
 rw [hs] at hy ⊢;refine⟨relC r,zad _,zaa (zab hbX fxW),hlt (zab hbX fxW),?_⟩;refine cmo (zif hr (hTW.below hbX)) ?_;rintro e Y ⟨rfl,hbY,hrB⟩;have hbXY:=zst hbX hbY;refine zap (X:=Y) (v := .agg (relC (zbw r)).toArray) k102 (zad _) (by kernel_rfl) (zau _) fun V hbV fV sV=>?_;have hbV2:=zst hbXY hbV;have fxV:=zab hbV2 fxW;have hTV:=hTW.below hbV2;have hok:okR r=true:=by
  unfold acyR topF at h
  split at h
  ·assumption
  ·simp at h
 obtain⟨p0,p48,_⟩:=za5 hok;obtain⟨n,hnn⟩:∃ n:Nat,r.n=n:=⟨r.n.toNat,by omega⟩;have hn48:n<=48:=by omega
 have hal:els (allN n)=List.range n:=ziX (by omega);have wY:=hbXY.size;have hbVF:¬ F0 Y.heap.size:=fun h=>by have:=(hJ.lt _ _ _ _ h0 h).1;omega
 have htl:=zck hTW;have hJn:JG W.heap.size (fun _=>False) (fun pre F Z=>J pre F Z/\W.heap.size<=Z.heap.size):=⟨fun s F A B ⟨h,hn⟩ hs=>⟨hJ.step _ _ _ _ h hs,Nat.le_trans hn hs.size⟩,fun s F A k ⟨h,_⟩ hk=>hJ.lt _ _ _ _ h hk⟩;have hal2:allM r.n=allN n:=by rw [zf4,hnn]
 have main:∀ Z:World,OwnS natE 3 V.heap.size Z (some ⟨V.heap.size,0,none⟩) n []->Bw V Z->Calls Tryz.prog 288 #[At0 Y.heap.size,s64 (allN n),.slice (some ⟨V.heap.size,0,none⟩) 0 n,.func (.yield yl) #[] #[]] Z fun e Y2=>(∃ v,e = .returned v)/\((∃ F',J (extR (zbw r).to 64 (allM r.n) []) F' Y2)\/∃ pre F',pre <+: extR (zbw r).to 64 (allM r.n) []/\Jx pre F' Y2):=by
  intro Z oZ hbZ;have hbWZ:Bw W Z:=zst hbV2 hbZ;refine cmo (zn1 (l:=[]) (J:=fun pre F Z=>J pre F Z/\W.heap.size<=Z.heap.size) (Jx:=Jx) (n0:=W.heap.size) (n:=n) (bB:=Y.heap.size) (r:=zbw r) (xs:=extR (zbw r).to 64 (allM r.n) []) hJn (fun _ _ _ h=>h.2) (fun pre x vs F W1 ⟨hj,hn⟩ hst hpre=>YieldR.mono (hy pre x vs F W1 hj hst hpre) fun v W2 h=>?_) hrB hn48 htl 64 (allN n) V.heap.size [] F0 Z (zfT _) (zc1 _) (fun i hi=>by
   rw [hal] at hi;have:=List.mem_range.1 hi;omega) (by rw [hal];simp) (oZ.lower hbV2.size) (fun h=>?_) ⟨hJ.step _ _ _ _ h0 (.below hbWZ),hbWZ.size⟩ (zab hbZ fV) hbVF wY (by omega) (hTV.below hbZ) (hrf _ (.inr rfl)) (by rw [hal2];exact List.prefix_refl _)) ?_
  ·rcases h with ⟨rfl,F',h1,h2⟩ | h
   ·exact .inl ⟨rfl,F',⟨h1,Nat.le_trans hn h2.size⟩,h2⟩
   ·exact .inr h
  ·have:=(hJ.lt _ _ _ _ h0 h).1;have:=hbV2.size;omega
  ·rintro e Y2 (⟨rfl,F',⟨hj,_⟩,_⟩ | ⟨rfl,pre',F',h1,h2⟩)
   ·rw [hal2];exact⟨⟨_,rfl⟩,.inl ⟨F',hj⟩⟩
   ·exact⟨⟨_,rfl⟩,.inr ⟨pre',F',h1,h2⟩⟩
 refine DrawE.treeQ [7] (.op 0 (.op 1 (.op 3 (.op 4 (.op 6 (.alt (.op 2 (.op 5 (.op 7 .nil))) (.op 5 (.op 2 (.op 7 .nil))))))))) (by kernel_rfl) ?_;refine⟨i64 n,by rw [<- hnn];exact zac (zaa fxV) (i:=0) rfl,?_⟩;refine⟨i64 n,by rw [<- hnn];exact zac (zaa fxV) (i:=0) rfl,?_⟩;refine And.intro ?_ ?_
 ·refine cmo zkZ ?_;rintro e _ ⟨rfl,rfl⟩;refine⟨Below.refl _ _,?_⟩;refine zea (E:=natE) Tryz.underlying150 k3 rfl rfl rfl n (by show 8*n<=_;omega) (by unfold maxLen;omega) fun Z oZ hbZ sZ=>?_;refine⟨hbZ,?_⟩;refine cmo (main Z oZ (((Below.refl _ V).drew).trans hbZ)) ?_;rintro e Y2 ⟨⟨v,rfl⟩,h⟩;exact⟨⟨_,rfl⟩,h⟩
 ·refine zea (E:=natE) Tryz.underlying150 k3 rfl rfl rfl n (by show 8*n<=_;omega) (by unfold maxLen;omega) fun Z oZ hbZ sZ=>?_;refine⟨hbZ,?_⟩;refine cmo zkZ ?_;rintro e _ ⟨rfl,rfl⟩;refine⟨Below.refl _ _,?_⟩;refine cmo (main Z oZ (((Below.refl _ V).drew).trans hbZ)) ?_;rintro e Y2 ⟨⟨v,rfl⟩,h⟩;exact⟨⟨_,rfl⟩,h⟩
theorem zrB {w:World}:Calls Tryz.prog 246 #[.agg (relC r).toArray] w fun e w'=>e = .returned (.func (.func 287) #[] #[At0 w.heap.size])/\RelH w' w.heap.size r/\w'.heap.size=w.heap.size+1/\Bw w w':=by
 refine cofE 4 [.agg (relC r).toArray] Tryz.func246 ?_;exact⟨rfl,hnew w _,wz _ _,(zba w _)⟩
theorem zm8 {b:Nat} {m:Nat} {w:World} (hr:WrdR r.to) (fb:RelH w b r):CB 245 #[At0 b,i64 m] w (.bool (decide (m<=10000)&&okR r)):=by
 refine cofE 17 [At0 b,i64 m] Tryz.func245 ?_;refine biE (fun h=>?_) fun h=>?_
 ·refine biE (fun h2=>?_) fun h2=>?_
  ·have h2:(m:Int)<=10000:=dT h2;refine⟨relC r,zad _,zaa fb,hlt fb,?_⟩;refine cmo (zbl hr) ?_;rintro e Y ⟨rfl,hbY⟩;exact⟨rb (by rw [decide_eq_true (show m<=10000 by omega),Bool.true_and]),hbY⟩
  ·have h2:¬ (m:Int)<=10000:=dF h2;exact⟨rb (by rw [decide_eq_false (show ¬ m<=10000 by omega),Bool.false_and]),Below.refl _ _⟩
 ·have h:¬ (0:Int)<=m:=dF h;omega
end
def zbt:Enc (List Nat×Option Addr×Nat) where
 sz:=1
 enc x:=[.slice x.2.1 x.1.length x.2.2]
 len x:=rfl
 one x v hv:=by
  simp at hv;subst hv;rfl
 pos:=by decide
theorem zoq {p:Option Addr} {cap:Nat} {l:List Nat} {w:World} (hl:SlR natE w p l) (hn:l.length<=100000) (hc:p=none->cap=0) :
  Calls Tryz.prog 247 #[.slice p l.length cap] w fun e w'=>(∃ q c,e = .returned (.slice q l.length c)/\OwnS natE 3 w.heap.size w' q c l)/\Bw w w':=by
 refine cofE 8 [.slice p l.length cap] Tryz.func247 ?_;refine⟨_,fun w=>eqlS Tryz.underlying150 _ _ p l.length cap w,?_⟩
 cases p with
 | none =>
  refine brT ?_;have e:=hl.none;subst e;exact⟨⟨none,0,rfl,OwnS.nil⟩,Below.refl _ _⟩
 | some a =>
  refine brF ?_;refine⟨⟨by decide,by decide,rfl⟩,[],rfl,?_⟩;have hb0:Bw w (w.alloc (.cells #[] 3)):=zba w _;refine zdY (E:=natE) (T:=3) (B:=w.heap.size) (l:=[]) (news:=l) (cap:=0) Tryz.underlying150 k3 rfl rfl rfl zgS rfl (hl.below hb0) (fun h=>by cases h) hb0.size (by simp;omega) (by show (0+l.length)*8<=_;omega) ?_;intro p' cap' w' ho hg hbw;exact⟨⟨p',cap',rfl,ho⟩,hb0.trans hbw⟩
def NInI (B:Nat) (F:Nat->Prop) (Y:World) (x:List Nat×Option Addr×Nat):Prop:=OwnS natE 3 B Y x.2.1 x.2.2 x.1/\∀ a,x.2.1=some a->F a.block
theorem zfB (B:Nat):zkS 150 151 (NInI B):=by
 rintro F G Y Z x ⟨h1,h2⟩ hs hFG;refine⟨h1.same fun a ha=>?_,fun a ha=>hFG _ (h2 a ha)⟩;obtain⟨_,_,cur,hc⟩:=zas h1 ha;exact hs _ cur 3 (h2 a ha) hc (by decide) (by decide)
theorem zpN {before:Nat->Nat}:∀ (m left:Nat) (l:List Nat),∀ x∈extR before m left l,x.length<=l.length+m:=by
 intro m
 induction m with
 | zero =>
  intro left l x hx;unfold extR at hx
  split at hx
  ·simp only [List.mem_singleton] at hx;subst hx;omega
  ·cases hx
 | succ m ih =>
  intro left l x hx;unfold extR at hx
  split at hx
  ·simp only [List.mem_singleton] at hx;subst hx;omega
  ·obtain⟨a,_,ha⟩:=List.mem_flatMap.1 hx
   split at ha
   ·have:=ih _ _ _ ha;simp only [lap,List.length_cons,List.length_nil] at this;omega
   ·cases ha
theorem zlM {r:RelD} {x:List Nat} (h:x∈ordR r):x.length<=64:=by
 unfold ordR at h
 split at h
 ·have:=zpN _ _ _ x h;simpa using this
 ·cases h
def AscB (xs:List (List Nat×Option Addr×Nat)):Prop:=xs.Pairwise fun x y=>∀ a b,x.2.1=some a->y.2.1=some b->a.block<b.block
theorem AscB.snoc {xs:List (List Nat×Option Addr×Nat)} {n:Nat} {y:List Nat×Option Addr×Nat} (h:AscB xs) (h1:∀ x∈xs,∀ a,x.2.1=some a->a.block<n) (h2:∀ a,y.2.1=some a->n<=a.block):AscB (xs++[y]):=by
 unfold AscB;rw [List.pairwise_append];refine⟨h,List.pairwise_singleton _ _,fun x hx z hz a b ha hb=>?_⟩;rw [List.mem_singleton.1 hz] at hb;exact nL (h1 x hx a ha) (h2 b hb)
abbrev zr0:List (List Nat×Option Addr×Nat):=[]
theorem zom {r:RelD} {m:Nat} {w:World} (hr:WrdR r.to) (hT:Tz64M w) (hm:m<=10000) (hok:okR r=true) :
  Calls Tryz.prog 210 #[.agg (relC r).toArray,i64 m] w fun e w' =>
   (((ordR r).length<=m/\∃ (xs:List (List Nat×Option Addr×Nat)) (p:Option Addr) (c:Nat),e = .returned (.tuple #[.slice p xs.length c,i64 0])/\xs.map (·.1)=ordR r/\AscB xs/\OwnS zbt 150 w.heap.size w' p c xs/\∀ x∈xs,OwnS natE 3 w.heap.size w' x.2.1 x.2.2 x.1) \/
    (m<(ordR r).length/\e = .returned (.tuple #[.slice none 0 0,i64 5])))/\Bw w w':=by
 refine cofM 24 [.agg (relC r).toArray,i64 m] (.c .p (.s .p (.c .p .p))) Tryz.func210 ?_;obtain⟨L,hL⟩:=nm (w.heap.size);refine⟨Unit,fun _=>⟨[(2,At0 L),(3,At0 (L+1)),(4,At0 (L+2)),(5,At0 (L+3))],[]⟩,fun _ X=>(RelH X L r/\X.heap[L+1]?=some (.cells #[i64 m] 3 (0,0))/\X.heap[L+2]?=some (.cells #[.slice none 0 0] 151 (0,0))/\X.heap[L+3]?=some (.cells #[i64 0] 52 (0,0)))/\X.heap.size=L+4/\Bw w X,?_,?_⟩
 ·have s1:=wz w (.cells (relC r).toArray 102);have h2:=hnew (w.alloc (.cells (relC r).toArray 102)) (.cells #[i64 m] 3 (0,0));have s2:=wz (w.alloc (.cells (relC r).toArray 102)) (.cells #[i64 m] 3 (0,0));have h3:=hnew ((w.alloc (.cells (relC r).toArray 102)).alloc (.cells #[i64 m] 3 (0,0))) (.cells #[.slice none 0 0] 151 (0,0));have s3:=wz ((w.alloc (.cells (relC r).toArray 102)).alloc (.cells #[i64 m] 3 (0,0))) (.cells #[.slice none 0 0] 151 (0,0));have h4:=hnew (((w.alloc (.cells (relC r).toArray 102)).alloc (.cells #[i64 m] 3 (0,0))).alloc (.cells #[.slice none 0 0] 151 (0,0))) (.cells #[i64 0] 52 (0,0));have s4:=wz (((w.alloc (.cells (relC r).toArray 102)).alloc (.cells #[i64 m] 3 (0,0))).alloc (.cells #[.slice none 0 0] 151 (0,0))) (.cells #[i64 0] 52 (0,0));rw [s1] at h2 s2;rw [s2] at h3 s3;rw [s3] at h4 s4;rw [<- hL] at h2 s2 h3 s3 h4 s4;have f0:=hold (.cells #[i64 0] 52 (0,0)) (hold (.cells #[.slice none 0 0] 151 (0,0)) (hold (.cells #[i64 m] 3 (0,0)) (hnew w (.cells (relC r).toArray 102))));rw [<- hL] at f0;refine⟨(),⟨.cons (by rw [hL];rfl) (.cons (by rw [hL,<- s1];rfl) (.cons (by rw [<- s2];rfl) (.cons (by rw [<- s3];rfl) .nil))),rfl⟩,⟨f0,hold _ (hold _ h2),hold _ h3,h4⟩,s4,?_⟩;exact ((((zba w _)).alloc (by simp) _).alloc (by simp;omega) _).alloc (by simp;omega) _
 rintro _ X ⟨⟨f0,f1,f2,f3⟩,sX,hbX⟩;refine⟨_,zac (zaa f1) (i:=0) rfl,?_⟩;refine cmo (zm8 hr f0) ?_;rintro e Y ⟨rfl,hbY⟩;refine brN (by rw [hok,decide_eq_true hm];rfl) ?_;have hwY:=zst hbX hbY;obtain⟨M,hM⟩:=nm (Y.heap.size);have hMX:L+4<=M:=by have:=hbY.size;omega
 refine⟨Unit,fun _=>⟨[(2,At0 L),(3,At0 (L+1)),(4,At0 (L+2)),(5,At0 (L+3)),(6,At0 M)],[]⟩,fun _ V=>V.heap[M]?=some (.cells #[.slice none 0 0] 151 (0,0))/\V.heap.size=M+1/\Bw X V,?_,?_⟩
 ·exact⟨(),⟨.cons rfl (.cons rfl (.cons rfl (.cons rfl (.cons (by rw [hM];rfl) .nil)))),rfl⟩,by rw [hM];exact hnew Y _,by rw [hM];exact wz Y _,hbY.alloc hbY.size _⟩
 rintro _ V ⟨fM,sV,hbV⟩;have hwV:=zst hbX hbV;have f0:=zab hbV f0;have f1:=zab hbV f1;have f2:=zab hbV f2;have f3:=zab hbV f3;refine⟨relC r,zad _,zaa f0,hlt f0,?_⟩;refine cmo zrB ?_;rintro e W ⟨rfl,fx,sW,hbW⟩;obtain⟨p0,p48,_⟩:=za5 hok;have hwW:=zst hwV hbW;have htl:=zck hT;have hI:=zsa hr p48 fx (hT.below hwW);have f1:=zab hbW f1;have f2:=zab hbW f2;have f3:=zab hbW f3;have fM:=zab hbW fM;have hwL:w.heap.size=L:=hL.symm;clear hbV hbY hwY hbX f0 sX;refine zeQ (sgOk _) rfl (lb := #[At0 V.heap.size]) rfl rfl hI (Nat.le_refl _) (fun k hk=>⟨?_,rfl⟩) (fun pre vs W ⟨l,q,c,_,h,_⟩=>by rw [h];rfl) (by decide)
  (fun k=>k=M\/k=L+2\/k=L+3)
  (fun pre F Z=>(∃ xs,(xs.map (·.1)=pre/\pre.length<=m/\AscB xs)/\Gath zbt 150 151 (L+4) W.heap.size M W (NInI (L+4)) xs F Z)/\F (L+2)/\F (L+3))
  (fun ex pre F Z=>ex = .ret/\m<(ordR r).length/\Z.heap[L+2]?=some (.cells #[.slice none 0 0] 151 (0,0))/\Z.heap[L+3]?=some (.cells #[i64 5] 52 (0,0))/\Bw w Z/\W.heap.size<=Z.heap.size/\F (L+2)/\F (L+3)/\∀ k,F k->k<Z.heap.size)
  (fun k hk=>?_) ⟨?_,?_⟩ (fun ex=>⟨?_,?_⟩) ?_ ?_ ?_ ?_
 ·rcases hk with (rfl | rfl) | h
  ·omega
  ·have:=hwW.size;omega
  ·exact h.elim
 ·rcases hk with rfl | rfl <;> omega
 ·rintro pre F A C ⟨h,h2,h3⟩ hs;exact⟨(Gath.iter (σ:=List (List Nat)) (f:=fun pre xs=>xs.map (·.1)=pre/\pre.length<=m/\AscB xs) (zfB (L+4)) (by omega)).step pre F A C h hs,h2,h3⟩
 ·rintro pre F A k ⟨h,_⟩ hk;exact (Gath.iter (σ:=List (List Nat)) (f:=fun pre xs=>xs.map (·.1)=pre/\pre.length<=m/\AscB xs) (zfB (L+4)) (by omega)).lt pre F A k h hk
 ·rintro pre F A C ⟨h1,h2,h3,h4,h5,h6,h7,h8,h9⟩ hs;exact⟨h1,h2,(hs.same _ (hlt h3) (.inr h7)).trans h3,(hs.same _ (hlt h4) (.inr h8)).trans h4,h5.trans ⟨hs.os,hs.tape,hs.output,hs.size,fun k hk=>hs.same k (nL hk h5.size) (.inl ⟨by omega,fun h=>h⟩)⟩,Nat.le_trans h6 hs.size,h7,h8,fun k hk=>nL (h9 k hk) hs.size⟩
 ·rintro pre F A k ⟨h1,h2,h3,h4,h5,h6,h7,h8,h9⟩ hk;exact⟨h9 k hk,fun h=>h⟩
 ·refine⟨⟨zr0,⟨rfl,Nat.zero_le _,List.Pairwise.nil⟩,⟨Nat.le_refl _,.inl rfl,fun k hk=>?_,⟨none,0,fM,OwnS.nil,fun a h=>by cases h⟩,fun x hx=>(by cases hx),Below.refl _ _⟩⟩,.inr (.inl rfl),.inr (.inr rfl)⟩;rcases hk with rfl | rfl | rfl <;> omega
 ·rintro yl pre x vs F Y hyl hpre hJ ⟨l,q,c,hlast,rfl,hsl,hqc,hcel⟩ hfy ⟨lo,hlo⟩;have hxR:x=l:=by simpa using hlast
  subst hxR;refine⟨rfl,F,KeepsG.refl _ _,hJ,?_⟩;rintro o Y2 hY2 ⟨⟨xs,⟨hxs,hpm,hasc⟩,hG⟩,hF2,hF3⟩;have hpl:pre.length<(ordR r).length:=by
   obtain⟨t,ht⟩:=hpre;rw [<- ht];simp only [lap,List.length_cons];omega
  have hxl:xs.length=pre.length:=by rw [<- hxs,List.length_map]
  have hmem:x∈ordR r:=hpre.subset (by simp);have hlen:=zlM hmem;have hslY:SlR natE Y2 q x:=by
   rw [hY2];refine za4 hsl fun a ha=>zai fun e=>?_;obtain⟨cur,hcur⟩:=hcel a ha;rw [e,hlo] at hcur
   cases hcur
  obtain⟨p,c',h4,h5,h6⟩:=hG.row;have hWL:L+4<=W.heap.size:=by omega
  have g1:Y2.heap[L+1]?=some (.cells #[i64 m] 3 (0,0)):=(hG.old.block _ (by omega)).trans f1;refine⟨_,zac (zaa h4) (i:=0) rfl,?_⟩;refine⟨_,zac (zaa g1) (i:=0) rfl,?_⟩;refine biE (fun hc=>?_) fun hc=>?_
  ·have hc:((xs.length:Nat):Int)=(m:Int):=dT hc;have g2:Y2.heap[L+2]?=some (.cells #[.slice none 0 0] 151 (0,0)):=(hG.old.block _ (by omega)).trans f2;have g3:Y2.heap[L+3]?=some (.cells #[i64 0] 52 (0,0)):=(hG.old.block _ (by omega)).trans f3;refine zal k151 g2 (o:=0) (v := .slice none 0 0) rfl rfl (by show 0<1;decide) rfl fun Z1 fZ1 gZ1 sZ1=>?_;refine zal k52 ((gZ1.block (L+3) (hlt g3) (by simp)).trans g3) (o:=0) (v:=i64 5) rfl rfl (by show 0<1;decide) rfl fun Z2 fZ2 gZ2 sZ2=>?_;refine⟨F,⟨rfl,by omega,(gZ2.block (L+2) (hlt fZ1) (by simp)).trans fZ1,fZ2,?_,by have:=hG.size;omega,hF2,hF3,fun k hk=>by have:=hG.lt k hk;omega⟩,(KeepsG.grown gZ1 hF2).trans (KeepsG.grown gZ2 hF3)⟩;have hwY:=hwW.trans (hG.old.mono (by omega));exact (hwY.trans (zak gZ1 hwY.size (by omega))).trans (zak gZ2 (by have:=hwY.size;omega) (by omega))
  ·have hc:¬ ((xs.length:Nat):Int)=(m:Int):=dF hc;refine DrawE.ord [4,5] [0,1,2,3,4,5] (by kernel_rfl) ?_;have hd2:Bw Y2 Y2.drew:=(Below.refl _ _).drew;refine⟨_,zac (zaa (hdr h4)) (i:=0) rfl,?_⟩;refine cmo (zoq (hslY.below hd2) (by omega) hqc) ?_;rintro e Y3 ⟨⟨q1,k1,rfl,o1⟩,hb3⟩;refine⟨hb3,?_⟩;obtain⟨nx,hnx⟩:∃ nx:List Nat×Option Addr×Nat,nx=(x,q1,k1):=⟨_,rfl⟩;have hen:[Value.slice q1 x.length k1]=zbt.enc nx:=by rw [hnx];rfl
   refine⟨⟨by decide,by decide,rfl⟩,zbt.enc nx,by rw [<- hen];rfl,?_⟩;have hba:Bw Y3 (Y3.alloc (.cells (zbt.enc nx).toArray 150)):=zba _ _;refine⟨hba,?_⟩;have hnw:∀ (G:Nat->Prop) (Z:World),(∀ k,Y2.heap.size<=k->k<Y3.heap.size->Z.heap[k]?=Y3.heap[k]?)->(∀ k,Y2.heap.size<=k->k<Y3.heap.size->G k)->NInI (L+4) G Z nx:=by
    intro G Z hs hg;rw [hnx];have ol:∀ a,q1=some a->Y2.heap.size<=a.block/\a.block<Y3.heap.size:=fun a ha=>⟨(zas o1 ha).1,(zas o1 ha).2.1⟩;have hY2s:=hG.size;exact⟨OwnS.lower (o1.same fun a ha=>hs _ (ol a ha).1 (ol a ha).2) (by show L+4<=Y2.heap.size;omega),fun a ha=>hg _ (ol a ha).1 (ol a ha).2⟩
   obtain⟨v,Y5,hrun,Z,hrun2,F',hG',hK',hFF⟩:=hG.step (P:=Tryz.prog) (ty:=151) (cap1:=1) (zfB (L+4)) (by decide) Tryz.underlying151 k150 rfl rfl rfl k151 rfl (by omega) (by omega) (hd2.trans hb3) nx (by omega) (by show (xs.length+1)*24<=_;omega) hnw p c' h4;refine SatR.mk hrun ?_;refine SatR.mk hrun2 ?_;exact⟨F',⟨⟨_,⟨by rw [List.map_append,hxs,hnx];rfl,by simp only [lap,List.length_cons,List.length_nil];omega,hasc.snoc (n:=Y2.heap.size) (fun x' hx' a ha=>(zas (hG.nest x' hx').1 ha).2.1) (fun a ha=>by rw [hnx] at ha;exact (zas o1 ha).1)⟩,hG'⟩,hFF _ hF2,hFF _ hF3⟩,hK'⟩
 ·rintro D F Y hD hfD ⟨⟨xs,⟨hxs,hpm,hasc⟩,hG⟩,hF2,hF3⟩ hdef;obtain⟨p,c',h4,h5,h6⟩:=hG.row;have hWL:L+4<=W.heap.size:=by omega
  have g2:Y.heap[L+2]?=some (.cells #[.slice none 0 0] 151 (0,0)):=(hG.old.block _ (by omega)).trans f2;have g3:Y.heap[L+3]?=some (.cells #[i64 0] 52 (0,0)):=(hG.old.block _ (by omega)).trans f3;refine⟨_,zac (zaa h4) (i:=0) rfl,?_⟩;refine zal k151 g2 (o:=0) (v := .slice p xs.length c') rfl rfl (by show 0<1;decide) rfl fun Z1 fZ1 gZ1 sZ1=>?_;refine zal k52 ((gZ1.block (L+3) (hlt g3) (by simp)).trans g3) (o:=0) (v:=i64 0) rfl rfl (by show 0<1;decide) rfl fun Z2 fZ2 gZ2 sZ2=>?_;have k2:∀ k,k<Y.heap.size->k≠L+2->k≠L+3->Z2.heap[k]?=Y.heap[k]?:=fun k hk n1 n2=>(gZ2.block k (by rw [sZ1];exact hk) (by simpa using n2)).trans (gZ1.block k hk (by simpa using n1));refine⟨_,rfl,(k2 D (hlt hdef) (by omega) (by omega)).trans hdef,?_⟩;have f2':=(gZ2.block (L+2) (hlt fZ1) (by simp)).trans fZ1;have nD2:D≠L+2:=fun e=>hfD (e▸hF2);have nD3:D≠L+3:=fun e=>hfD (e▸hF3);have hwY:=hwW.trans (hG.old.mono (by omega));have b2:=(hwY.trans (zak gZ1 hwY.size (by omega))).trans (zak gZ2 (by have:=hwY.size;omega) (by omega));have kp:∀ a:Addr,L+4<=a.block->F a.block->a.block<Y.heap.size->(Z2.putObj D (.deferred none)).heap[a.block]?=Y.heap[a.block]?:=fun a h1 h2 h3=>(zai fun e=>by rw [<- e] at hfD;exact hfD h2).trans (k2 _ h3 (by omega) (by omega));refine⟨.slice p xs.length c',zac (zaa ((zai fun e=>nD2 e.symm).trans f2')) (i:=0) rfl,i64 0,zac (zaa ((zai fun e=>nD3 e.symm).trans fZ2)) (i:=0) rfl,.inl ⟨by rw [<- hxs,List.length_map] at hpm ⊢;exact hpm,xs,p,c',rfl,hxs,hasc,?_,fun x hx=>?_⟩,zaP b2 (by omega) _⟩
  ·exact OwnS.lower (h5.same fun a ha=>kp a (zas h5 ha).1 (h6 a ha) (zas h5 ha).2.1) (by omega)
  ·obtain⟨hx1,hx2⟩:=hG.nest x hx;exact OwnS.lower (hx1.same fun a ha=>kp a (zas hx1 ha).1 (hx2 a ha) (zas hx1 ha).2.1) (by omega)
 ·rintro D ex pre F Y hD hfD hpre ⟨rfl,hm2,h3,h4,h5,h6,h7,h8,h9⟩ hdef;refine⟨_,rfl,hdef,?_⟩;have nD2:D≠L+2:=fun e=>hfD (e▸h7);have nD3:D≠L+3:=fun e=>hfD (e▸h8);exact⟨_,zac (zaa ((zai fun e=>nD2 e.symm).trans h3)) (i:=0) rfl,_,zac (zaa ((zai fun e=>nD3 e.symm).trans h4)) (i:=0) rfl,.inr ⟨hm2,rfl⟩,zaP h5 (by have:=hwW.size;omega) _⟩
theorem zon {p:Option Addr} {cap:Nat} {l:List Nat} {s:Nat} {w:World} (hl:SlR natE w p l) (hn:l.length<=140737488351232) :
  Calls Tryz.prog 244 #[.slice p l.length cap,i64 s] w fun e w'=>∃ n:Int,e = .returned (i64 n)/\decide (0<=n)=l.any (fun q=>decide (q=s))/\w=w':=by
 refine cofE 19 [.slice p l.length cap,i64 s] Tryz.func244 ?_;refine⟨Nat,fun k=>⟨[(0,.slice p l.length cap),(1,i64 s),(7,i64 l.length),(8,i64 (k:Nat))],[]⟩,fun k X=>k<=l.length/\(∀ q∈l.take k,¬ q=s)/\w=X,fun k=>l.length-k,0,(cvE rfl rfl),⟨Nat.zero_le _,by simp,rfl⟩,?_⟩;rintro k _ ⟨hk,hno,rfl⟩;dsimp only at hk hno ⊢;refine biE (fun hc=>?_) fun hc=>?_
 ·have hc:(k:Int)<(l.length:Int):=dT hc;have hkl:k<l.length:=by omega
  obtain⟨b,o,rfl,hb,hat⟩:=hl.at hkl;refine⟨k,rfl,hkl,?_⟩;refine⟨i64 l[k],zac (hat k hkl) (i:=0) rfl,?_⟩;refine biE (fun h=>?_) fun h=>?_
  ·have h:(s:Int)=(l[k]:Nat):=dT h;refine⟨k,rfl,?_,rfl⟩;rw [decide_eq_true (by omega)];symm;rw [List.any_eq_true];exact⟨l[k],gM _,decide_eq_true (by omega)⟩
  ·have h:¬ (s:Int)=(l[k]:Nat):=dF h;refine⟨(k+1:Nat),(zaf (by omega)).trans (by omega),?_⟩;refine⟨k+1,(cvE rfl rfl),⟨hkl,?_,rfl⟩,zdc (by omega)⟩;rw [tsg hkl];intro q hq;rcases List.mem_append.1 hq with hq | hq
   ·exact hno q hq
   ·simp only [List.mem_singleton] at hq;rw [hq];exact fun e=>h (by rw [e])
 ·have hc:¬ (k:Int)<(l.length:Int):=dF hc;obtain rfl:k=l.length:=by omega
  rw [List.take_length] at hno;refine⟨-1,rfl,?_,rfl⟩;symm;show _=false;rw [List.any_eq_false];exact fun q hq=>by simpa using hno q hq
theorem zi9 {p:Option Addr} {cap:Nat} {l:List Nat} {s:Nat} {w:World} (hl:SlR natE w p l) (hn:l.length<=140737488351232) :
  Calls Tryz.prog 206 #[.slice p l.length cap,i64 s] w fun e w'=>e = .returned (.bool (l.any fun q=>decide (q=s)))/\w=w':=by
 refine cofE 9 [.slice p l.length cap,i64 s] Tryz.func206 ?_;refine cmo (zon hl hn) ?_;rintro e _ ⟨n,rfl,h,rfl⟩;exact⟨rb h,rfl⟩
abbrev rowI (l:List Nat):List Value:=l.map fun n:Nat=>i64 n
abbrev RowI (Z:World) (g:Nat) (l:List Nat):Prop:=Z.heap[g]?=some (.cells (rowI l).toArray 3 (0,0))
theorem ze9:∀ l:List Nat,l.flatMap natE.enc=rowI l
 | []=>rfl
 | a::l=>by
  show i64 a::l.flatMap natE.enc=i64 a::rowI l;rw [ze9 l]
theorem zjd:∀ n,zrep [Value.int IntKind.i64 0] n=rowI (List.replicate n 0)
 | 0=>rfl
 | n+1=>by
  show Value.int IntKind.i64 0::zrep [Value.int IntKind.i64 0] n=i64 0::rowI (List.replicate n 0);rw [<- zjd n];rfl
theorem RowI.sl {Z:World} {g:Nat} {l:List Nat} (h:RowI Z g l):SlR natE Z (some ⟨g,0,none⟩) l :=
 SlR.of_cells (hlt h) (by rw [ze9];exact zaa h)
theorem zlC {α:Type} {f:Nat->α} {n j:Nat} (h:j<n):((List.range j).map f++[f j]) <+: (List.range n).map f:=by
 obtain⟨m,rfl⟩:∃ m,n=(j+1)+m:=⟨n-(j+1),by omega⟩;rw [List.range_add,List.map_append];exact⟨_,by rw [List.range_succ,List.map_append];rfl⟩
def StD (pre:List (List Nat)) (vs:List Value) (W:World):Prop:=∃ l q,pre.getLast?=some l/\vs=[.slice q l.length l.length]/\SlR natE W q l/\∀ a,q=some a->∃ cur,W.heap[a.block]?=some (.cells cur 3 (0,0))
section
variable {bx:Nat} {sizes:List Nat} {q:Option Addr} {c:Nat} {W0:World}
theorem zqU (fx:W0.heap[bx]?=some (.cells #[.slice q sizes.length c] 150 (0,0))) (hl:SlR natE W0 q sizes) (hql:∀ a,q=some a->a.block<W0.heap.size) (hn:sizes.length<=1000) (hm:∀ n∈sizes,n<=1000000) :
  zkT Tryz.prog 205 [At0 bx] (zdV sizes) W0 (fun k=>k=bx\/∃ a,q=some a/\k=a.block) (fun _=>False) StD:=by
 intro yl F0 J Jx W hsz hrd hrf hJ hJx hy h0;have fxW:=(hrd bx (.inl (.inl rfl))).trans fx;have hlW:SlR natE W q sizes:=za4 hl fun a ha=>hrd _ (.inl (.inr ⟨a,ha,rfl⟩));refine cofE 43 [.func (.yield yl) #[] #[],At0 bx] Tryz.func205 ?_;refine⟨_,zac (zaa fxW) (i:=0) rfl,?_⟩;refine cmo (zi9 (s:=0) hlW (by omega)) ?_;rintro e _ ⟨rfl,rfl⟩;refine biE (fun h=>?_) fun h=>?_
 ·have h:(sizes.any fun q=>decide (q=0))=true:=h;obtain⟨z,hz,hz0⟩:=List.any_eq_true.1 h;have hz0:z=0:=dT hz0;subst hz0;have hs:zdV sizes=[]:=by unfold zdV;rw [zeu (by simpa using hz)];rfl
  rw [hs];exact⟨⟨_,rfl⟩,.inl ⟨F0,h0⟩⟩
 have h:(sizes.any fun q=>decide (q=0))=false:=h;obtain⟨rs,hrs⟩:=nm (sizes.reverse);have hr0:∀ n∈rs,n≠0:=fun n hn e=>by
  rw [List.any_eq_false] at h;exact h n (by rw [hrs] at hn;simpa using hn) (decide_eq_true e)
 have hlen:rs.length=sizes.length:=by rw [hrs,List.length_reverse]
 refine⟨_,zac (zaa fxW) (i:=0) rfl,?_⟩;refine zhQ Tryz.underlying150 k3 rfl rfl (by decide) sizes.length (by show 8*_<=_;omega) (by omega) fun X fX hbX sX=>?_;rw [zjd] at fX;obtain⟨D,hD⟩:∃ D:Nat->List Nat,D=fun j=>(digL rs j).reverse:=⟨_,rfl⟩;have hDl:∀ j,(D j).length=sizes.length:=fun j=>by rw [hD];show ((digL rs j).reverse).length=_;rw [List.length_reverse,zfe,hlen]
 have hds:zdV sizes=(List.range (za2 rs)).map D:=by unfold zdV;rw [hD,hrs]
 have hP:0<za2 rs:=zhE hr0;have hD0:D 0=List.replicate sizes.length 0:=by
  rw [hD];show (digL rs 0).reverse=_;rw [zh2,List.reverse_replicate,hlen]
 rw [<- hD0] at fX;rw [hds] at hy ⊢;obtain⟨g,hg⟩:=nm (W.heap.size);rw [<- hg] at fX;have hbxW:=hlt fxW;refine⟨Nat×(Nat->Prop),fun s=>⟨[(0,.func (.yield yl) #[] #[]),(1,At0 bx),(3,.slice (some ⟨g,0,none⟩) sizes.length sizes.length)],[]⟩,
  fun s Z=>s.1<za2 rs/\J ((List.range s.1).map D) s.2 Z/\RowI Z g (D s.1)/\¬ s.2 g/\W.heap.size<=Z.heap.size/\Z.heap[bx]?=some (.cells #[.slice q sizes.length c] 150 (0,0))/\¬ s.2 bx/\RowF natE W.heap.size s.2 Z q sizes,
  fun s=>za2 rs-s.1,(0,F0),⟨.cons rfl (.cons rfl (.cons (by rw [hg];rfl) .nil)),rfl⟩,
  ⟨hP,hJ.step _ _ _ _ h0 (.below hbX),fX,fun h=>by have:=(hJ.lt _ _ _ _ h0 h).1;omega,hbX.size,zab hbX fxW,hrf _ (.inl rfl),⟨hlW.below hbX,fun a ha=>⟨by have:=hql a ha;omega,hrf _ (.inr ⟨a,ha,rfl⟩)⟩⟩⟩,?_⟩
 rintro⟨j,F⟩ Z ⟨hj,hjZ,fZ,hgF,hWZ,fxZ,hbF,hqZ⟩;dsimp only at hj hjZ fZ hgF fxZ hbF hqZ ⊢;have hpre:((List.range j).map D++[D j]) <+: (List.range (za2 rs)).map D:=zlC hj;refine YieldR.mono (hy _ (D j) [.slice (some ⟨g,0,none⟩) sizes.length sizes.length] F Z hjZ ⟨D j,_,by simp,by rw [hDl j],fZ.sl,fun a ha=>(by cases ha;exact⟨_,fZ⟩)⟩ hpre) ?_;rintro v Y (⟨rfl,F',hjY,kY⟩ | ⟨rfl,F',hjY⟩)
 ·refine brT ?_;have hgZ:=hlt fZ;have fY:RowI Y g (D j):=(kY.same g hgZ hgF).trans fZ;have hgF':¬ F' g:=fun h=>by
   rcases kY.fp g h with h | h
   ·exact hgF h
   ·omega
  have fxY:=(kY.same bx (hlt fxZ) hbF).trans fxZ;have hbF':¬ F' bx:=fun h=>by
   rcases kY.fp bx h with h | h
   ·exact hbF h
   ·have:=hlt fxZ;omega
  have hqY:=hqZ.keep hWZ kY (fun _ _ h=>h);have hWY:=Nat.le_trans hWZ kY.size;have hjY2:J ((List.range (j+1)).map D) F' Y:=by
   rw [List.range_succ,List.map_append];exact hjY
  clear hjY hpre fZ fxZ hqZ hjZ hWZ hgZ hgF hbF kY;refine⟨((sizes.length:Nat):Int)-1,zaf (by omega),?_⟩;have hgn:W.heap.size<=g:=by omega
  have hbg:bx≠g:=by omega
  refine⟨Nat,fun t=>⟨[(0,.func (.yield yl) #[] #[]),(1,At0 bx),(3,.slice (some ⟨g,0,none⟩) sizes.length sizes.length),(4,i64 (((sizes.length:Nat):Int)-1-(t:Nat)))],[]⟩,
   fun t V=>t<=sizes.length/\zjb rs j t/\RowI V g ((List.replicate t 0++(digL rs j).drop t).reverse)/\J ((List.range (j+1)).map D) F' V/\W.heap.size<=V.heap.size/\V.heap[bx]?=some (.cells #[.slice q sizes.length c] 150 (0,0))/\RowF natE W.heap.size F' V q sizes,fun t=>sizes.length-t,0,
   ⟨.cons rfl (.cons rfl (.cons rfl (.cons (by rw [Int.ofNat_zero,Int.sub_zero];rfl) .nil))),rfl⟩,⟨Nat.zero_le _,zkM _ _,by rw [hD] at fY;exact fY,hjY2,hWY,fxY,hqY⟩,?_⟩
  clear fY fxY hqY hjY2 hWY;rintro t V ⟨ht,hc,fV,hjV,hWV,fxV,hqV⟩;dsimp only at ht hc fV hjV ⊢;have hLl:(digL rs j).length=sizes.length:=by rw [zfe,hlen]
  refine DrawE.ord [] [0,1,2,3,4,5,6,7,8,9,10,11,12,13] (by kernel_rfl) ?_;refine biE (fun hi=>?_) fun hi=>?_
  ·have hi:(0:Int)<=((sizes.length:Nat):Int)-1-(t:Nat):=dT hi;have htl:t<sizes.length:=by omega
   obtain⟨i,hit⟩:∃ i,i+t+1=sizes.length:=⟨sizes.length-1-t,by omega⟩;have hii:((sizes.length:Nat):Int)-1-(t:Nat)=(i:Nat):=by omega
   rw [hii];obtain⟨d,hd⟩:∃ d,(digL rs j)[t]?=some d:=⟨_,gE (by omega)⟩;obtain⟨n,hn⟩:∃ n,rs[t]?=some n:=⟨_,gE (by omega)⟩;have hil:i<sizes.length:=by omega
   have hsn:sizes[i]=n:=by
    have:=List.getElem?_reverse (l:=sizes) (i:=t) htl;rw [<- hrs,hn,show sizes.length-1-t=i by omega,gE hil] at this;exact (Option.some.inj this).symm
   have hnm:n∈sizes:=by rw [<- hsn];exact gM hil
   have hn1:=hm n hnm;have hn0:n≠0:=hr0 n (by rw [hrs];simpa using hnm);have hrow:=zqK hd (i:=i) (by omega);have hdn:d<n:=by
    obtain⟨A,ns,k,c1,c2,c3,c4,c5⟩:=hc
    cases ns with
    | nil=>rw [c1,List.append_nil,List.getElem?_eq_none (by omega)] at hn;cases hn
    | cons m ns =>
     have hm':m=n:=by
      rw [c1,List.getElem?_append_right (by omega),c2,Nat.sub_self] at hn;exact Option.some.inj hn
     have:=congrArg (fun l=>l[0]?) c4;simp only [List.getElem?_drop,Nat.add_zero] at this;rw [hd] at this;have:d=k%m:=Option.some.inj this;rw [this,hm'];exact Nat.mod_lt _ (by omega)
   have hrl:((List.replicate t 0++(digL rs j).drop t).reverse).length=sizes.length:=by simp;omega
   refine⟨i,rfl,hil,?_⟩;have hrc:(rowI (List.replicate t 0++(digL rs j).drop t).reverse)[i*1]?=some (i64 d):=by
    rw [Nat.mul_one,List.getElem?_map,hrow];rfl
   refine⟨i64 d,zac (zaa (hdr fV)) hrc,?_⟩;refine⟨_,zac (zaa (hdr fxV)) (i:=0) rfl,?_⟩;obtain⟨bq,oq,hqe,hlq,hatq⟩:=hqV.row.at hil;subst hqe;refine⟨i,rfl,hil,?_⟩;refine⟨i64 n,by rw [<- hsn];exact zac (zaq (Below.refl _ V).drew (hatq i hil)) (i:=0) rfl,?_⟩;refine⟨((n:Nat):Int)-1,zaf (by omega),?_⟩;refine biE (fun he=>?_) fun he=>?_
   ·have he:(d:Int)=(n:Int)-1:=dT he;have hrs2:=zly hd (i:=i) (by omega) 0;refine⟨i,rfl,hil,?_⟩;refine zal k3 (hdr fV) (o:=0+i*1) (v:=i64 0) rfl rfl (by rw [List.length_map,hrl];omega) rfl fun V1 fV1 gV1 sV1=>?_;refine⟨((sizes.length:Nat):Int)-1-((t+1:Nat):Int),(zaf (by omega)).trans (by omega),?_⟩;have gV2:V.grownBy V1 (some g):=zae (zah (Below.refl _ V).drew) gV1;have kV:KeepsG (fun k=>k=g) (fun _=>False) V V1:=⟨gV2.os,gV2.tape,gV2.output,gV2.size,fun k hk hf=>gV2.block k hk (fun e=>hf (by cases e;rfl)),fun k h=>h.elim⟩;have hsV:=gV2.size;refine⟨t+1,(cvE rfl rfl),⟨htl,zkO hr0 hc hn hd (by omega),?_,hJ.step _ _ _ _ hjV (StepG.grown gV2 (.inl hgn) hgF'),by omega,(gV2.block bx (hlt fxV) (by simpa using hbg)).trans fxV,⟨za4 hqV.row fun a ha=>gV2.block _ (by have:=(hqV.out a ha).1;omega) (by have:=(hqV.out a ha).1;simp;omega),hqV.out⟩⟩,zdc (by omega)⟩;show RowI V1 g _;rw [<- znt,<- hrs2];rw [Nat.mul_one,Nat.zero_add] at fV1;refine fV1.trans ?_;unfold rowI;rw [List.map_set];rfl
   ·have he:¬ (d:Int)=(n:Int)-1:=dF he;have hstop:=zkN hr0 hc hn hd (by omega);have hmore:=zkP hr0 hc hn hd (by omega) hj;have hrs2:=zly hd (i:=i) (by omega) (d+1);refine brN (decide_eq_false (by omega)) ?_;refine⟨i,rfl,hil,?_⟩;refine⟨i64 d,zac (zaa (hdr fV)) hrc,?_⟩;refine nxI (by omega) ?_;refine⟨i,rfl,hil,?_⟩;refine zal k3 (hdr fV) (o:=0+i*1) (v:=i64 ((d+1:Nat):Int)) rfl rfl (by rw [List.length_map,hrl];omega) rfl fun V1 fV1 gV1 sV1=>?_;have gV2:V.grownBy V1 (some g):=zae (zah (Below.refl _ V).drew) gV1;have hsV:=gV2.size;refine⟨(j+1,F'),(cvE rfl rfl),⟨hmore,hJ.step _ _ _ _ hjV (StepG.grown gV2 (.inl hgn) hgF'),?_,hgF',by omega,(gV2.block bx (hlt fxV) (by simpa using hbg)).trans fxV,hbF',⟨za4 hqV.row fun a ha=>gV2.block _ (by have:=(hqV.out a ha).1;omega) (by have:=(hqV.out a ha).1;simp;omega),hqV.out⟩⟩,zdc (by omega)⟩;show RowI V1 g (D (j+1));rw [hD];show RowI V1 g (digL rs (j+1)).reverse;rw [hstop,<- hrs2];rw [Nat.mul_one,Nat.zero_add] at fV1;refine fV1.trans ?_;unfold rowI;rw [List.map_set]
  ·have hi:¬ (0:Int)<=((sizes.length:Nat):Int)-1-(t:Nat):=dF hi;have hte:t=rs.length:=by omega
   rw [hte] at hc;have he:=zmI hc hj;refine brF ?_;refine brE (decide_eq_true (by omega)) ?_;rw [he] at hjV;exact⟨⟨_,rfl⟩,.inl ⟨F',hJ.step _ _ _ _ hjV (.below (Below.refl _ V).drew)⟩⟩
 ·refine brF ?_;exact⟨⟨_,rfl⟩,.inr ⟨_,F',hpre,hjY⟩⟩
end
def poG (ev:List Ev) (k:Nat):Nat->Nat:=fun i=>if i<k then ze1 ev i else 0
theorem zlG (ev:List Ev) (k:Nat):upd (poG ev k) k (ze1 ev k)=poG ev (k+1):=by
 funext i;unfold upd poG;by_cases h:i=k
 ·rw [if_pos h,if_pos (by omega),h]
 ·rw [if_neg h];by_cases h2:i<k
  ·rw [if_pos h2,if_pos (by omega)]
  ·rw [if_neg h2,if_neg (by omega)]
theorem zjw (ev:List Ev) (k:Nat):upd (poG ev k) k 0=poG ev k:=by
 funext i;unfold upd poG;by_cases h:i=k
 ·rw [if_pos h,if_neg (by omega)]
 ·rw [if_neg h]
theorem zpm (ev:List Ev):poG ev ev.length=ze1 ev:=by
 funext i;unfold poG
 split
 ·rfl
 ·unfold ze1;rw [List.getElem?_eq_none (by omega)]
section
variable {p:Option Addr} {cap:Nat} {ev:List Ev} {w:World}
theorem zdF (hl:SlR evE w p ev) (hn:ev.length<=48):CB 152 #[.slice p ev.length cap] w (.agg (relC (poR ev)).toArray):=by
 refine cofM 47 [.slice p ev.length cap] (.s .p (.c .p .p)) Tryz.func152 ?_;obtain⟨L,hL⟩:=nm (w.heap.size);have hbL:=hnew w (.cells (relC zav).toArray 102 (0,0));have hbb:Bw w (w.alloc (.cells (relC zav).toArray 102 (0,0))):=zba w _;have hbs:=wz w (.cells (relC zav).toArray 102 (0,0));refine⟨Unit,fun _=>⟨[(0,.slice p ev.length cap),(2,At0 L),(3,At0 (L+1))],[]⟩,fun _ X=>RelH X L zav/\RelH X (L+1) ⟨ev.length,fun _=>0⟩/\X.heap.size=L+2/\Bw w X,?_,?_⟩
 ·refine⟨relC ⟨ev.length,fun _=>0⟩,rfl,?_⟩;refine zap (X:=w.alloc (.cells (relC zav).toArray 102 (0,0))) (v := .agg (relC ⟨ev.length,fun _=>0⟩).toArray) k102 (zad _) rfl (zau _) fun V hbV fV sV=>?_;rw [hbs] at fV sV;exact⟨(),⟨.cons rfl (.cons (by rw [hL];rfl) (.cons (by rw [hL,<- hbs];rfl) .nil)),rfl⟩,by rw [hL];exact zab hbV hbL,by rw [hL];exact fV,by rw [hL];exact sV,(zst hbb hbV)⟩
 rintro _ X ⟨f0,f1,sX,hbX⟩;refine⟨Nat,fun k=>⟨[(0,.slice p ev.length cap),(2,At0 L),(3,At0 (L+1)),(10,.slice p ev.length cap),(11,i64 ev.length),(12,i64 (k:Nat))],[]⟩,
  fun k V=>k<=ev.length/\RelH V (L+1) ⟨ev.length,poG ev k⟩/\RelH V L zav/\L+1<V.heap.size/\Bw w V,fun k=>ev.length-k,0,
  (cvE rfl rfl),⟨Nat.zero_le _,f1,f0,by omega,hbX⟩,?_⟩
 rintro k V ⟨hk,fV,f0V,sV,hbV⟩;dsimp only at hk fV ⊢;refine biE (fun hc=>?_) fun hc=>?_
 ·have hc:(k:Int)<(ev.length:Int):=dT hc;have hkl:k<ev.length:=by omega
  obtain⟨e,he⟩:∃ e,ev[k]=e:=⟨_,rfl⟩;have hek:ev[k]?=some e:=by rw [<- he];exact gE hkl
  obtain⟨bp,op,rfl,hlp,hat⟩:=hl.at hkl;refine⟨k,rfl,hkl,?_⟩;refine⟨evE.enc e,rfl,by rw [<- he];exact zaq hbV (hat k hkl),nL hlp hbV.size,?_⟩;refine zap (X:=V) (v := .agg (evE.enc e).toArray) k225 rfl rfl (List.all_eq_true.2 fun u hu=>evE.one e u hu) fun Y hbY fY sY=>?_;obtain⟨b,hb⟩:=nm (V.heap.size);rw [<- hb] at fY;have eb:some (Value.pointer (some ⟨V.heap.size,0,none⟩))=some (At0 b):=by rw [hb]
  have hwY:=zst hbV hbY;have hMb:L+1<b:=by omega
  have fYM:=zab hbY fV;have fYL:=zab hbY f0V;refine⟨i64 e.th,by rw [<- hb];exact zac (zaa fY) (i:=0) rfl,?_⟩;refine biE (fun h=>?_) fun h=>?_
  ·have h:e.th = -1:=dT h;have hr:ze1 ev k=0:=by
    unfold ze1;rw [hek];exact if_pos h
   refine nxI (by omega) ?_;refine⟨k+1,(cvE rfl rfl),⟨hkl,?_,fYL,by omega,hwY⟩,zdc (by omega)⟩;rw [<- zlG,hr,zjw];exact fYM
  have h:¬ e.th = -1:=dF h;have hr:ze1 ev k=zlH e.th (k+1) (ev.drop (k+1)) 0:=by
   unfold ze1;rw [hek];exact if_neg h
  refine nxI (by omega) ?_;refine⟨Nat×Nat,fun s=>⟨[(0,.slice (some ⟨bp,op,none⟩) ev.length cap),(2,At0 L),(3,At0 (L+1)),(4,i64 (k:Nat)),(5,At0 b),(6,i64 (s.1:Nat)),(10,.slice (some ⟨bp,op,none⟩) ev.length cap),(11,i64 ev.length),(12,i64 (k:Nat))],[]⟩,
   fun s Z=>s.1<=ev.length/\ze1 ev k=zlH e.th s.1 (ev.drop s.1) s.2/\s.2<2^64/\RelH Z (L+1) ⟨ev.length,upd (poG ev k) k s.2⟩/\RelH Z L zav/\Z.heap[b]?=some (.cells (evE.enc e).toArray 225 (0,0))/\Bw w Z,fun s=>ev.length-s.1,(k+1,0),
   ⟨.cons rfl (.cons rfl (.cons rfl (.cons rfl (.cons eb (.cons rfl (.cons rfl (.cons rfl (.cons rfl .nil)))))))),rfl⟩,⟨hkl,hr,(by decide:0<2^64),by rw [zjw];exact fYM,fYL,fY,hwY⟩,?_⟩
  clear fY fYM fYL hwY hbY sY f0V fV hbV sV;rintro⟨j,s⟩ Z ⟨hj,hacc,hs,fM,fL,fb,hbZ⟩;dsimp only at hj hacc hs fM ⊢;refine biE (fun hc=>?_) fun hc=>?_
  ·have hc:(j:Int)<(ev.length:Int):=dT hc;have hjl:j<ev.length:=by omega
   have hdrop:ev.drop j=ev[j]::ev.drop (j+1):=(List.getElem_cons_drop hjl).symm;rw [hdrop] at hacc;have hacc:ze1 ev k=zlH e.th (j+1) (ev.drop (j+1)) (if ev[j].th=e.th then s|||2^j else s):=hacc;refine DrawE.ord [] [0,1,2,3,4,5,6,7] (by kernel_rfl) ?_;refine⟨j,rfl,hjl,?_⟩;refine⟨i64 ev[j].th,zac (zaq hbZ (hat j hjl)) (i:=0) rfl,?_⟩;refine⟨i64 e.th,zac (zaa (hdr fb)) (i:=0) rfl,?_⟩;have hslot:(relC ⟨(ev.length:Int),upd (poG ev k) k s⟩)[1+k]?=some (s64 s):=by
    have:=zfq ⟨(ev.length:Int),upd (poG ev k) k s⟩ (i:=k) (by omega);rw [this];show some (s64 (upd (poG ev k) k s k))=_;rw [zbd]
   have hdZ:Bw Z Z.drew:=(Below.refl _ Z).drew;refine biE (fun he=>?_) fun he=>?_
   ·have he:ev[j].th=e.th:=dT he;rw [if_pos he] at hacc;refine DrawE.ord [9] [0,1,2,3,4,5,6,7,8,9] (by kernel_rfl) ?_;refine⟨k,rfl,by omega,?_⟩;refine⟨s64 s,by rw [Nat.mul_one,Nat.add_assoc];exact zac (zaa (hdr (hdr fM))) hslot,?_⟩;refine⟨by omega,_,zby (e:=j) (by omega),?_⟩;refine⟨_,zb2 hs (zaF (by omega)),?_⟩;refine⟨k,rfl,by omega,?_⟩;refine zal k99 (hdr (hdr fM)) (o:=0+1+k*1) (v:=s64 (s|||2^j)) rfl rfl (by rw [zad];omega) rfl fun S fS gS sS=>?_;rw [Nat.zero_add,Nat.mul_one,ze4 _ (show k<48 by omega)] at fS;have gS2:Z.grownBy S (some (L+1)):=zae (zah (Below.refl _ Z).drew) (zae (zah (Below.refl _ _).drew) gS);refine nxI (by omega) ?_;refine⟨(j+1,s|||2^j),(cvE rfl rfl),⟨hjl,hacc,Nat.or_lt_two_pow hs (zaF (by omega)),?_,(gS2.block L (hlt fL) (by simp)).trans fL,(gS2.block b (hlt fb) (by simp;omega)).trans fb,hbZ.trans (zak gS2 hbZ.size (by omega))⟩,zdc (by omega)⟩;have:upd (upd (poG ev k) k s) k (s|||2^j)=upd (poG ev k) k (s|||2^j):=by
     funext i;unfold upd
     split <;> rfl
    rw [this] at fS;exact fS
   ·have he:¬ ev[j].th=e.th:=dF he;rw [if_neg he] at hacc;refine nxI (by omega) ?_;exact⟨(j+1,s),(cvE rfl rfl),⟨hjl,hacc,hs,fM,fL,fb,(zst hbZ hdZ)⟩,zdc (by omega)⟩
  ·have hc:¬ (j:Int)<(ev.length:Int):=dF hc;have:j=ev.length:=by omega
   subst this;rw [List.drop_length] at hacc;have hacc:ze1 ev k=s:=hacc;refine nxI (by omega) ?_;refine⟨k+1,(cvE rfl rfl),⟨hkl,?_,fL,hlt fM,hbZ⟩,zdc (by omega)⟩;rw [<- zlG,hacc];exact fM
 ·have hc:¬ (k:Int)<(ev.length:Int):=dF hc;obtain rfl:k=ev.length:=by omega
  rw [zpm] at fV;refine⟨relC (poR ev),zad _,zaa fV,hlt fV,?_⟩;refine zam (v := .agg (relC (poR ev)).toArray) k102 f0V rfl rfl (zau _) ?_;exact⟨relC (poR ev),zad _,zaa (zaj f0V),rfl,zag hbV (by omega) _⟩
end
def dedG:UInt8->List UInt8->List UInt8
 | _,[]=>[]
 | p,y::r=>if y=p then dedG p r else y::dedG y r
def ded:List UInt8->List UInt8
 | []=>[]
 | x::r=>x::dedG x r
theorem zfV:∀ (A:List UInt8) (p x:UInt8),dedG p (A++[x])=if x=(p::A).getLast (by simp) then dedG p A else dedG p A++[x]
 | [],p,x=>by
  show (if x=p then [] else [x])=_;rfl
 | y::A,p,x=>by
  show (if y=p then dedG p (A++[x]) else y::dedG y (A++[x]))=_;have hl:(p::y::A).getLast (by simp)=(y::A).getLast (by simp):=List.getLast_cons (by simp);rw [hl];show _=if x=(y::A).getLast _ then (if y=p then dedG p A else y::dedG y A) else (if y=p then dedG p A else y::dedG y A)++[x]
  by_cases h:y=p
  ·subst h;rw [if_pos rfl,if_pos rfl,zfV A y x]
  ·rw [if_neg h,if_neg h,zfV A y x]
   split <;> rfl
theorem zn8 {A:List UInt8} (h:A≠[]) (x:UInt8):ded (A++[x])=if x=A.getLast h then ded A else ded A++[x]:=by
 cases A with
 | nil=>exact absurd rfl h
 | cons y A =>
  show y::dedG y (A++[x])=_;rw [zfV];show _=if x=(y::A).getLast h then y::dedG y A else y::dedG y A++[x]
  split <;> rfl
theorem zjS {l:List UInt8} {i:Nat} (h0:0<i) (hi:i<l.length):ded (l.take (i+1))=if l[i]=l[i-1] then ded (l.take i) else ded (l.take i)++[l[i]]:=by
 rw [tsg hi];have hne:l.take i≠[]:=by
  intro e;have:=congrArg List.length e;rw [List.length_take,List.length_nil] at this;omega
 rw [zn8 hne];have:(l.take i).getLast hne=l[i-1]:=by
  have hlen:(l.take i).length-1=i-1:=by rw [List.length_take];omega
  simp only [List.getLast_eq_getElem,List.getElem_take,hlen]
 rw [this]
section
variable {B g cap:Nat} {l:List UInt8} {w:World}
theorem zff {X:World} {sp:List Value} {M:List UInt8} (h:RowS zaH 5 X g sp M) {i:Nat} (hi:i<M.length):X.cell? ⟨g,0+i*1,none⟩=some (u8 M[i]):=by
 have:=zac (h.at hi) (i:=0) (v:=u8 M[i]) rfl;exact this
theorem zjY {M:List UInt8} {i:Nat} {x:UInt8} (h:M[i]?=some x):∃ hi:i<M.length,M[i]=x:=by
 obtain⟨hi,e⟩:=List.getElem?_eq_some_iff.1 h;exact⟨hi,e⟩
theorem zkY (ho:OwnS zaH 5 B w (some ⟨g,0,none⟩) cap l) (hn:l.length<=1000000) :
  Calls Tryz.prog 201 #[.slice (some ⟨g,0,none⟩) l.length cap] w fun e w'=>e = .returned (.slice (some ⟨g,0,none⟩) (ded l).length cap)/\OwnS zaH 5 B w' (some ⟨g,0,none⟩) cap (ded l)/\w.grownBy w' (some g):=by
 refine cofE 61 [.slice (some ⟨g,0,none⟩) l.length cap] Tryz.func201 ?_;rcases ho.inv with ⟨h,_⟩ | ⟨g',cur,hg,hB,hcur,hlc,hcm,hcs,hct⟩
 ·cases h
 simp only [Option.some.injEq,Addr.mk.injEq,and_true] at hg;subst hg;have hcs:cur.size=cap:=by rw [hcs];exact Nat.mul_one _
 obtain⟨sp,hsp⟩:=nm (cur.toList.drop l.length);have hct:cur.toList.take l.length=l.flatMap zaH.enc:=by rw [<- hct];congr 1;exact (Nat.mul_one _).symm
 have hR:RowS zaH 5 w g sp l:=by
  unfold RowS;rw [hcur,<- hct,hsp,List.take_append_drop]
 have hspl:l.length+sp.length=cap:=by
  have h1:cur.toList.length=cap:=by rw [Array.length_toList];exact hcs
  rw [hsp,List.length_drop,h1];omega
 refine biE (fun h=>?_) fun h=>?_
 ·have h:(l.length:Int)<2:=dT h;have e:ded l=l:=by
   match l,h with
   | [],_=>rfl
   | [x],_=>rfl
   | x::y::r,h=>simp at h;omega
  rw [e];exact⟨rfl,ho,za7 w _⟩
 have h:¬ (l.length:Int)<2:=dF h;have hl2:2<=l.length:=by omega
 refine⟨Nat,fun k=>⟨[(0,.slice (some ⟨g,0,none⟩) l.length cap),(3,i64 (k:Nat))],[]⟩,fun k X=>1<=k/\k<=l.length/\ded (l.take k)=l.take k/\RowS zaH 5 X g sp l/\w.grownBy X (some g),fun k=>l.length-k,1,
  (cvE rfl rfl),⟨Nat.le_refl _,by omega,by
   cases l with
   | nil=>rfl
   | cons x r=>rfl,hR,za7 w _⟩,?_⟩
 rintro k X ⟨hk1,hkl,hdk,hRX,gX⟩;refine biE (fun hc=>?_) fun hc=>?_
 ·have hc:(k:Int)<(l.length:Int):=dT hc;have hk:k<l.length:=by omega
  refine DrawE.ord [] [0,1,2,3,4,5,6,7,8,9] (by kernel_rfl) ?_;have hRd:RowS zaH 5 X.drew g sp l:=hRX;have gd:w.grownBy X.drew (some g):=zae gX ⟨rfl,rfl,rfl,Nat.le_refl _,fun _ _ _=>rfl⟩;refine⟨k,rfl,hk,?_⟩;refine⟨_,zff hRd hk,?_⟩;refine⟨((k-1:Nat):Int),(zaf (by omega)).trans (by omega),?_⟩;refine⟨k-1,rfl,by omega,?_⟩;refine⟨_,zff hRd (by omega),?_⟩;have hnx:=zjS (l:=l) hk1 hk;refine biE (fun he=>?_) fun he=>?_
  ·have he:l[k]=l[k-1]:=zbe.1 (dT he);rw [if_pos he] at hnx;refine⟨k,rfl,by show k<=l.length;omega,?_⟩;have hcb:zaI (some ⟨g,0,none⟩) cap k 1=some ⟨g,k,none⟩:=by
    unfold zaI;rw [if_neg (by omega)];show some ((⟨g,0,none⟩:Addr).add (k*1))=_;rw [zb1,Nat.mul_one,Nat.zero_add]
   refine⟨Nat×Nat×List UInt8,fun s=>⟨[(0,.slice (some ⟨g,0,none⟩) l.length cap),(3,i64 (s.2.1:Nat)),(4,.slice (some ⟨g,k,none⟩) (l.length-k) (cap-k)),(5,i64 (s.1:Nat))],[]⟩,
    fun s Y=>(1<=s.1/\k+s.1<=l.length)/\(s.2.1=(ded (l.take (k+s.1))).length/\s.2.1+1<=k+s.1)/\(s.2.2.length=l.length/\s.2.2.take s.2.1=ded (l.take (k+s.1))/\∀ j,s.2.1<=j->s.2.2[j]?=l[j]?)/\RowS zaH 5 Y g sp s.2.2/\w.grownBy Y (some g),fun s=>l.length-s.1,(1,k,l),
    ⟨.cons rfl (.cons rfl (.cons (by rw [<- hcb];rfl) (.cons rfl .nil))),rfl⟩,⟨⟨Nat.le_refl _,by show k+1<=_;omega⟩,⟨by show k=_;rw [hnx,hdk,List.length_take];omega,Nat.le_refl _⟩,⟨rfl,by show l.take k=_;rw [hnx,hdk],fun j _=>rfl⟩,hRd,gd⟩,?_⟩
   rintro⟨m,q,M⟩ Y ⟨⟨hm1,hml⟩,⟨hq,hqm⟩,⟨hM,hMt,hMj⟩,hRY,gY⟩;dsimp only at hm1 hml hq hqm hM hMt hMj hRY ⊢;refine biE (fun hc=>?_) fun hc=>?_
   ·have hc:(m:Int)<((l.length-k:Nat):Int):=dT hc;have hi:k+m<l.length:=(by omega);have g1:M[k+m]?=some l[k+m]:=(by rw [hMj _ (by omega),gE hi]);have g0:M[k+m-1]?=some l[k+m-1]:=(by rw [hMj _ (by omega),gE (by omega)]);obtain⟨i1,e1⟩:=zjY g1;obtain⟨i0,e0⟩:=zjY g0;have nx:=zjS (l:=l) (i:=k+m) (by omega) hi;refine DrawE.ord [] [0,1,2,3,4,5,6,7,8,9] (by kernel_rfl) ?_;have hRYd:RowS zaH 5 Y.drew g sp M:=hRY;have gYd:w.grownBy Y.drew (some g):=zae gY ⟨rfl,rfl,rfl,Nat.le_refl _,fun _ _ _=>rfl⟩;have a1:Y.drew.cell? ⟨g,k+m*1,none⟩=some (u8 l[k+m]):=by
     have:=zff hRYd i1;rw [e1,Nat.mul_one,Nat.zero_add] at this;rw [Nat.mul_one];exact this
    have a0:Y.drew.cell? ⟨g,k+(m-1)*1,none⟩=some (u8 l[k+m-1]):=by
     have:=zff hRYd i0;rw [e0,Nat.mul_one,Nat.zero_add] at this;rw [Nat.mul_one,<- Nat.add_sub_assoc hm1];exact this
    refine⟨m,rfl,by omega,?_⟩;refine⟨_,a1,?_⟩;refine⟨((m-1:Nat):Int),(zaf (by omega)).trans (by omega),?_⟩;refine⟨m-1,rfl,by omega,?_⟩;refine⟨_,a0,?_⟩;refine biE (fun hne=>?_) fun hne=>?_
    ·have hne:¬ l[k+m]=l[k+m-1]:=fun e=>by
      have hne:(!decide (((l[k+m]).toNat:Int)=((l[k+m-1]).toNat:Int)))=true:=hne;rw [e,decide_eq_true rfl] at hne;cases hne
     rw [if_neg hne] at nx;refine⟨m,rfl,by omega,?_⟩;refine⟨_,a1,?_⟩;refine⟨q,rfl,by omega,?_⟩;refine zht k5 rfl hRYd (i:=q) (by omega) l[k+m] fun Z hRZ gZ sZ=>?_;refine nxI (by omega) ?_;refine nxI (by omega) ?_;refine⟨(m+1,q+1,M.set q l[k+m]),(cvE rfl rfl),⟨⟨by omega,by show k+(m+1)<=_;omega⟩,⟨?_,by show q+1+1<=k+(m+1);omega⟩,⟨by rw [List.length_set];exact hM,?_,fun j hj=>?_⟩,hRZ,zae gYd gZ⟩,zdc (by omega)⟩
     ·show q+1=(ded (l.take (k+(m+1)))).length;rw [<- Nat.add_assoc,nx,lap,<- hq];rfl
     ·show (M.set q l[k+m]).take (q+1)=ded (l.take (k+(m+1)));rw [<- Nat.add_assoc,nx,<- hMt];rw [tsg (by rw [List.length_set];omega),List.take_set_of_le (Nat.le_refl _),List.getElem_set_self]
     ·show (M.set q l[k+m])[j]?=l[j]?;have hj:q+1<=j:=hj;rw [List.getElem?_set_ne (by omega)];exact hMj j (by omega)
    ·have heq:l[k+m]=l[k+m-1]:=by
      have hne:(!decide (((l[k+m]).toNat:Int)=((l[k+m-1]).toNat:Int)))=false:=hne;have h2:decide (((l[k+m]).toNat:Int)=((l[k+m-1]).toNat:Int))=true:=(by simpa using hne);exact zbe.1 (dT h2)
     rw [if_pos heq] at nx;refine nxI (by omega) ?_;exact⟨(m+1,q,M),(cvE rfl rfl),⟨⟨by omega,by show k+(m+1)<=_;omega⟩,⟨by show q=(ded (l.take (k+(m+1)))).length;rw [<- Nat.add_assoc,nx];exact hq,by show q+1<=k+(m+1);omega⟩,⟨hM,by show M.take q=ded (l.take (k+(m+1)));rw [<- Nat.add_assoc,nx];exact hMt,hMj⟩,hRYd,gYd⟩,zdc (by omega)⟩
   ·have hc:¬ (m:Int)<((l.length-k:Nat):Int):=dF hc;have hkm:k+m=l.length:=(by omega);rw [hkm,List.take_length] at hq hMt;refine⟨q,rfl,by show q<=l.length;omega,?_⟩;have hcb2:zaI (some ⟨g,0,none⟩) cap q 1=some ⟨g,q,none⟩:=by
     unfold zaI;rw [if_neg (by omega)];show some ((⟨g,0,none⟩:Addr).add (q*1))=_;rw [zb1,Nat.mul_one,Nat.zero_add]
    have hfl:(M.flatMap zaH.enc++sp).length=cap:=by
     rw [lap,zaG,hM];show l.length*1+_=_;omega
    have hcl:SatR ((Builtin.clear_ #[42] 0 #[.slice (some ⟨g,q,none⟩) (l.length-q) (cap-q)]).run Tryz.prog Y) fun _ Z=>Z.heap[g]?=some (.cells ((M.flatMap zaH.enc++sp).take q++List.replicate (l.length-q) (u8 0)++(M.flatMap zaH.enc++sp).drop (q+(l.length-q))).toArray 5 (0,0))/\Y.grownBy Z (some g) :=
     zmF Tryz.underlying42 k5 rfl rfl (by omega) hRY (by show q+(l.length-q)<=(M.flatMap zaH.enc++sp).length;rw [hfl];omega) fun Z fZ gZ sZ=>⟨fZ,gZ⟩
    obtain⟨v,Z,hrun,fZ,gZ⟩:=hcl;refine⟨v,Z,by rw [hcb2];exact hrun,?_⟩;refine⟨q,rfl,by show q<=cap;omega,?_⟩;rw [<- hq];refine⟨by show Ending.returned (Value.slice (zaI (some ⟨g,0,none⟩) cap 0 1) (q-0) (cap-0))=_;rw [zbn];rfl,?_,zae gY gZ⟩;unfold OwnS World.ownsRow;refine⟨by rw [zaG],.inr ⟨g,cap,_,rfl,hB,fZ,by omega,hcm,?_,?_⟩⟩
    ·show (List.length _)=cap*1;rw [lap,lap,List.length_take,List.length_replicate,List.length_drop,hfl];omega
    ·rw [<- hq];show ((M.flatMap zaH.enc++sp).take q++List.replicate (l.length-q) (u8 0)++(M.flatMap zaH.enc++sp).drop (q+(l.length-q))).take (q*1)=_;rw [Nat.mul_one,List.append_assoc,List.take_append_of_le_length (by rw [List.length_take,hfl];omega),List.take_take,Nat.min_self,List.take_append_of_le_length (by rw [zaG,hM];show q<=l.length*1;omega),<- hMt];have:=List.take_append_drop q M;have e2:M.flatMap zaH.enc=(M.take q).flatMap zaH.enc++(M.drop q).flatMap zaH.enc:=(by rw [<- List.flatMap_append,List.take_append_drop]);rw [e2,List.take_left' (by rw [zaG,List.length_take];show min q M.length*1=q;omega)]
  ·have he:¬ l[k]=l[k-1]:=fun e=>(dF he) (by rw [e]);rw [if_neg he,hdk] at hnx;refine nxI (by omega) ?_;exact⟨k+1,(cvE rfl rfl),⟨by omega,hk,by rw [hnx,tsg hk],hRd,gd⟩,zdc (by omega)⟩
 ·have hc:¬ (k:Int)<(l.length:Int):=dF hc;obtain rfl:k=l.length:=by omega
  rw [List.take_length] at hdk;rw [hdk];refine⟨rfl,?_,gX⟩;unfold OwnS World.ownsRow;refine⟨by rw [zaG],.inr ⟨g,cap,_,rfl,hB,hRX,by omega,hcm,?_,?_⟩⟩
  ·show (l.flatMap zaH.enc++sp).length=cap*1;rw [lap,zaG];show l.length*1+_=_;omega
  ·exact List.take_left' (zaG l)
end
def prE:Enc (Nat×Nat):=⟨fun x=>[u8 (UInt8.ofNat x.1),u8 (UInt8.ofNat x.2)],2,fun _=>rfl,by decide,fun a u hu=>by
 simp only [List.mem_cons,List.not_mem_nil,or_false] at hu;rcases hu with rfl | rfl <;> rfl⟩
def zhw:Enc Nat:=⟨fun x=>[s32 x],1,fun _=>rfl,by decide,fun a u hu=>by
 simp only [List.mem_cons,List.not_mem_nil,or_false] at hu;subst hu;rfl⟩
theorem zqF {s:Nat} {w:World} (hT:Tz32M w) (h0:s≠0) (h:s<2^32):Calls Tryz.prog 269 #[s32 s] w fun e w'=>e = .returned (i64 (ctz s:Nat))/\w=w':=by
 refine cofE 14 [s32 s] Tryz.func269 ?_;obtain⟨h2,h3⟩:=zgC h0 h;obtain⟨t1,t2⟩:=zna h3;refine brN (decide_eq_false (fun e=>h0 (by omega))) ?_;refine⟨((2^32-s:Nat):Int),by unfold IntKind.wrap;simp only [IntKind.bits,IntKind.signed,Bool.false_and,Bool.false_eq_true,if_false];omega,?_⟩;refine⟨((2^ctz s:Nat):Int),(zk8 (a:=s) (b:=2^32-s) h (by omega)).trans (by rw [h2]),?_⟩;refine⟨((2^ctz s*125613361%4294967296:Nat):Int),by
  have e:(((2^ctz s:Nat):Int)*125613361)=((2^ctz s*125613361:Nat):Int):=by rw [Int.natCast_mul];rfl
  rw [e];generalize 2^ctz s*125613361=n;unfold IntKind.wrap;simp only [IntKind.bits,IntKind.signed,Bool.false_and,Bool.false_eq_true,if_false];omega,?_⟩
 refine⟨by decide,((2^ctz s*125613361%4294967296/2^27:Nat):Int),by
  generalize 2^ctz s*125613361%4294967296=n;show (n:Int).fdiv (2^(min (Int.toNat (27:Int)) IntKind.u32.bits))=_;rw [show min (Int.toNat (27:Int)) IntKind.u32.bits=27 from rfl,Int.fdiv_eq_ediv_of_nonneg _ (by decide)];omega,?_⟩
 refine⟨_,rfl,t1,?_⟩;have hv:(zkg.map u8)[2^ctz s*125613361%4294967296/2^27]?=some (u8 (UInt8.ofNat (ctz s))):=by rw [List.getElem?_map,t2];rfl
 refine⟨u8 (UInt8.ofNat (ctz s)),by rw [Nat.mul_one];exact zac hT hv,?_⟩;have e:(UInt8.ofNat (ctz s)).toNat=ctz s:=by rw [UInt8.toNat_ofNat'];omega
 exact⟨(ctz s:Int),by rw [e];exact zaf (by omega),rfl,rfl⟩
def zbL:Nat->List Nat->List (Nat×Nat)
 | _,[]=>[]
 | i,s::r=>(els s).map (fun a=>(a,i))++zbL (i+1) r
theorem zgn (f:Nat->Nat):∀ (n i:Nat),zbL i ((List.range' i n).map f)=(List.range' i n).flatMap fun i=>(els (f i)).map fun a=>(a,i)
 | 0,i=>rfl
 | n+1,i=>by
  rw [List.range'_succ,List.map_cons,List.flatMap_cons];show (els (f i)).map _++zbL (i+1) _=_;rw [zgn f n (i+1)]
theorem zfu (f:Nat->Nat) (n:Nat):zbL 0 ((List.range n).map f)=zhI f n:=by
 unfold zhI;rw [List.range_eq_range'];exact zgn f n 0
theorem zkx (l:List Nat) (x:Nat):∀ i,zbL i (l++[x])=zbL i l++(els x).map (fun a=>(a,i+l.length)):=by
 induction l with
 | nil=>intro i;show (els x).map _++[]=_;rw [List.append_nil];rfl
 | cons y r ih =>
  intro i;show (els y).map _++zbL (i+1) (r++[x])=((els y).map _++zbL (i+1) r)++_;rw [ih,List.append_assoc,List.length_cons];congr 3;funext a;congr 1;omega
theorem zhH:∀ (l:List Nat) (i:Nat),(zbL i l).length<=64*l.length
 | [],_=>Nat.zero_le _
 | x::r,i=>by
  show ((els x).map _++zbL (i+1) r).length<=_;rw [lap,List.length_map,List.length_cons];have h1:=zhH r (i+1);have h2:=zfT x;omega
section
variable {p:Option Addr} {cap:Nat} {l:List Nat} {w:World}
theorem ziy (hl:SlR zhw w p l) (hn:l.length<=24) (hb:∀ x∈l,x<2^32) (hT:Tz32M w) :
  Calls Tryz.prog 243 #[.slice p l.length cap] w fun e w'=>(∃ q c,e = .returned (.slice q (zbL 0 l).length c)/\OwnS prE 343 w.heap.size w' q c (zbL 0 l))/\Bw w w':=by
 refine cofE 30 [.slice p l.length cap] Tryz.func243 ?_;refine⟨Nat×Option Addr×Nat,fun s=>⟨[(3,.slice s.2.1 (zbL 0 (l.take s.1)).length s.2.2),(6,.slice p l.length cap),(7,i64 l.length),(8,i64 (s.1:Nat))],[]⟩,
  fun s X=>s.1<=l.length/\OwnS prE 343 w.heap.size X s.2.1 s.2.2 (zbL 0 (l.take s.1))/\Bw w X,fun s=>l.length-s.1,(0,none,0),
  (cvE rfl rfl),⟨Nat.zero_le _,OwnS.nil,Below.refl _ _⟩,?_⟩
 rintro⟨k,q,c⟩ X ⟨hk,ho,hbX⟩;dsimp only at hk ho ⊢;refine biE (fun hc=>?_) fun hc=>?_
 ·have hc:(k:Int)<(l.length:Int):=dT hc;have hkl:k<l.length:=by omega
  obtain⟨b,o,hp,hlt',hat⟩:=(hl.below hbX).at hkl;have ep:some (Value.slice p l.length cap)=some (Value.slice (some ⟨b,o,none⟩) l.length cap):=by rw [hp]
  subst hp;refine⟨k,rfl,hkl,?_⟩;refine⟨s32 l[k],by have:=zac (hat k hkl) (i:=0) (v:=s32 l[k]) rfl;exact this,?_⟩;have hlk:=hb _ (gM hkl);have htl:(l.take k).length=k:=by rw [List.length_take];omega
  have hpl:=zhH (l.take k) 0;have tk:l.take (k+1)=l.take k++[l[k]]:=tsg hkl;refine⟨Nat×List (Nat×Nat)×Option Addr×Nat,fun s=>⟨[(3,.slice s.2.2.1 s.2.1.length s.2.2.2),(4,i64 (k:Nat)),(5,s32 s.1),(6,.slice (some ⟨b,o,none⟩) l.length cap),(7,i64 l.length),(8,i64 (k:Nat))],[]⟩,
   fun s Y=>(zbL 0 (l.take (k+1))=s.2.1++(els s.1).map (fun a=>(a,k))/\s.1<2^32/\s.2.1.length+(els s.1).length<=64*(k+1))/\OwnS prE 343 w.heap.size Y s.2.2.1 s.2.2.2 s.2.1/\Bw w Y,fun s=>s.1,(l[k],zbL 0 (l.take k),q,c),
   (cvE rfl rfl),⟨⟨by rw [tk,zkx,htl,Nat.zero_add],hlk,by have:=zfT l[k];show (zbL 0 (l.take k)).length+(els l[k]).length<=_;omega⟩,ho,hbX⟩,?_⟩
  rintro⟨s,m,q,c⟩ Y ⟨⟨he,hs,hlen⟩,ho,hbY⟩;dsimp only at he hs hlen ho ⊢;refine biE (fun hc=>?_) fun hc=>?_
  ·have hc:(!decide ((s:Int)=0))=true:=hc;have h0:s≠0:=fun e=>by
    subst e;exact absurd hc (by decide)
   have hs64:s<2^64:=nL hs (by decide);obtain⟨e1,e2,_,_⟩:=zbq h0 hs64;obtain⟨_,hc32⟩:=zgC h0 hs;rw [e1] at hlen;refine cmo (zqF (hT.below hbY) h0 hs) ?_;rintro e _ ⟨rfl,rfl⟩;refine⟨_,w8N _,?_⟩;refine⟨_,w8N _,?_⟩;refine⟨prE.enc (ctz s,k),rfl,?_⟩;refine⟨⟨by decide,by decide,rfl⟩,prE.enc (ctz s,k),zce rfl rfl,?_⟩;have hba:Bw Y (Y.alloc (.cells (prE.enc (ctz s,k)).toArray 343)):=zba _ _;simp only [List.length_cons] at hlen;refine zbi (E:=prE) (T:=343) (B:=w.heap.size) (l:=m) (news:=[(ctz s,k)]) (cap:=c) (m:=1) Tryz.underlying215 k343 rfl rfl rfl (ho.below hba) rfl (zaW prE (ctz s,k)) (by have:=hbY.size;have:=hba.size;omega) (by omega) (by show (m.length+1)*2<=_;omega) ?_;intro p2 c2 Z oZ gZ hbZ hat2;refine⟨((s-1:Nat):Int),(w32 (a:=(s:Int)-1) (by omega)).trans (by omega),?_⟩;refine⟨((rest s:Nat):Int),zk8 (a:=s) (b:=s-1) hs (by omega),?_⟩;refine⟨(rest s,m++[(ctz s,k)],p2,c2),(cvE rfl rfl),⟨⟨?_,by show rest s<_;omega,?_⟩,oZ,((zst hbY hba)).trans hbZ⟩,e2⟩
   ·rw [he,e1,List.map_cons,List.append_assoc];rfl
   ·simp only [lap,List.length_cons,List.length_nil];omega
  ·have hc:(!decide ((s:Int)=0))=false:=hc;have h0:s=0:=by
    have h1:decide ((s:Int)=0)=true:=(by simpa using hc);exact Int.ofNat.inj (dT h1)
   subst h0;rw [zcY,List.map_nil,List.append_nil] at he;refine nxI (by omega) ?_;exact⟨(k+1,q,c),⟨.cons (by rw [he];rfl) (.cons rfl (.cons rfl (.cons rfl .nil))),rfl⟩,⟨hkl,by show OwnS prE _ _ _ _ _ (zbL 0 (l.take (k+1)));rw [he];exact ho,hbY⟩,zdc (by omega)⟩
 ·have hc:¬ (k:Int)<(l.length:Int):=dF hc;obtain rfl:k=l.length:=by omega
  rw [List.take_length] at ho;refine⟨⟨q,c,by rw [List.take_length];rfl,ho⟩,hbX⟩
theorem zie {p:Option Addr} {cap:Nat} {l:List Ev} {w:World} (hl:SlR evE w p l) (hn:l.length<=100000) (hc:p=none->cap=0) :
  Calls Tryz.prog 147 #[.slice p l.length cap] w fun e w'=>(∃ q c,e = .returned (.slice q l.length c)/\OwnS evE 225 w.heap.size w' q c l)/\Bw w w':=by
 refine cofE 8 [.slice p l.length cap] Tryz.func147 ?_;refine⟨_,fun w=>eqlS Tryz.underlying98 _ _ p l.length cap w,?_⟩
 cases p with
 | none =>
  refine brT ?_;have e:=hl.none;subst e;exact⟨⟨none,0,rfl,OwnS.nil⟩,Below.refl _ _⟩
 | some a =>
  refine brF ?_;refine⟨⟨by decide,by decide,rfl⟩,[],rfl,?_⟩;have hb0:Bw w (w.alloc (.cells #[] 225)):=zba w _;refine zdY (E:=evE) (T:=225) (B:=w.heap.size) (l:=[]) (news:=l) (cap:=0) Tryz.underlying98 k225 rfl rfl rfl zgS rfl (hl.below hb0) (fun h=>by cases h) hb0.size (by simp;omega) (by show (0+l.length)*16<=_;omega) ?_;intro p' cap' w' ho hg hbw;exact⟨⟨p',cap',rfl,ho⟩,hb0.trans hbw⟩
end
theorem zeI {p:Option Addr} {cap:Nat} {l:List UInt8} {w:World} (hl:SlR zaH w p l) (h1:1<=l.length) (h12:l.length<=12) (hs:srt8 l=true) :
  Calls Tryz.prog 139 #[.slice p l.length cap] w fun e w'=>(∃ q c,e = .returned (.slice q (ded l).length c)/\OwnS zaH 5 w.heap.size w' q c (ded l))/\Bw w w':=by
 refine cofE 9 [.slice p l.length cap] Tryz.func139 ?_;refine cmo (zkc hl (by omega) (fun e=>by subst e;have:=hl.none;subst this;simp at h1)) ?_;rintro e X ⟨⟨q,c,rfl,ho⟩,hbX⟩;rcases ho.inv with ⟨_,_,h0⟩ | ⟨g,cur,rfl,hB,_⟩
 ·rw [h0] at h1;simp at h1
 refine cmo (zqs ho.row h12 hs) ?_;rintro e Y ⟨rfl,hbY⟩;have hbY':Bw X Y:=⟨hbY.os,hbY.tape,hbY.output,hbY.size,hbY.block⟩;refine cmo (zkY (ho.below hbY) (by omega)) ?_;rintro e Z ⟨rfl,oZ,gZ⟩;have hwX:=hbX.size;exact⟨⟨_,_,rfl,oZ⟩,(hbX.trans (hbY.mono hwX)).trans (zak gZ (Nat.le_trans hwX hbY.size) hB)⟩
def pthC (P:PathD) (q1:Option Addr) (c1:Nat) (q2:Option Addr) (c2:Nat) (q3:Option Addr) (c3:Nat) (q4:Option Addr) (c4:Nat):List Value :=
 [.slice q1 P.ev.length c1,.slice q2 P.data.length c2,.slice q3 P.ctrl.length c3,.slice q4 P.rmw.length c4]++seg 8 (fun i=>u8 (P.regs i))
theorem zju (P:PathD) (q1 c1 q2 c2 q3 c3 q4 c4):(pthC P q1 c1 q2 c2 q3 c3 q4 c4).all Value.oneCell'=true:=by
 unfold pthC;rw [List.all_append,zcP fun _=>rfl];rfl
theorem zjv (P:PathD) (q1 c1 q2 c2 q3 c3 q4 c4):(pthC P q1 c1 q2 c2 q3 c3 q4 c4).length=12:=by
 unfold pthC;rw [lap,zat];rfl
def RunB (R:RunD):Prop:=∀ i,i<R.many->R.data i<2^32/\R.ctrl i<2^32/\R.att i<2^32
section
variable {R:RunD} {b:Nat} {w:World}
theorem zln {X:World} {o n m:Nat} {f:Nat->Nat} (hb:b<X.heap.size) (h:∀ i,i<n->X.cell? ⟨b,o+i,none⟩=some (s32 (f i))) (hm:m<=n):SlR zhw X (some ⟨b,o,none⟩) ((List.range m).map f):=by
 refine .inr ⟨b,o,rfl,hb,fun i hi=>?_⟩;have hi:i<m:=by simpa using hi
 rw [List.getElem_map,List.getElem_range];refine zbH fun j v hv=>?_
 cases j with
 | zero =>
  have hv:s32 (f i)=v:=by simpa [zhw] using hv
  rw [<- hv];show X.cell? ⟨b,o+i*1+0,none⟩=_;rw [Nat.mul_one,Nat.add_zero];exact h i (by omega)
 | succ j=>simp [zhw] at hv
theorem zpW {X:World} {m:Nat} (f:RunH X b R) (hm:m<=24):SlR evE X (some ⟨b,19,none⟩) ((List.range m).map R.ev):=by
 have hc:=zlp f;refine .inr ⟨b,19,rfl,hlt f,fun i hi=>?_⟩;have hi:i<m:=by simpa using hi
 rw [List.getElem_map,List.getElem_range,<- zoL R.ev (show i<24 by omega)];exact zaw hc
theorem zqQ (f:RunH w b R) (hm:R.many<=24) (hB:RunB R) (hT:Tz32M w) :
  Calls Tryz.prog 204 #[AtR b] w fun e w'=>(∃ q1 c1 q2 c2 q3 c3 q4 c4,e = .returned (.agg (pthC (zev R) q1 c1 q2 c2 q3 c3 q4 c4).toArray)/\OwnS evE 225 w.heap.size w' q1 c1 (zev R).ev/\OwnS prE 343 w.heap.size w' q2 c2 (zev R).data/\OwnS prE 343 w.heap.size w' q3 c3 (zev R).ctrl/\OwnS prE 343 w.heap.size w' q4 c4 (zev R).rmw)/\Bw w w':=by
 refine cofE 44 [AtR b] Tryz.func204 ?_;obtain⟨Z0,hZ0⟩:∃ Z0:List Value,Z0=pthC ⟨[],[],[],[],fun _=>0⟩ none 0 none 0 none 0 none 0:=⟨_,rfl⟩;have f0:=hnew w (.cells Z0.toArray 217);have hb0:Bw w (w.alloc (.cells Z0.toArray 217)):=zba w _;obtain⟨X,hX⟩:=nm ((w.alloc (.cells Z0.toArray 217)).drew);have hbX:Bw w X:=by rw [hX];exact hb0.drew
 have f0X:X.heap[w.heap.size]?=some (.cells Z0.toArray 217 (0,0)):=by rw [hX];exact f0
 have fX:=zab hbX f;have hX':(w.alloc (.cells (#[.slice none 0 0,.slice none 0 0,.slice none 0 0,.slice none 0 0,.int .u8 0,.int .u8 0,.int .u8 0,.int .u8 0,.int .u8 0,.int .u8 0,.int .u8 0,.int .u8 0]:Array Value) 217)).drew=X:=by rw [hX,hZ0];rfl
 refine DrawE.ord [41] [0,1,2,3,4,5,6,7,9,10,11,12,13,14,15,16,18,19,20,21,22,23,24,25,27,28,29,30,31,32,33,34,36,37,38,39,8,17,26,35,40,41] (by kernel_rfl) ?_;have cut:∀ (o e:Nat),Value.slice (zaI (some ⟨b,0+o,none⟩) 24 0 e) (R.many-0) (24-0) = .slice (some ⟨b,o,none⟩) R.many 24:=fun o e=>by rw [zbn,Nat.zero_add];rfl
 have lm:∀ {α:Type} (g:Nat->α),((List.range R.many).map g).length=R.many:=fun g=>by rw [List.length_map,List.length_range]
 have hbx:=hlt fX;have sd:∀ {o:Nat} {g:Nat->Nat},(∀ i,i<24->(runC R)[o+i]?=some (s32 (g i)))->SlR zhw X (some ⟨b,o,none⟩) ((List.range R.many).map g):=fun {o g} h=>zln hbx (fun i hi=>by
  have:=zac (zaa fX) (h i hi);rw [Nat.zero_add] at this;exact this) hm
 rw [hX'];refine⟨_,zac (zaa fX) (i:=18) (zcR R),?_⟩;refine⟨R.many,rfl,hm,?_⟩;refine⟨_,zac (zaa fX) (i:=18) (zcR R),?_⟩;refine⟨R.many,rfl,hm,?_⟩;refine⟨_,zac (zaa fX) (i:=18) (zcR R),?_⟩;refine⟨R.many,rfl,hm,?_⟩;refine⟨_,zac (zaa fX) (i:=18) (zcR R),?_⟩;refine⟨R.many,rfl,hm,?_⟩;refine⟨seg 8 (fun i=>u8 (R.regs i)),zat _ _,?_,hbx,?_⟩
 ·have:=zaw (n:=1) (m:=8) (zaa fX);have e:((runC R).toArray.toList.drop 1).take 8=seg 8 (fun i=>u8 (R.regs i)):=by
   show (seg 8 (fun i=>u8 (R.regs i))++_).take 8=_;exact List.take_left' (zat _ _)
  rw [e] at this;exact this
 have c1:=zie (w:=X) (cap:=24) (zpW fX hm) (by rw [lm];omega) (fun h=>by cases h);rw [lm,<- cut 19 7] at c1;refine cmo c1 ?_;rintro e Y1 ⟨⟨q1,k1,rfl,o1⟩,hb1⟩;refine⟨hb1,?_⟩;have hw1:=zst hbX hb1;have c2:=ziy (w:=Y1) (cap:=24) ((sd (o:=187) (g:=R.data) fun i hi=>zno R hi).below hb1) (by rw [lm];exact hm) (fun x hx=>by
  obtain⟨i,hi,rfl⟩:=List.mem_map.1 hx;exact (hB i (List.mem_range.1 hi)).1) (hT.below hw1)
 rw [lm,<- cut 187 1,zfu] at c2;refine cmo c2 ?_;rintro e Y2 ⟨⟨q2,k2,rfl,o2⟩,hb2⟩;refine⟨hb2,?_⟩;have hx2:=zst hb1 hb2;have hw2:=zst hbX hx2;have c3:=ziy (w:=Y2) (cap:=24) ((sd (o:=211) (g:=R.ctrl) fun i hi=>znp R hi).below hx2) (by rw [lm];exact hm) (fun x hx=>by
  obtain⟨i,hi,rfl⟩:=List.mem_map.1 hx;exact (hB i (List.mem_range.1 hi)).2.1) (hT.below hw2)
 rw [lm,<- cut 211 1,zfu] at c3;refine cmo c3 ?_;rintro e Y3 ⟨⟨q3,k3,rfl,o3⟩,hb3⟩;refine⟨hb3,?_⟩;have hx3:=zst hx2 hb3;have hw3:=zst hbX hx3;have c4:=ziy (w:=Y3) (cap:=24) ((sd (o:=235) (g:=R.att) fun i hi=>zo9 R hi).below hx3) (by rw [lm];exact hm) (fun x hx=>by
  obtain⟨i,hi,rfl⟩:=List.mem_map.1 hx;exact (hB i (List.mem_range.1 hi)).2.2) (hT.below hw3)
 rw [lm,<- cut 235 1,zfu] at c4;refine cmo c4 ?_;rintro e Y4 ⟨⟨q4,k4,rfl,o4⟩,hb4⟩;refine⟨hb4,?_⟩;have hx4:=zst hx3 hb4;have hw4:=zst hbX hx4;have le1:(zev R).ev.length=R.many:=lm _;obtain⟨cs,hcs⟩:=nm (pthC (zev R) q1 k1 q2 k2 q3 k3 q4 k4);refine⟨cs,by rw [hcs];unfold pthC;rw [le1];rfl,?_⟩;have f4:=zab hx4 f0X;have hone:cs.all Value.oneCell'=true:=by rw [hcs];exact zju ..
 have hlen:cs.length=12:=by rw [hcs];exact zjv ..
 refine zam (v := .agg cs.toArray) k217 f4 hlen (by rw [hZ0];rfl) hone ?_;have f5:=zaj (cs':=(Value.agg cs.toArray).cells) f4;have hs:w.heap.size<=X.heap.size:=hbX.size;have keep:∀ {α:Type} {E:Enc α} {T B c:Nat} {p:Option Addr} {l:List α},X.heap.size<=B->OwnS E T B Y4 p c l->OwnS E T w.heap.size (Y4.setRow w.heap.size (Value.agg cs.toArray).cells) p c l:=fun {α E T B c p l} hB o=>by
  refine OwnS.lower (o.kept (zaO Y4 w.heap.size _) fun g hg e=>?_) (Nat.le_trans hs hB);rcases o.inv with ⟨h,_⟩ | ⟨g',cur,h,h2,_⟩
  ·rw [h] at hg;cases hg
  ·rw [h] at hg;simp only [Option.some.injEq,Addr.mk.injEq,and_true] at hg e;have:=hlt f0X;omega
 have n1:=hb1.size;have n2:=hb2.size;have n3:=hb3.size;refine⟨cs,hlen,zaa f5,⟨q1,k1,q2,k2,q3,k3,q4,k4,by rw [hcs];rfl,keep (Nat.le_refl _) (((o1.below hb2).below hb3).below hb4),keep (by omega) ((o2.below hb3).below hb4),keep (by omega) (o3.below hb4),keep (by omega) o4⟩,zag hw4 (Nat.le_refl _) _⟩
end
theorem zbu (c : UInt8) (w : World) : Calls Tryz.prog 182 #[u8 c] w fun e w' => e = .returned (i64 (clsL c)) ∧ w = w' := by
  refine zgG (S := sg 47) (sgOk _) (args := [u8 c]) (.s .p (.c .p .p)) Tryz.func182 rfl rfl (Nat.le_of_ble_eq_true rfl) rfl ?_
  refine ⟨Unit, fun _ => ⟨[(0, u8 c)], []⟩, fun _ X => zhW c = false ∧ ziP c = false ∧ w = X, ?_, ?_⟩
  · repeat first
      | exact ⟨(), ⟨.cons rfl .nil, rfl⟩, by unfold zhW; simp only [*]; rfl, by unfold ziP; simp only [*]; rfl, rfl⟩
      | exact ⟨by
          first
          | (have e : zhW c = true := by unfold zhW; simp only [*]; rfl
             unfold clsL; rw [e]; rfl)
          | (have e1 : zhW c = false := by unfold zhW; simp only [*]; rfl
             have e2 : ziP c = true := by unfold ziP; simp only [*]; rfl
             unfold clsL; rw [e1, e2]; rfl), rfl⟩
      | refine brT ?_
      | refine brF ?_
      | refine brE (by assumption) ?_
      | refine brN (by assumption) ?_
      | refine And.intro (fun h => ?_) (fun h => ?_)
  rintro _ _ ⟨h1, h2, rfl⟩
  have key : clsL c = (bif eqB c 32 || eqB c 9 then 1 else bif eqB c 10 then 2 else bif eqB c 95 then 5 else bif eqB c 35 then 7 else bif znK c then 6 else 0) := by unfold clsL; rw [h1, h2]; rfl
  rw [key]
  clear key h1 h2
  unfold znK
  refine And.intro (fun h => ?_) (fun h => ?_)
  · have h : eqB c 32 = true := h
    refine brE h ?_
    exact ⟨by rw [h]; rfl, rfl⟩
  have h32 : eqB c 32 = false := h
  refine And.intro (fun h => ?_) (fun h => ?_)
  · have h : eqB c 9 = true := h
    exact ⟨by rw [h32, h]; rfl, rfl⟩
  have h9 : eqB c 9 = false := h
  refine And.intro (fun h => ?_) (fun h => ?_)
  · have h : eqB c 10 = true := h
    exact ⟨by rw [h32, h9, h]; rfl, rfl⟩
  have h10 : eqB c 10 = false := h
  refine And.intro (fun h => ?_) (fun h => ?_)
  · have h : eqB c 95 = true := h
    exact ⟨by rw [h32, h9, h10, h]; rfl, rfl⟩
  have h95 : eqB c 95 = false := h
  refine And.intro (fun h => ?_) (fun h => ?_)
  · have h : eqB c 35 = true := h
    exact ⟨by rw [h32, h9, h10, h95, h]; rfl, rfl⟩
  have h35 : eqB c 35 = false := h
  rw [h32, h9, h10, h95, h35]
  refine And.intro (fun h => ?_) (fun h => ?_)
  · have h : eqB c 61 = true := h
    refine brE h ?_
    exact ⟨by rw [h]; rfl, rfl⟩
  have h61 : eqB c 61 = false := h
  refine And.intro (fun h => ?_) (fun h => ?_)
  · have h : eqB c 43 = true := h
    refine brE h ?_
    exact ⟨by rw [h61, h]; rfl, rfl⟩
  have h43 : eqB c 43 = false := h
  refine And.intro (fun h => ?_) (fun h => ?_)
  · have h : eqB c 45 = true := h
    refine brE h ?_
    exact ⟨by rw [h61, h43, h]; rfl, rfl⟩
  have h45 : eqB c 45 = false := h
  refine And.intro (fun h => ?_) (fun h => ?_)
  · have h : eqB c 94 = true := h
    refine brE h ?_
    exact ⟨by rw [h61, h43, h45, h]; rfl, rfl⟩
  have h94 : eqB c 94 = false := h
  refine And.intro (fun h => ?_) (fun h => ?_)
  · have h : eqB c 38 = true := h
    refine brE h ?_
    exact ⟨by rw [h61, h43, h45, h94, h]; rfl, rfl⟩
  have h38 : eqB c 38 = false := h
  refine And.intro (fun h => ?_) (fun h => ?_)
  · have h : eqB c 124 = true := h
    refine brE h ?_
    exact ⟨by rw [h61, h43, h45, h94, h38, h]; rfl, rfl⟩
  have h124 : eqB c 124 = false := h
  refine And.intro (fun h => ?_) (fun h => ?_)
  · have h : eqB c 33 = true := h
    refine brE h ?_
    exact ⟨by rw [h61, h43, h45, h94, h38, h124, h]; rfl, rfl⟩
  have h33 : eqB c 33 = false := h
  refine And.intro (fun h => ?_) (fun h => ?_)
  · have h : eqB c 40 = true := h
    refine brE h ?_
    exact ⟨by rw [h61, h43, h45, h94, h38, h124, h33, h]; rfl, rfl⟩
  have h40 : eqB c 40 = false := h
  refine And.intro (fun h => ?_) (fun h => ?_)
  · have h : eqB c 41 = true := h
    refine brE h ?_
    exact ⟨by rw [h61, h43, h45, h94, h38, h124, h33, h40, h]; rfl, rfl⟩
  have h41 : eqB c 41 = false := h
  refine And.intro (fun h => ?_) (fun h => ?_)
  · have h : eqB c 58 = true := h
    refine brE h ?_
    exact ⟨by rw [h61, h43, h45, h94, h38, h124, h33, h40, h41, h]; rfl, rfl⟩
  have h58 : eqB c 58 = false := h
  refine And.intro (fun h => ?_) (fun h => ?_)
  · have h : eqB c 60 = true := h
    exact ⟨by rw [h61, h43, h45, h94, h38, h124, h33, h40, h41, h58, h]; rfl, rfl⟩
  have h60 : eqB c 60 = false := h
  exact ⟨by rw [h61, h43, h45, h94, h38, h124, h33, h40, h41, h58, h60]; rfl, rfl⟩
theorem zjH (c : UInt8) (w : World) : Calls Tryz.prog 184 #[u8 c] w fun e w' => e = .returned (.bool (zaT c)) ∧ w = w' := by
  refine zaZ (S := sg 16) (sgOk _) (args := [u8 c]) Tryz.func184 rfl rfl (Nat.le_of_ble_eq_true rfl) rfl ?_
  refine Calls.mono (zbu c w) ?_
  rintro e _ ⟨rfl, rfl⟩
  have e3 : ∀ k : Nat, decide ((clsL c : Int) = (k : Int)) = decide (clsL c = k) := fun k => by rw [decide_eq_decide]; omega
  refine And.intro (fun h => ?_) (fun h => ?_)
  · have h : decide (clsL c = 3) = true := (e3 3).symm.trans h
    refine And.intro (fun _ => ?_) (fun h => by cases h)
    exact ⟨rb (by unfold zaT; rw [h]; rfl), rfl⟩
  have h3 : decide (clsL c = 3) = false := (e3 3).symm.trans h
  refine And.intro (fun h => ?_) (fun h => ?_)
  · have h : decide (clsL c = 4) = true := (e3 4).symm.trans h
    exact ⟨rb (by unfold zaT; rw [h3, h]; rfl), rfl⟩
  have h4 : decide (clsL c = 4) = false := (e3 4).symm.trans h
  exact ⟨rb (by unfold zaT; rw [h3, h4]; exact e3 5), rfl⟩
theorem zcQ {p:UInt8->Bool} {s:List UInt8} {k:Nat} (h:k<s.length):zb4 p (s.drop k)=if p s[k] then zb4 p (s.drop (k+1))+1 else 0:=by
 rw [List.drop_eq_getElem_cons h];rfl
theorem zgQ {p:UInt8->Bool} {s:List UInt8} {k:Nat} (h:s.length<=k):zb4 p (s.drop k)=0:=by
 rw [List.drop_of_length_le h];rfl
theorem zl5 {p:UInt8->Bool} (s:List UInt8) (k:Nat) (h:k<=s.length):k+zb4 p (s.drop k)<=s.length:=by
 have:=zjn p (s.drop k);rw [List.length_drop] at this;omega
theorem zc9 {a b:Nat}:decide ((a:Int)=(b:Int))=decide (a=b):=by rw [decide_eq_decide];omega
theorem zeM {s:List UInt8} {k:Nat} (h:k<s.length):(bs s).data.toList[k]?=some s[k]:=by
 show s[k]?=_;exact gE h
theorem zjA {g a:Nat} {s:List UInt8} {w:World} (h:zax w ⟨g,0,none⟩ [strV s,i64 a]) :
  CB 274 #[At0 g] w (.bool (decide (s.length<=a))):=by
 refine cofE 13 [At0 g] Tryz.func274 ?_;refine DrawE.ord [] [0,1,2,3,4,5,6,7,8,9,10] (by kernel_rfl) ?_;have h:zax w.drew ⟨g,0,none⟩ [strV s,i64 a]:=zaY rfl h;refine⟨_,zac h (i:=1) rfl,?_⟩;refine⟨_,zac h (i:=0) rfl,?_⟩;refine⟨rb ?_,(Below.refl _ _).drew⟩;show decide ((s.length:Int)<=(a:Int))=_;rw [decide_eq_decide];omega
theorem zmS {g a:Nat} {s:List UInt8} {w:World} (h:zax w ⟨g,0,none⟩ [strV s,i64 a]) (hg:g<w.heap.size) :
  CB 272 #[At0 g] w (.bool (zbN s a)):=by
 refine cofE 18 [At0 g] Tryz.func272 ?_;refine DrawE.ord [] [0,1,2,3,4,5,6,7,8,9,10,11,12,13,14,15] (by kernel_rfl) ?_;have h:zax w.drew ⟨g,0,none⟩ [strV s,i64 a]:=zaY rfl h;refine cmo (zjA h) ?_;rintro e V ⟨rfl,hb⟩;refine⟨hb,?_⟩;have hw:=(Below.refl w.heap.size w).drew.trans hb;have hV:=zbc hb hg h;refine biE (fun ho=>?_) fun ho=>?_
 ·have ho:s.length<=a:=dT ho;have:zbN s a=true:=by unfold zbN;rw [List.getElem?_eq_none ho]
  exact⟨rb this.symm,hw⟩
 ·have ho:¬ s.length<=a:=dF ho;have hl:a<s.length:=by omega
  refine⟨_,zac hV (i:=0) rfl,?_⟩;refine⟨_,zac hV (i:=1) rfl,?_⟩;refine⟨a,rfl,hl,s[a],zeM hl,?_⟩;refine cmo (zbu _ _) ?_;rintro e _ ⟨rfl,rfl⟩;refine⟨Below.refl _ _,?_⟩;have:zbN s a=decide (clsL s[a]=2):=by unfold zbN;rw [gE hl]
  exact⟨rb (by rw [this];exact zc9),hw⟩
theorem zk6 {g a:Nat} {s:List UInt8} {w:World} (h:zax w ⟨g,0,none⟩ [strV s,i64 a]) (ha:a<s.length) (hs:s.length<=140737488351232) :
  Calls Tryz.prog 294 #[At0 g] w fun e w'=>e = .returned (i64 (a+1+zb4 zaT (s.drop (a+1)):Nat))/\w=w':=by
 refine cofE 28 [At0 g] Tryz.func294 ?_;refine⟨_,zac h (i:=1) rfl,?_⟩;refine⟨(a+1:Nat),(zaf (by omega)).trans (by omega),?_⟩;refine⟨Nat,fun k=>⟨[(0,At0 g),(3,.int .i64 (k:Nat))],[]⟩,fun k X=>k<=s.length/\k+zb4 zaT (s.drop k)=a+1+zb4 zaT (s.drop (a+1))/\w=X,fun k=>s.length-k,a+1,(cvE rfl rfl),⟨ha,rfl,rfl⟩,?_⟩;rintro k _ ⟨hk,he,rfl⟩;dsimp only at hk he ⊢;refine⟨_,zac h (i:=0) rfl,?_⟩;refine biE (fun hc=>?_) fun hc=>?_
 ·have hc:(k:Int)<(s.length:Int):=dT hc;have hl:k<s.length:=by omega
  refine⟨_,zac h (i:=0) rfl,?_⟩;refine⟨k,rfl,hl,s[k],zeM hl,?_⟩;refine cmo (zjH _ _) ?_;rintro e _ ⟨rfl,rfl⟩;refine biE (fun hi=>?_) fun hi=>?_
  ·refine⟨(k+1:Nat),(zaf (by omega)).trans (by omega),?_⟩;refine⟨k+1,(cvE rfl rfl),⟨hl,?_,rfl⟩,zdc (by omega)⟩;rw [zcQ hl,if_pos hi] at he;omega
  ·have hi:¬ zaT s[k]=true:=by rw [Bool.not_eq_true];exact hi
   rw [zcQ hl,if_neg hi] at he;exact⟨by rw [<- he];rfl,rfl⟩
 ·have hc:¬ (k:Int)<(s.length:Int):=dF hc;refine And.intro (fun h=>by cases h) (fun _=>?_);rw [zgQ (by omega)] at he;exact⟨by rw [<- he];rfl,rfl⟩
theorem ziD {g a:Nat} {s:List UInt8} {w:World} (h:zax w ⟨g,0,none⟩ [strV s,i64 a]) (ha:a<s.length) (hs:s.length<=140737488351232) :
  Calls Tryz.prog 295 #[At0 g] w fun e w'=>e = .returned (i64 (a+1+zb4 digB (s.drop (a+1)):Nat))/\w=w':=by
 refine cofE 29 [At0 g] Tryz.func295 ?_;refine⟨_,zac h (i:=1) rfl,?_⟩;refine⟨(a+1:Nat),(zaf (by omega)).trans (by omega),?_⟩;refine⟨Nat,fun k=>⟨[(0,At0 g),(3,.int .i64 (k:Nat))],[]⟩,fun k X=>k<=s.length/\k+zb4 digB (s.drop k)=a+1+zb4 digB (s.drop (a+1))/\w=X,fun k=>s.length-k,a+1,(cvE rfl rfl),⟨ha,rfl,rfl⟩,?_⟩;rintro k _ ⟨hk,he,rfl⟩;dsimp only at hk he ⊢;refine⟨_,zac h (i:=0) rfl,?_⟩;refine biE (fun hc=>?_) fun hc=>?_
 ·have hc:(k:Int)<(s.length:Int):=dT hc;have hl:k<s.length:=by omega
  refine⟨_,zac h (i:=0) rfl,?_⟩;refine⟨k,rfl,hl,s[k],zeM hl,?_⟩;refine cmo (zbu _ _) ?_;rintro e _ ⟨rfl,rfl⟩;have hd:decide ((clsL s[k]:Int)=4)=digB s[k]:=zc9 (b:=4);refine biE (fun hi=>?_) fun hi=>?_
  ·refine⟨(k+1:Nat),(zaf (by omega)).trans (by omega),?_⟩;refine⟨k+1,(cvE rfl rfl),⟨hl,?_,rfl⟩,zdc (by omega)⟩;rw [zcQ hl,if_pos (hd.symm.trans hi)] at he;omega
  ·have hi:¬ digB s[k]=true:=by rw [Bool.not_eq_true];exact hd.symm.trans hi
   rw [zcQ hl,if_neg hi] at he;exact⟨by rw [<- he];rfl,rfl⟩
 ·have hc:¬ (k:Int)<(s.length:Int):=dF hc;refine And.intro (fun h=>by cases h) (fun _=>?_);rw [zgQ (by omega)] at he;exact⟨by rw [<- he];rfl,rfl⟩
def zin (s:List UInt8) (a:Nat) (c:UInt8):Nat:=if (eqB c 61||eqB c 33)&&decide (s[a+1]?=some 61) then a+2 else a+1
theorem zlm {g a:Nat} {s:List UInt8} {w:World} (h:zax w ⟨g,0,none⟩ [strV s,i64 a]) (ha:a<s.length) (hs:s.length<=140737488351232) :
  CB 293 #[At0 g] w (i64 (zin s a s[a])):=by
 refine cofM 46 [At0 g] (.s .p (.s .p (.s .p (.c .p .p)))) Tryz.func293 ?_;refine⟨_,zac h (i:=1) rfl,?_⟩;refine⟨(a+1:Nat),(zaf (by omega)).trans (by omega),?_⟩;refine DrawE.ord [] [0,1,2,3,4,5,6,7,8,9] (by kernel_rfl) ?_;have hd:zax w.drew ⟨g,0,none⟩ [strV s,i64 a]:=zaY rfl h;refine⟨_,zac hd (i:=0) rfl,?_⟩;refine⟨_,zac hd (i:=1) rfl,?_⟩;refine⟨a,rfl,ha,s[a],zeM ha,?_⟩;refine⟨Unit,fun _=>⟨[(3,i64 (zin s a s[a]))],[]⟩,fun _ X=>X=w.drew,?_,?_⟩
 ·have no:((eqB s[a] 61||eqB s[a] 33)&&decide (s[a+1]?=some 61))=false->∃ _:Unit,some (Value.int .i64 ((a+1:Nat):Int))=some (i64 (zin s a s[a])):=fun hf=>⟨(),by unfold zin;rw [hf];rfl⟩;refine biE (fun h1=>?_) fun h1=>?_
  ·have he:(eqB s[a] 61||eqB s[a] 33)=true:=by
    have:eqB s[a] 61=true:=h1;rw [this];rfl
   refine brT ?_;refine⟨_,zac hd (i:=0) rfl,?_⟩;refine biE (fun h2=>?_) fun h2=>?_
   ·have h2:((a+1:Nat):Int)<(s.length:Int):=dT h2;have hl:a+1<s.length:=(by omega);refine⟨_,zac hd (i:=0) rfl,?_⟩;refine⟨a+1,rfl,hl,s[a+1],zeM hl,?_⟩;refine biE (fun h3=>?_) fun h3=>?_
    ·refine⟨(a+2:Nat),(zaf (by omega)).trans (by omega),?_⟩;refine⟨(),⟨.cons ?_ .nil,rfl⟩,rfl⟩;have h61:s[a+1]=61:=by
      apply UInt8.toNat_inj.1;have:((s[a+1].toNat:Nat):Int)=61:=dT h3;have h6:(61:UInt8).toNat=61:=rfl;omega
     unfold zin;rw [he,gE hl,h61];rfl
    ·obtain⟨_,e⟩:=no (by
      have h61:¬ s[a+1]=61:=fun e=>by rw [e] at h3;cases h3
      rw [gE hl,decide_eq_false (by simpa using h61),Bool.and_false])
     exact⟨(),⟨.cons e .nil,rfl⟩,rfl⟩
   ·have h2:¬ ((a+1:Nat):Int)<(s.length:Int):=dF h2;refine brF ?_;obtain⟨_,e⟩:=no (by rw [List.getElem?_eq_none (by omega)];simp);exact⟨(),⟨.cons e .nil,rfl⟩,rfl⟩
  ·have h1:eqB s[a] 61=false:=h1;refine biE (fun h1b=>?_) fun h1b=>?_
   ·have he:(eqB s[a] 61||eqB s[a] 33)=true:=by
     have:eqB s[a] 33=true:=h1b;rw [this,Bool.or_true]
    refine⟨_,zac hd (i:=0) rfl,?_⟩;refine biE (fun h2=>?_) fun h2=>?_
    ·have h2:((a+1:Nat):Int)<(s.length:Int):=dT h2;have hl:a+1<s.length:=(by omega);refine⟨_,zac hd (i:=0) rfl,?_⟩;refine⟨a+1,rfl,hl,s[a+1],zeM hl,?_⟩;refine biE (fun h3=>?_) fun h3=>?_
     ·refine⟨(a+2:Nat),(zaf (by omega)).trans (by omega),?_⟩;refine⟨(),⟨.cons ?_ .nil,rfl⟩,rfl⟩;have h61:s[a+1]=61:=by
       apply UInt8.toNat_inj.1;have:((s[a+1].toNat:Nat):Int)=61:=dT h3;have h6:(61:UInt8).toNat=61:=rfl;omega
      unfold zin;rw [he,gE hl,h61];rfl
     ·obtain⟨_,e⟩:=no (by
       have h61:¬ s[a+1]=61:=fun e=>by rw [e] at h3;cases h3
       rw [gE hl,decide_eq_false (by simpa using h61),Bool.and_false])
      exact⟨(),⟨.cons e .nil,rfl⟩,rfl⟩
    ·have h2:¬ ((a+1:Nat):Int)<(s.length:Int):=dF h2;refine brF ?_;obtain⟨_,e⟩:=no (by rw [List.getElem?_eq_none (by omega)];simp);exact⟨(),⟨.cons e .nil,rfl⟩,rfl⟩
   ·have h1b:eqB s[a] 33=false:=h1b;refine brF ?_;refine brF ?_;obtain⟨_,e⟩:=no (by rw [h1,h1b];rfl);exact⟨(),⟨.cons e .nil,rfl⟩,rfl⟩
 rintro _ _ rfl;exact⟨rfl,(Below.refl _ _).drew⟩
def ScV (X:World) (g:Nat) (s:List UInt8) (a:Nat) (op:Bool):Prop:=X.heap[g]?=some (.cells #[strV s,i64 a,.bool op] 262 (0,0))
theorem ScV.cells {X:World} {g a:Nat} {s:List UInt8} {op:Bool} (h:ScV X g s a op):zax X ⟨g,0,none⟩ [strV s,i64 a]:=by
 have:=zdh (o:=0) (n:=2) h;exact this
theorem ScV.below {X Y:World} {g a:Nat} {s:List UInt8} {op:Bool} (h:ScV X g s a op) (hb:Bw X Y):ScV Y g s a op:=zab hb h
theorem zg9 {a b c:World} {g:Nat} (h:a.grownBy b (some g)) (k:Bw b c):a.grownBy c (some g):=zae h (zah k)
theorem zgk {X:World} {g a:Nat} {s:List UInt8} {op:Bool} (h:ScV X g s a op) (v:Nat) {K:World->Prop} (k:∀ Y,ScV Y g s v op->X.grownBy Y (some g)->Y.heap.size=X.heap.size->K Y) :
  SatR ((storeVar 3 ⟨g,1,none⟩ (i64 v)).run Tryz.prog X) fun _ w'=>K w' :=
 zbP k3 rfl h (o:=1) (by show 1<3;omega) (v:=i64 v) rfl rfl fun Y fY gY sY=>k Y fY gY sY
theorem zjs {X:World} {g a:Nat} {s:List UInt8} {op:Bool} (h:ScV X g s a op) (v:Bool) {K:World->Prop} (k:∀ Y,ScV Y g s a v->X.grownBy Y (some g)->Y.heap.size=X.heap.size->K Y) :
  SatR ((storeVar 4 ⟨g,2,none⟩ (.bool v)).run Tryz.prog X) fun _ w'=>K w' :=
 zbP k4 rfl h (o:=2) (by show 2<3;omega) (v := .bool v) rfl rfl fun Y fY gY sY=>k Y fY gY sY
theorem zdw {s:List UInt8} {k:Nat} (h:k<s.length):zbN s k=decide (clsL s[k]=2):=by unfold zbN;rw [gE h]
theorem zhl {s:List UInt8} {k:Nat} (h:s.length<=k):zbN s k=true:=by unfold zbN;rw [List.getElem?_eq_none h]
theorem zqR {g a:Nat} {s:List UInt8} {op:Bool} {w:World} (h:ScV w g s a op) (ha:a<=s.length) (hs:s.length<=140737488351232) :
  Calls Tryz.prog 271 #[At0 g] w fun e w'=>(∃ v,e = .returned v)/\ScV w' g s (zaA s a) op/\w.grownBy w' (some g):=by
 refine cofM 50 [At0 g] (.c .p (.c .p .p)) Tryz.func271 ?_;obtain⟨b,hb⟩:=nm (zdj s a);have hbl:b<=s.length:=by rw [hb];exact zl5 s a ha
 refine⟨Unit,fun _=>⟨[(0,At0 g)],[]⟩,fun _ X=>ScV X g s b op/\w.grownBy X (some g),?_,?_⟩
 ·refine⟨Nat,fun k=>⟨[(0,At0 g)],[]⟩,fun k X=>k<=s.length/\k+zb4 zj1 (s.drop k)=b/\ScV X g s k op/\w.grownBy X (some g),fun k=>s.length-k,a,(cvE rfl rfl),⟨ha,hb.symm,h,za7 _ _⟩,?_⟩;rintro k X ⟨hk,he,hX,hg⟩;dsimp only at hk he ⊢;refine DrawE.ord [] [0,1,2,3,4,5,6,7,8,9,10,11,12,13,14,15] (by kernel_rfl) ?_;have hXd:ScV X.drew g s k op:=hX;refine cmo (zjA hXd.cells) ?_;rintro e Y ⟨rfl,hbY⟩;refine⟨hbY,?_⟩;have hY:=hXd.below hbY;have gY:w.grownBy Y (some g):=zae hg (zah ((Below.refl _ X).drew.trans hbY));refine biE (fun ho=>?_) fun ho=>?_
  ·have ho:s.length > k:=by
    have:(!decide (s.length<=k))=true:=ho;simpa using this
   refine⟨_,zac hY.cells (i:=0) rfl,?_⟩;refine⟨_,zac hY.cells (i:=1) rfl,?_⟩;refine⟨k,rfl,ho,s[k],zeM ho,?_⟩;refine cmo (zbu _ _) ?_;rintro e _ ⟨rfl,rfl⟩;refine⟨Below.refl _ _,?_⟩;have hd:decide ((clsL s[k]:Int)=1)=zj1 s[k]:=zc9 (b:=1);rw [zcQ ho] at he;refine biE (fun hi=>?_) fun hi=>?_
   ·rw [if_pos (hd.symm.trans hi)] at he;refine⟨_,zac hY.cells (i:=1) rfl,?_⟩;refine⟨(k+1:Nat),(zaf (by omega)).trans (by omega),?_⟩;refine zgk hY (k+1) fun Z hZ gZ sZ=>?_;exact⟨k+1,(cvE rfl rfl),⟨ho,by omega,hZ,zae gY gZ⟩,zdc (by omega)⟩
   ·have hi:¬ zj1 s[k]=true:=(by rw [Bool.not_eq_true];exact hd.symm.trans hi);rw [if_neg hi] at he;exact⟨(),(cvE rfl rfl),by rw [<- he];exact hY,gY⟩
  ·have ho:s.length<=k:=by
    have:(!decide (s.length<=k))=false:=ho;simpa using this
   refine brF ?_;rw [zgQ ho] at he;exact⟨(),(cvE rfl rfl),by rw [<- he];exact hY,gY⟩
 clear h;rintro _ X ⟨hX,hg⟩;have hp:zaA s a=match s[b]? with
   | some c=>if clsL c=7 then b+zb4 zga (s.drop b) else b
   | none=>b:=by rw [hb];rfl
 refine⟨Unit,fun _=>⟨[(0,At0 g)],[]⟩,fun _ X=>(∃ hl:b<s.length,clsL s[b]=7)/\ScV X g s b op/\w.grownBy X (some g),?_,?_⟩
 ·refine DrawE.ord [] [0,1,2,3,4,5,6,7,8,9,10,11,12,13,14] (by kernel_rfl) ?_;have hXd:ScV X.drew g s b op:=hX;refine cmo (zjA hXd.cells) ?_;rintro e Y ⟨rfl,hbY⟩;refine⟨hbY,?_⟩;have hY:=hXd.below hbY;have gY:w.grownBy Y (some g):=zae hg (zah ((Below.refl _ X).drew.trans hbY));refine biE (fun ho=>?_) fun ho=>?_
  ·have ho:s.length<=b:=dT ho;refine brT ?_;have:zaA s a=b:=by rw [hp,List.getElem?_eq_none ho]
   rw [this];exact⟨⟨_,rfl⟩,hY,gY⟩
  ·have ho:¬ s.length<=b:=dF ho;have hl:b<s.length:=by omega
   refine⟨_,zac hY.cells (i:=0) rfl,?_⟩;refine⟨_,zac hY.cells (i:=1) rfl,?_⟩;refine⟨b,rfl,hl,s[b],zeM hl,?_⟩;refine cmo (zbu _ _) ?_;rintro e _ ⟨rfl,rfl⟩;refine⟨Below.refl _ _,?_⟩;refine biE (fun hi=>?_) fun hi=>?_
   ·have hi:¬ clsL s[b]=7:=by
     have h1:(!decide ((clsL s[b]:Int)=7))=true:=hi;simp at h1;omega
    have:zaA s a=b:=(by rw [hp,gE hl];simp only [if_neg hi]);rw [this];exact⟨⟨_,rfl⟩,hY,gY⟩
   ·have hi:clsL s[b]=7:=by
     have h1:(!decide ((clsL s[b]:Int)=7))=false:=hi;simp at h1;omega
    exact⟨(),(cvE rfl rfl),⟨hl,hi⟩,hY,gY⟩
 clear hX hg X;rintro _ X ⟨⟨hl,h7⟩,hX,hg⟩;have hp:zaA s a=b+zb4 zga (s.drop b):=by rw [hp,gE hl];simp only [if_pos h7]
 rw [hp];refine⟨Nat,fun k=>⟨[(0,At0 g)],[]⟩,fun k X=>k<=s.length/\k+zb4 zga (s.drop k)=b+zb4 zga (s.drop b)/\ScV X g s k op/\w.grownBy X (some g),fun k=>s.length-k,b,(cvE rfl rfl),⟨hbl,rfl,hX,hg⟩,?_⟩;clear hX hg X;rintro k X ⟨hk,he,hX,hg⟩;dsimp only at hk he ⊢;refine cmo (zmS hX.cells (hlt hX)) ?_;rintro e Y ⟨rfl,hbY⟩;have hY:=hX.below hbY;have gY:=zg9 hg hbY;refine biE (fun hi=>?_) fun hi=>?_
 ·have hi:zbN s k=false:=by
   have h1:(!zbN s k)=true:=hi;simpa using h1
  have hkl:k<s.length:=by
   by_cases h0:k<s.length
   ·exact h0
   ·rw [zhl (by omega)] at hi;cases hi
  have hn:zga s[k]=true:=by
   rw [zdw hkl] at hi;unfold zga;rw [hi];rfl
  rw [zcQ hkl,if_pos hn] at he;refine⟨_,zac hY.cells (i:=1) rfl,?_⟩;refine⟨(k+1:Nat),(zaf (by omega)).trans (by omega),?_⟩;refine zgk hY (k+1) fun Z hZ gZ sZ=>?_;exact⟨k+1,(cvE rfl rfl),⟨hkl,by omega,hZ,zae gY gZ⟩,zdc (by omega)⟩
 ·have hi:zbN s k=true:=by
   have h1:(!zbN s k)=false:=hi;simpa using h1
  have h0:zb4 zga (s.drop k)=0:=by
   by_cases h0:k<s.length
   ·rw [zdw h0] at hi;rw [zcQ h0,if_neg];unfold zga;rw [hi];decide
   ·exact zgQ (by omega)
  rw [h0] at he;have he:k=b+zb4 zga (s.drop b):=by omega
  exact⟨⟨_,rfl⟩,by rw [<- he];exact hY,gY⟩
theorem zlJ {s:List UInt8} {a:Nat} (ha:a<=s.length):zaA s a<=s.length:=by
 have h1:zdj s a<=s.length:=zl5 s a ha;unfold zaA
 split
 ·split
  ·exact zl5 s _ h1
  ·exact h1
 ·exact h1
def tokE:Enc Tok:=⟨fun t=>[u8 t.kind,strV t.text,i64 t.pos],3,fun _=>rfl,by decide,fun a u hu=>by
 simp only [List.mem_cons,List.not_mem_nil,or_false] at hu;rcases hu with rfl | rfl | rfl <;> rfl⟩
theorem zmo {s:List UInt8} {a:Nat} (ha:a<s.length) (c:UInt8):a<endL s a c/\endL s a c<=s.length:=by
 unfold endL
 split
 ·have:=zl5 (p:=zaT) s (a+1) ha;omega
 ·split
  ·have:=zl5 (p:=digB) s (a+1) ha;omega
  ·split
   ·rename_i h;have h2:s[a+1]?=some 61:=by
     simp only [bAT,dE] at h;exact h.2
    have:=(List.getElem?_eq_some_iff.1 h2).1;omega
   ·omega
theorem zmM (s:List UInt8) (a e:Nat):(bs s).extract a e=bs ((s.drop a).take (e-a)):=by
 have h:((bs s).extract a e).data=(bs ((s.drop a).take (e-a))).data:=by
  rw [ByteArray.data_extract];apply Array.toList_inj.1;rw [Array.toList_extract];rfl
 exact ByteArray.ext h
theorem zoZ {g a:Nat} {s:List UInt8} {op:Bool} {w:World} (h:ScV w g s a op) (ha:a<s.length) (hs:s.length<=140737488351232) :
  Calls Tryz.prog 273 #[At0 g] w fun e w'=>e = .returned (.agg (tokE.enc (tokL s a s[a])).toArray)/\ScV w' g s (endL s a s[a]) op/\w.grownBy w' (some g):=by
 refine cofM 51 [At0 g] (.s .p (.s .p (.c .p .p))) Tryz.func273 ?_;obtain⟨z,hz⟩:=nm (tokE.enc ⟨0,[],0⟩);obtain⟨W0,hW0⟩:=nm ((w.alloc (.cells z.toArray 190)));have hb0:Bw w W0:=by rw [hW0];exact (zba _ _)
 have f0:W0.heap[w.heap.size]?=some (.cells z.toArray 190 (0,0)):=by rw [hW0];exact hnew w _
 have h0:ScV W0 g s a op:=h.below hb0;have hgl:g<w.heap.size:=hlt h;refine⟨Nat,fun f=>⟨[(0,At0 g),(2,.pointer (some ⟨w.heap.size,0,none⟩)),(3,u8 (zhU s[a])),(4,.func (.func f) #[] #[])],[]⟩,fun f X=>Bw W0 X /\
  ((clsL s[a]=3/\f=294)\/(¬ clsL s[a]=3/\clsL s[a]=4/\f=295)\/(¬ clsL s[a]=3/\¬ clsL s[a]=4/\f=293)),?_,?_⟩
 ·subst hz;subst hW0;refine DrawE.ord [] [0,1,2,3,4,5,6,7,8,9,10,11] (by kernel_rfl) ?_;have hd:ScV (w.alloc (.cells (tokE.enc ⟨0,[],0⟩).toArray 190)).drew g s a op:=h0;refine⟨_,zac hd.cells (i:=0) rfl,?_⟩;refine⟨_,zac hd.cells (i:=1) rfl,?_⟩;refine⟨a,rfl,ha,s[a],zeM ha,?_⟩;refine cmo (zbu _ _) ?_;rintro e _ ⟨rfl,rfl⟩;refine⟨Below.refl _ _,?_⟩;refine biE (fun h3=>?_) fun h3=>?_
  ·have h3:clsL s[a]=3:=by have h3:(clsL s[a]:Int)=3:=dT h3;omega
   exact⟨_,⟨.cons rfl (.cons rfl (.cons (by unfold zhU;rw [if_pos h3];rfl) (.cons rfl .nil))),rfl⟩,(Below.refl _ _).drew,.inl ⟨h3,rfl⟩⟩
  have h3:¬ clsL s[a]=3:=by have h3:¬ (clsL s[a]:Int)=3:=dF h3;omega
  refine biE (fun h4=>?_) fun h4=>?_
  ·have h4:clsL s[a]=4:=by have h4:(clsL s[a]:Int)=4:=dT h4;omega
   exact⟨_,⟨.cons rfl (.cons rfl (.cons (by unfold zhU;rw [if_neg h3,if_pos h4];rfl) (.cons rfl .nil))),rfl⟩,(Below.refl _ _).drew,.inr (.inl ⟨h3,h4,rfl⟩)⟩
  ·have h4:¬ clsL s[a]=4:=by have h4:¬ (clsL s[a]:Int)=4:=dF h4;omega
   exact⟨_,⟨.cons rfl (.cons rfl (.cons (by unfold zhU;rw [if_neg h3,if_neg h4];rfl) (.cons rfl .nil))),rfl⟩,(Below.refl _ _).drew,.inr (.inr ⟨h3,h4,rfl⟩)⟩
 rintro f V ⟨hV,hf⟩;dsimp only at hV hf ⊢;have hVs:=h0.below hV;obtain⟨e1,e2⟩:=zmo ha s[a];have fin:∀ Y,Bw V Y->∀ Z,ScV Z g s (endL s a s[a]) op->Y.grownBy Z (some g)->Bw w Y/\Z.heap[w.heap.size]?=some (.cells z.toArray 190 (0,0))/\w.grownBy Z (some g):=fun Y hY Z hZ gZ=>by
  have hwY:=((zst hb0 hV)).trans (hY.mono (by have:=hb0.size;have:=hV.size;omega));have f1:=zab hY (zab hV f0);refine⟨hwY,(gZ.block _ (hlt f1) (fun e=>by simp only [Option.some.injEq] at e;omega)).trans f1,zae (zah hwY) gZ⟩
 have last:∀ Z,Z.heap[w.heap.size]?=some (.cells z.toArray 190 (0,0))->w.grownBy Z (some g)->∀ R,Z.grownBy R (some w.heap.size)->w.grownBy R (some g):=fun Z _ gZ R gR =>
  ⟨gR.os.trans gZ.os,gR.tape.trans gZ.tape,gR.output.trans gZ.output,Nat.le_trans gZ.size gR.size,fun k hk hne=>(gR.block k (nL hk gZ.size) (fun e=>by simp only [Option.some.injEq] at e;omega)).trans (gZ.block k hk hne)⟩
 have fill:∀ cs,cs=tokE.enc (tokL s a s[a])->∀ Z,Z.heap[w.heap.size]?=some (.cells z.toArray 190 (0,0))->∀ (K:World->Prop),(∀ R,R.heap[w.heap.size]?=some (.cells (tokE.enc (tokL s a s[a])).toArray 190 (0,0))->Z.grownBy R (some w.heap.size)->K R) ->
   SatR ((storeVar 190 ⟨w.heap.size,0,none⟩ (.agg cs.toArray)).run Tryz.prog Z) fun _ w'=>K w':=fun cs hcs Z fZ K k=>by
  subst hz hcs;exact zam (v := .agg (tokE.enc (tokL s a s[a])).toArray) k190 fZ rfl rfl rfl (k _ (zaj fZ) (zaO Z _ _))
 rcases hf with ⟨h3,rfl⟩ | ⟨h3,h4,rfl⟩ | ⟨h3,h4,rfl⟩
 ·refine⟨_,zac hVs.cells (i:=1) rfl,?_⟩;refine cmo (zk6 hVs.cells ha hs) ?_;rintro e _ ⟨rfl,rfl⟩;have hbY:Bw V V:=Below.refl _ _;have hVY:=hVs;have ee:a+1+zb4 zaT (s.drop (a+1))=endL s a s[a]:=by unfold endL;rw [if_pos h3]
  rw [ee];refine zgk hVY (endL s a s[a]) fun Z hZ gZ sZ=>?_;obtain⟨hwY,fZ,gwZ⟩:=fin V hbY Z hZ gZ;refine DrawE.ord [15] [0,1,2,3,4,5,6,7,8,9,10,11,12,13,14,15] (by kernel_rfl) ?_;have hZd:ScV Z.drew g s (endL s a s[a]) op:=hZ;refine⟨_,zac hZd.cells (i:=0) rfl,?_⟩;refine⟨_,zac hZd.cells (i:=1) rfl,?_⟩;refine⟨endL s a s[a],rfl,e2,a,rfl,by omega,?_⟩;refine⟨[u8 (zhU s[a]),.string ((bs s).extract a (endL s a s[a])),i64 a],rfl,?_⟩;refine fill _ (by rw [zmM];rfl) Z.drew fZ _ fun R fR gR=>?_;refine⟨_,rfl,zaa fR,?_⟩;refine⟨rfl,?_,last Z.drew fZ (zae gwZ (zah (Below.refl _ Z).drew)) R gR⟩;exact (gR.block g (hlt hZd) (fun e=>by simp only [Option.some.injEq] at e;omega)).trans hZd
 ·refine⟨_,zac hVs.cells (i:=1) rfl,?_⟩;refine cmo (ziD hVs.cells ha hs) ?_;rintro e _ ⟨rfl,rfl⟩;have hbY:Bw V V:=Below.refl _ _;have hVY:=hVs;have ee:a+1+zb4 digB (s.drop (a+1))=endL s a s[a]:=by unfold endL;rw [if_neg h3,if_pos h4]
  rw [ee];refine zgk hVY (endL s a s[a]) fun Z hZ gZ sZ=>?_;obtain⟨hwY,fZ,gwZ⟩:=fin V hbY Z hZ gZ;refine DrawE.ord [15] [0,1,2,3,4,5,6,7,8,9,10,11,12,13,14,15] (by kernel_rfl) ?_;have hZd:ScV Z.drew g s (endL s a s[a]) op:=hZ;refine⟨_,zac hZd.cells (i:=0) rfl,?_⟩;refine⟨_,zac hZd.cells (i:=1) rfl,?_⟩;refine⟨endL s a s[a],rfl,e2,a,rfl,by omega,?_⟩;refine⟨[u8 (zhU s[a]),.string ((bs s).extract a (endL s a s[a])),i64 a],rfl,?_⟩;refine fill _ (by rw [zmM];rfl) Z.drew fZ _ fun R fR gR=>?_;refine⟨_,rfl,zaa fR,?_⟩;refine⟨rfl,?_,last Z.drew fZ (zae gwZ (zah (Below.refl _ Z).drew)) R gR⟩;exact (gR.block g (hlt hZd) (fun e=>by simp only [Option.some.injEq] at e;omega)).trans hZd
 ·refine⟨_,zac hVs.cells (i:=1) rfl,?_⟩;refine cmo (zlm hVs.cells ha hs) ?_;rintro e Y ⟨rfl,hbY⟩;have hVY:=hVs.below hbY;have ee:zin s a s[a]=endL s a s[a]:=by unfold endL;rw [if_neg h3,if_neg h4];rfl
  rw [ee];refine zgk hVY (endL s a s[a]) fun Z hZ gZ sZ=>?_;obtain⟨hwY,fZ,gwZ⟩:=fin Y hbY Z hZ gZ;refine DrawE.ord [15] [0,1,2,3,4,5,6,7,8,9,10,11,12,13,14,15] (by kernel_rfl) ?_;have hZd:ScV Z.drew g s (endL s a s[a]) op:=hZ;refine⟨_,zac hZd.cells (i:=0) rfl,?_⟩;refine⟨_,zac hZd.cells (i:=1) rfl,?_⟩;refine⟨endL s a s[a],rfl,e2,a,rfl,by omega,?_⟩;refine⟨[u8 (zhU s[a]),.string ((bs s).extract a (endL s a s[a])),i64 a],rfl,?_⟩;refine fill _ (by rw [zmM];rfl) Z.drew fZ _ fun R fR gR=>?_;refine⟨_,rfl,zaa fR,?_⟩;refine⟨rfl,?_,last Z.drew fZ (zae gwZ (zah (Below.refl _ Z).drew)) R gR⟩;exact (gR.block g (hlt hZd) (fun e=>by simp only [Option.some.injEq] at e;omega)).trans hZd
def numV (l:List UInt8):Nat:=l.foldl (fun v c=>10*v+(c.toNat-48)) 0
theorem zlU {s:List UInt8} {k:Nat} (h:k<s.length):numV (s.take (k+1))=10*numV (s.take k)+(s[k].toNat-48):=by
 unfold numV;rw [tsg h,List.foldl_append];rfl
theorem zqd {c:UInt8} (h:digB c=true):48<=c.toNat/\c.toNat<=57:=by
 unfold digB at h;have h:clsL c=4:=dT h;unfold clsL at h
 cases h1:zhW c with
 | true=>rw [h1] at h;cases h
 | false =>
  rw [h1] at h
  cases h2:ziP c with
  | true=>unfold ziP at h2;simp at h2;omega
  | false =>
   rw [h2] at h
   revert h
   cases eqB c 32||eqB c 9 <;> cases eqB c 10 <;> cases eqB c 95 <;> cases eqB c 35 <;> cases znK c <;> (intro h;cases h)
theorem zsc (s:List UInt8) (hs:s.length<=140737488351232) (w:World):Calls Tryz.prog 275 #[strV s] w fun e w'=>∃ v,e = .returned (.tuple #[u8 v,.bool (numL s)])/\w=w':=by
 refine cofM 47 [strV s] (.s .p (.c .p .p)) Tryz.func275 ?_;have hnl:numL s=(decide (1<=s.length)&&(decide (s.length<=3)&&(!(decide (s.head?=some 48)&&decide (1<s.length))&&(s.all digB&&decide (numV s<=255))))):=rfl;refine⟨Unit,fun _=>⟨[(0,strV s)],[]⟩,fun _ X=>(1<=s.length/\s.length<=3/\(decide (s.head?=some 48)&&decide (1<s.length))=false)/\w=X,?_,?_⟩
 ·refine biE (fun h1=>?_) fun h1=>?_
  ·have h1:(s.length:Int)<1:=dT h1;refine brT ?_;refine brT ?_;exact⟨0,by rw [hnl,decide_eq_false (by omega)];rfl,rfl⟩
  have h1:¬ (s.length:Int)<1:=dF h1;refine biE (fun h2=>?_) fun h2=>?_
  ·have h2:(3:Int)<(s.length:Int):=dT h2;refine brT ?_;exact⟨0,by rw [hnl,decide_eq_false (p:=s.length<=3) (by omega)];simp;rfl,rfl⟩
  have h2:¬ (3:Int)<(s.length:Int):=dF h2;have h0:0<s.length:=by omega
  have hh:s.head?=some s[0]:=by rw [List.head?_eq_getElem?,gE h0]
  refine⟨0,rfl,h0,s[0],zeM h0,?_⟩;refine biE (fun h3=>?_) fun h3=>?_
  ·have h3:s[0]=48:=by
    apply UInt8.toNat_inj.1;have h3:((s[0].toNat:Nat):Int)=48:=dT h3;have:(48:UInt8).toNat=48:=rfl;omega
   refine biE (fun h4=>?_) fun h4=>?_
   ·have h4:(1:Int)<(s.length:Int):=dT h4;exact⟨0,by rw [hnl,hh,h3,decide_eq_true (p:=1<s.length) (by omega)];simp;rfl,rfl⟩
   ·have h4:¬ (1:Int)<(s.length:Int):=dF h4;exact⟨(),(cvE rfl rfl),⟨by omega,by omega,by rw [decide_eq_false (p:=1<s.length) (by omega),Bool.and_false]⟩,rfl⟩
  ·refine brF ?_;exact⟨(),(cvE rfl rfl),⟨by omega,by omega,by
    have:¬ s[0]=48:=fun e=>by rw [e] at h3;cases h3
    rw [hh,decide_eq_false (by simpa using this),Bool.false_and]⟩,rfl⟩
 rintro _ _ ⟨⟨h1,h2,h3⟩,rfl⟩;have hnl:numL s=(s.all digB&&decide (numV s<=255)):=by rw [hnl,decide_eq_true h1,decide_eq_true h2,h3];rfl
 rw [hnl];refine⟨Nat,fun k=>⟨[(0,strV s),(4,i64 (numV (s.take k):Nat)),(25,i64 s.length),(26,i64 (k:Nat))],[]⟩,fun k X=>k<=s.length/\(∀ c∈s.take k,digB c=true)/\numV (s.take k)<10^k/\w=X,fun k=>s.length-k,0,(cvE rfl rfl),⟨Nat.zero_le _,by simp,Nat.one_pos,rfl⟩,?_⟩;rintro k _ ⟨hk,hdg,hv,rfl⟩;dsimp only at hk hdg hv ⊢;refine biE (fun hc=>?_) fun hc=>?_
 ·have hc:(k:Int)<(s.length:Int):=dT hc;have hl:k<s.length:=by omega
  refine⟨k,rfl,hl,s[k],zeM hl,?_⟩;refine cmo (zbu _ _) ?_;rintro e _ ⟨rfl,rfl⟩;have hd:decide ((clsL s[k]:Int)=4)=digB s[k]:=zc9 (b:=4);refine biE (fun hi=>?_) fun hi=>?_
  ·have hi:digB s[k]=false:=by
    have h1:(!decide ((clsL s[k]:Int)=4))=true:=hi;rw [hd] at h1;simpa using h1
   have:s.all digB=false:=by
    rw [List.all_eq_false];exact⟨s[k],gM _,by rw [hi];simp⟩
   exact⟨0,by rw [this];rfl,rfl⟩
  ·have hi:digB s[k]=true:=by
    have h1:(!decide ((clsL s[k]:Int)=4))=false:=hi;rw [hd] at h1;simpa using h1
   obtain⟨d1,d2⟩:=zqd hi;have hv3:numV (s.take k)<1000:=nL hv (by
    have:k<=3:=(by omega);exact Nat.pow_le_pow_right (by decide) this)
   have hsn:=zlU hl;refine⟨((10*numV (s.take k):Nat):Int),(zaf (by omega)).trans (by omega),?_⟩;refine⟨k,rfl,hl,s[k],zeM hl,?_⟩;refine⟨((s[k].toNat-48:Nat):Int),(zgK (by omega)).trans (by omega),?_⟩;refine⟨((s[k].toNat-48:Nat):Int),(zaf (by omega)).trans (by omega),?_⟩;refine⟨(numV (s.take (k+1)):Int),(zaf (by omega)).trans (by omega),?_⟩;refine⟨(k+1:Nat),(zaf (by omega)).trans (by omega),?_⟩;refine⟨k+1,(cvE rfl rfl),⟨hl,?_,?_,rfl⟩,zdc (by omega)⟩
   ·rw [tsg hl];intro c hc;rcases List.mem_append.1 hc with hc | hc
    ·exact hdg c hc
    ·simp only [List.mem_singleton] at hc;rw [hc];exact hi
   ·rw [hsn,Nat.pow_succ];omega
 ·have hc:¬ (k:Int)<(s.length:Int):=dF hc;obtain rfl:k=s.length:=by omega
  rw [List.take_length] at hdg hv;have ha:s.all digB=true:=List.all_eq_true.2 hdg;rw [ha,List.take_length];have hv3:numV s<1000:=nL hv (Nat.pow_le_pow_right (by decide) h2);refine biE (fun h5=>?_) fun h5=>?_
  ·have h5:(255:Int)<(numV s:Int):=dT h5;exact⟨0,by rw [decide_eq_false (by omega)];rfl,rfl⟩
  ·have h5:¬ (255:Int)<(numV s:Int):=dF h5;refine⟨((UInt8.ofNat (numV s)).toNat:Int),(zgK (by omega)).trans (by rw [UInt8.toNat_ofNat'];omega),?_⟩;exact⟨UInt8.ofNat (numV s),by rw [decide_eq_true (by omega)];rfl,rfl⟩
theorem zq6 {t:Tok} (h:t.kind=3) (hl:0<t.text.length):zbs t=if clsL t.text[0]=6 then 0 else 40:=by
 obtain⟨k,x,p⟩:=t;have h:k=3:=h;subst h
 cases x with
 | nil=>exact absurd hl (Nat.lt_irrefl 0)
 | cons a r=>rfl
theorem zpK (t:Tok) (ht:t.kind=3->t.text≠[]) (hs:t.text.length<=140737488351232) (w:World):CB 239 #[.agg (tokE.enc t).toArray] w (i64 (zbs t)):=by
 refine cofE 30 [.agg (tokE.enc t).toArray] Tryz.func239 ?_;have hb0:Bw w (w.alloc (.cells (tokE.enc t).toArray 190)):=zba _ _;have f0:=hnew w (.cells (tokE.enc t).toArray 190);have c0:zax (w.alloc (.cells (tokE.enc t).toArray 190)) ⟨w.heap.size,0,none⟩ [u8 t.kind,strV t.text,i64 t.pos]:=zaa f0;have kd:∀ k:UInt8,decide ((t.kind.toNat:Int)=(k.toNat:Int))=decide (t.kind=k):=fun k=>by
  rw [decide_eq_decide];exact zbe
 refine⟨_,zac c0 (i:=0) rfl,?_⟩;refine biE (fun h1=>?_) fun h1=>?_
 ·have h1:t.kind=1:=dT ((kd 1).symm.trans h1);have e:zbs t=if 16<t.text.length then 42 else 0:=by unfold zbs;rw [if_pos h1]
  rw [e];refine⟨_,zac c0 (i:=1) rfl,?_⟩;refine biE (fun h2=>?_) fun h2=>?_
  ·have h2:(16:Int)<(t.text.length:Int):=dT h2;exact⟨by rw [if_pos (by omega)];rfl,hb0⟩
  ·have h2:¬ (16:Int)<(t.text.length:Int):=dF h2;exact⟨by rw [if_neg (by omega)];rfl,hb0⟩
 have h1:¬ t.kind=1:=dF ((kd 1).symm.trans h1);refine biE (fun h2=>?_) fun h2=>?_
 ·have h2:t.kind=2:=dT ((kd 2).symm.trans h2);have e:zbs t=if numL t.text then 0 else 41:=by unfold zbs;rw [if_neg h1,if_pos h2]
  rw [e];refine⟨_,zac c0 (i:=1) rfl,?_⟩;refine cmo (zsc t.text hs _) ?_;rintro e _ ⟨v,rfl,rfl⟩;refine biE (fun h3=>?_) fun h3=>?_
  ·have h3:(!numL t.text)=true:=h3;have h3:numL t.text=false:=by simpa using h3
   exact⟨by rw [h3];rfl,hb0⟩
  ·have h3:(!numL t.text)=false:=h3;have h3:numL t.text=true:=by simpa using h3
   exact⟨by rw [h3];rfl,hb0⟩
 have h2:¬ t.kind=2:=dF ((kd 2).symm.trans h2);refine biE (fun h3=>?_) fun h3=>?_
 ·have h3:t.kind=3:=dT ((kd 3).symm.trans h3);have hne:=ht h3;have hl:0<t.text.length:=List.length_pos_iff.2 hne;have e:zbs t=if clsL t.text[0]=6 then 0 else 40:=zq6 h3 hl
  rw [e];refine⟨_,zac c0 (i:=1) rfl,?_⟩;refine⟨0,rfl,hl,t.text[0],zeM hl,?_⟩;refine cmo (zbu _ _) ?_;rintro e _ ⟨rfl,rfl⟩;refine biE (fun h4=>?_) fun h4=>?_
  ·have h4:(!decide ((clsL t.text[0]:Int)=6))=true:=h4;have h4:¬ clsL t.text[0]=6:=by simp at h4;omega
   exact⟨by rw [if_neg h4];rfl,hb0⟩
  ·have h4:(!decide ((clsL t.text[0]:Int)=6))=false:=h4;have h4:clsL t.text[0]=6:=by simp at h4;omega
   exact⟨by rw [if_pos h4];rfl,hb0⟩
 have h3:¬ t.kind=3:=dF ((kd 3).symm.trans h3);exact⟨by unfold zbs;rw [if_neg h1,if_neg h2,if_neg h3];rfl,hb0⟩
end Go.Proofs.YtlkofpbdpplfkaaGreatDoor
