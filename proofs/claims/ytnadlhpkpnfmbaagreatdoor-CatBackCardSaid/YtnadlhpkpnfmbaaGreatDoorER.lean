/- For every input, seisinlaw11.CatBack returns true and its arguments read afterwards as they read before. Conditions: as the given card has them (package-level variables start as the program's text lays them; the copy of the program is pruned to the packages that the seat loads); none is added. -/
import Derived.Test.YtnadlhpkpnfmbaaGreatDoorE7
import Derived.Test.YtnadlhpkpnfmbaaGreatDoorE8
import Derived.Test.YtnadlhpkpnfmbaaGreatDoorEKRowCBc
import Derived.Test.YtnadlhpkpnfmbaaGreatDoorTie
import Derived.Test.YtnadlhpkpnfmbaaGreatDoorCards
set_option linter.unusedSimpArgs false
set_option linter.unusedVariables false
namespace Go.Proofs.YtnadlhpkpnfmbaaGreatDoor
open Go.Vc Go.Sei
open Go.ChangeShapes Go.WideShapes Go.ChangeAt Go.RowKit
set_option maxRecDepth 100000 in
theorem catBack_lifted (os:Os) (started:os.Started) (H:Type) (enc:TypeId×Value->H) :
  ReturnsInHanded {} Tryz.checked os 7 .any (fun w args=>(Rows.catBackSpec.pre enc Tryz.prog Tryz.f7 [] false w args/\laidMetH Tryz.prog jC w)/\sizedMet enc Tryz.prog Tryz.f7 (OpenSpec.ofChange Rows.catBackSpec) false w args)
   (Rows.catBackSpec.post enc Tryz.prog Tryz.f7 false true false false):=by
 refine zeu (C:=Tryz.checked) (X:=fun w _=>laidMetH Tryz.prog jC w) (fun _ _ _ hh h=>h.of_heap hh) zoX started (by kernel_rfl) Tryz.func7
  (ChangeSpec.witness_shaped (enc:=enc) (C:=Tryz.checked) (os:=os) (X:=fun w _=>laidMetH Tryz.prog jC w) false (zdM os) #[.agg #[.slice none 0 0],.string ⟨#[]⟩] 8 rfl (World.shaped_of_RefB (by kernel_rfl) (by kernel_rfl)) (by kernel_rfl) (by kernel_rfl) (by kernel_rfl) (zeQ os _)) ?_
 intro W base args ds gs before hval0 hW hL hsh hz;have hval:∀ (j:Nat) t v,Tryz.f7.params[j]?=some t->args[j]?=some v->Value.okWide Tryz.prog W .any base t v:=hval0;have hW':=hW;obtain⟨p,q,hA0,hV,rfl,hfz,hnd⟩:=hW;have hA:DataW.TrodAll enc Tryz.prog W 0 (fun _=>true) true Tryz.f7.params.toList args.toList ds p:=hA0;rw [Tryz.params7] at hA hval;obtain⟨v0,vs0,d0,ds0,p0,q0,hargs0,rfl,rfl,h0,r0⟩:=trodAll_cons hA;obtain⟨v1,vs1,d1,ds1,p1,q1,hargs1,rfl,rfl,h1,r1⟩:=trodAll_cons r0;obtain⟨e0,e1,e2⟩:=trodAll_nil r1;subst e0 e1 e2;obtain rfl:args = #[v0,v1]:=by cases args;simp_all
 obtain⟨rfl,rfl⟩:=trodVars_none hV;have hv0:=hval 0 47 v0 rfl rfl;obtain⟨a0,rfl⟩:∃ a,v0 = .agg a:=by
  have:=hv0;unfold Value.okWide at this;rw [Tryz.underlying47] at this;obtain⟨cs,h,_⟩:=this;exact⟨cs,h⟩
 have lt0:∀ x∈p0,x.block<W.heap.size:=by obtain⟨m,hm⟩:=h0;exact DataW.trod_lt m _ _ _ hm
 have hv1:=hval 1 9 v1 rfl rfl;obtain⟨s1,hs1⟩:∃ s:List UInt8,v1=zn s:=by
  unfold Value.okWide at hv1;rw [Tryz.underlying9] at hv1
  cases v1 with
  | string s=>exact⟨s.data.toList,by unfold zn bs;cases s;rfl⟩
  | _=>simp_all [Cell.okWide,Cell.ok]
 subst hs1;have lt1:∀ x∈p1,x.block<W.heap.size:=by obtain⟨m,hm⟩:=h1;exact DataW.trod_lt m _ _ _ hm
 obtain⟨ds',gs',bf',hZ,hwt⟩:=hz;obtain⟨p',q',hA1,_,_,_,_⟩:=hZ;have hA2:DataW.TrodAll enc Tryz.prog W 0 (fun _=>true) true Tryz.f7.params.toList [.agg a0,zn s1] ds' p':=hA1;rw [Tryz.params7] at hA2 hwt;obtain⟨u0,us0,t0,ts0,o0,oo0,z0,rfl,rfl,k0,m0⟩:=trodAll_cons hA2;obtain⟨u1,us1,t1,ts1,o1,oo1,z1,rfl,rfl,k1,m1⟩:=trodAll_cons m0;simp only [List.cons.injEq] at z0;obtain⟨rfl,rfl⟩:=z0;simp only [List.cons.injEq] at z1;obtain⟨rfl,rfl⟩:=z1;obtain⟨ls0,cq0,cc0,he0,hM0,hn0,hp0⟩:=znQ k0 (fun n hn=>hwt n (DataW.weights_mem_each (j:=0) rfl rfl n hn));rw [he0] at h0 hW' ⊢;have hn1:s1.length<=140737488351232:=by
  obtain⟨s,e1,e2⟩:=znP Tryz.underlying9 hv1 k1 (fun n hn=>hwt n (DataW.weights_mem_each (j:=1) rfl rfl n hn));have e1:s1=s:=by have:=congrArg (fun v=>match v with | Value.string b=>b.data.toList | _=>[]) e1;simpa [zn,bs] using this
  rw [e1];exact e2
 refine (zoj hM0 hn0 hn1 (zpO (qu hL hsh).cop (qu hL hsh).cst (qu hL hsh).csg (qu hL hsh).cnd (qu hL hsh).needs (qu hL hsh).t64 (qu hL hsh).t32) (zti hsh)).mono fun e W' ⟨he,bel⟩=>?_;subst he;exact⟨_,rfl,_,_,_,[],_,[],hW',trodAll_mk1 (shut_bool Tryz.underlying4 _),(trodAll_cons_mk (Below.trod zer (by kernel_rfl) (dT (by kernel_rfl)) h0 bel lt0) (trodAll_cons_mk (Below.trod zer (by kernel_rfl) (dT (by kernel_rfl)) h1 bel lt1) trodAll_mk0)),rfl,bel.frame _,fun h=>by cases h⟩
theorem catBack_holds:Rows.CatBackSaid :=
 OpenClaim.holds_of_wide 7 Tryz.f7 rfl rfl rfl rfl rfl rfl rfl ⟨rfl,rfl,rfl,rfl,rfl⟩ rfl rfl rfl rfl rfl (by kernel_rfl) Tryz.func7 zl2
  (dT (by kernel_rfl)) (by unfold Func.isWrapper;first | (rw [if_pos (by decide +kernel)];kernel_rfl) | (rw [if_neg (by decide +kernel)];exact⟨rfl,rfl⟩))
  (fun os started H enc _=>catBack_lifted os started H enc)
theorem catBack_card:Rows.CatBackCardSaid :=
 Claim7.holds_tied_plain_at .later [] [.data, .data, .data, .data, .data, .data, .data, .data, .pinned] true (true, "31b03d815a0bd5bc9b445050af735934c952833762b16b07194bc58e768549f4") false
  catBack_holds (fun _ h=>by cases h) (by kernel_rfl) (fun _ h=>by cases h) catBack_row_tie rfl ⟨rfl,rfl⟩ (by kernel_rfl) rfl
  (fun f fn hf hfn=>by
   obtain rfl : f = 7 := Option.some.inj ((show Tryz.prog.funcNamed "seisin/seisinlaw11.CatBack" = some 7 by kernel_rfl).symm.trans hf) |>.symm
   obtain rfl:fn=Tryz.f7:=(Option.some.inj (Tryz.func7.symm.trans hfn)).symm;exact⟨by kernel_rfl,fun j t ht=>by
    rw [Tryz.params7] at ht;rcases j with _ | _ | j
    ·obtain rfl:t=47:=(by simpa using ht.symm);exact (show Tryz.prog.wantsStandIn 47=false by kernel_rfl)
    ·obtain rfl:t=9:=(by simpa using ht.symm);exact (show Tryz.prog.wantsStandIn 9=false by kernel_rfl)
    ·simp at ht⟩)
  (by kernel_rfl)
#print axioms catBack_card
end Go.Proofs.YtnadlhpkpnfmbaaGreatDoor
