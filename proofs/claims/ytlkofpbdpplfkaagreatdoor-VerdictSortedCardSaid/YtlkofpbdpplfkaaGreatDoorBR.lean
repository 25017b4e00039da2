/- For every input, seisinlaw12.VerdictSorted returns true and its arguments read afterwards as they read before. Conditions: as the given card has them (package-level variables start as the program's text lays them; the copy of the program is pruned to the packages that the seat loads); none is added. -/
import Derived.Test.YtlkofpbdpplfkaaGreatDoorB7
import Derived.Test.YtlkofpbdpplfkaaGreatDoorBKRowVSc
import Derived.Test.YtlkofpbdpplfkaaGreatDoorTie
import Derived.Test.YtlkofpbdpplfkaaGreatDoorCards
set_option linter.unusedSimpArgs false
set_option linter.unusedVariables false
namespace Go.Proofs.YtlkofpbdpplfkaaGreatDoor
open Go.Vc Go.Sei
open Go.ChangeShapes Go.WideShapes Go.ChangeAt Go.RowKit
set_option maxRecDepth 100000 in
theorem verdictSorted_lifted (os:Os) (started:os.Started) (H:Type) (enc:TypeId×Value->H) :
  ReturnsInHanded {} Tryz.checked os 7 .any (fun w args=>(Rows.verdictSortedSpec.pre enc Tryz.prog Tryz.f7 [] false w args/\laidMetH Tryz.prog zco w)/\sizedMet enc Tryz.prog Tryz.f7 (OpenSpec.ofChange Rows.verdictSortedSpec) false w args)
   (Rows.verdictSortedSpec.post enc Tryz.prog Tryz.f7 false true false false):=by
 refine zes (C:=Tryz.checked) (X:=fun w _=>laidMetH Tryz.prog zco w) (fun _ _ _ hh h=>h.of_heap hh) znn started (by kernel_rfl) Tryz.func7
  (ChangeSpec.witness_shaped (enc:=enc) (C:=Tryz.checked) (os:=os) (X:=fun w _=>laidMetH Tryz.prog zco w) false (zgr os) #[.slice none 0 0,u8 0,.agg (List.replicate 38 (.int .u8 0)).toArray,.agg (List.replicate 38 (.int .u8 0)).toArray,.agg (List.replicate 38 (.int .u8 0)).toArray] 8 rfl (World.shaped_of_RefB (by kernel_rfl) (by kernel_rfl)) (by kernel_rfl) (by kernel_rfl) (by kernel_rfl) (zgc os _)) ?_
 intro W base args ds gs before hval0 hW hL hsh hz;have hval:∀ (j:Nat) t v,Tryz.f7.params[j]?=some t->args[j]?=some v->Value.okWide Tryz.prog W .any base t v:=hval0;have hW':=hW;obtain⟨p,q,hA0,hV,rfl,hfz,hnd⟩:=hW;have hA:DataW.TrodAll enc Tryz.prog W 0 (fun _=>true) true Tryz.f7.params.toList args.toList ds p:=hA0;rw [Tryz.params7] at hA hval;obtain⟨v0,vs0,d0,ds0,p0,q0,hargs0,rfl,rfl,h0,r0⟩:=trodAll_cons hA;obtain⟨v1,vs1,d1,ds1,p1,q1,hargs1,rfl,rfl,h1,r1⟩:=trodAll_cons r0;obtain⟨v2,vs2,d2,ds2,p2,q2,hargs2,rfl,rfl,h2,r2⟩:=trodAll_cons r1;obtain⟨v3,vs3,d3,ds3,p3,q3,hargs3,rfl,rfl,h3,r3⟩:=trodAll_cons r2;obtain⟨v4,vs4,d4,ds4,p4,q4,hargs4,rfl,rfl,h4,r4⟩:=trodAll_cons r3;obtain⟨e0,e1,e2⟩:=trodAll_nil r4;subst e0 e1 e2;obtain rfl:args = #[v0,v1,v2,v3,v4]:=by cases args;simp_all
 obtain⟨rfl,rfl⟩:=trodVars_none hV;obtain⟨a0,len0,cap0,rfl,hlc0,hk0⟩:=znE Tryz.underlying35 (hval 0 35 v0 rfl rfl);have lt0:∀ x∈p0,x.block<W.heap.size:=by obtain⟨m,hm⟩:=h0;exact DataW.trod_lt m _ _ _ hm
 obtain⟨b1,rfl⟩:=zlR Tryz.underlying5 (hval 1 5 v1 rfl rfl);have lt1:∀ x∈p1,x.block<W.heap.size:=by obtain⟨m,hm⟩:=h1;exact DataW.trod_lt m _ _ _ hm
 have hv2:=hval 2 27 v2 rfl rfl;obtain⟨a2,rfl⟩:∃ a,v2 = .agg a:=by
  have:=hv2;unfold Value.okWide at this;rw [Tryz.underlying27] at this;obtain⟨cs,h,_⟩:=this;exact⟨cs,h⟩
 have lt2:∀ x∈p2,x.block<W.heap.size:=by obtain⟨m,hm⟩:=h2;exact DataW.trod_lt m _ _ _ hm
 have hv3:=hval 3 27 v3 rfl rfl;obtain⟨a3,rfl⟩:∃ a,v3 = .agg a:=by
  have:=hv3;unfold Value.okWide at this;rw [Tryz.underlying27] at this;obtain⟨cs,h,_⟩:=this;exact⟨cs,h⟩
 have lt3:∀ x∈p3,x.block<W.heap.size:=by obtain⟨m,hm⟩:=h3;exact DataW.trod_lt m _ _ _ hm
 have hv4:=hval 4 27 v4 rfl rfl;obtain⟨a4,rfl⟩:∃ a,v4 = .agg a:=by
  have:=hv4;unfold Value.okWide at this;rw [Tryz.underlying27] at this;obtain⟨cs,h,_⟩:=this;exact⟨cs,h⟩
 have lt4:∀ x∈p4,x.block<W.heap.size:=by obtain⟨m,hm⟩:=h4;exact DataW.trod_lt m _ _ _ hm
 obtain⟨ds',gs',bf',hZ,hwt⟩:=hz;obtain⟨p',q',hA1,_,_,_,_⟩:=hZ;have hA2:DataW.TrodAll enc Tryz.prog W 0 (fun _=>true) true Tryz.f7.params.toList [.slice a0 len0 cap0,u8 b1,.agg a2,.agg a3,.agg a4] ds' p':=hA1;rw [Tryz.params7] at hA2 hwt;obtain⟨u0,us0,t0,ts0,o0,oo0,z0,rfl,rfl,k0,m0⟩:=trodAll_cons hA2;obtain⟨u1,us1,t1,ts1,o1,oo1,z1,rfl,rfl,k1,m1⟩:=trodAll_cons m0;obtain⟨u2,us2,t2,ts2,o2,oo2,z2,rfl,rfl,k2,m2⟩:=trodAll_cons m1;obtain⟨u3,us3,t3,ts3,o3,oo3,z3,rfl,rfl,k3,m3⟩:=trodAll_cons m2;obtain⟨u4,us4,t4,ts4,o4,oo4,z4,rfl,rfl,k4,m4⟩:=trodAll_cons m3;simp only [List.cons.injEq] at z0;obtain⟨rfl,rfl⟩:=z0;simp only [List.cons.injEq] at z1;obtain⟨rfl,rfl⟩:=z1;simp only [List.cons.injEq] at z2;obtain⟨rfl,rfl⟩:=z2;simp only [List.cons.injEq] at z3;obtain⟨rfl,rfl⟩:=z3;simp only [List.cons.injEq] at z4;obtain⟨rfl,rfl⟩:=z4;obtain⟨l0,hl0,hrow0⟩:=ziA rfl h0;subst hl0;obtain⟨F2,hm2⟩:=zdQ h2;rw [hm2] at h2 hW' ⊢;obtain⟨F3,hm3⟩:=zdQ h3;rw [hm3] at h3 hW' ⊢;obtain⟨F4,hm4⟩:=zdQ h4;rw [hm4] at h4 hW' ⊢;refine (zfk hrow0 hlc0 hk0 ⟨(zcV hL hsh).needs,(zcV hL hsh).t64,(zcV hL hsh).t32⟩).mono fun e W' ⟨he,bel⟩=>?_;subst he;exact⟨_,rfl,_,_,_,[],_,[],hW',trodAll_mk1 (shut_bool Tryz.underlying4 _),(trodAll_cons_mk (Below.trod zb3 (by kernel_rfl) (dT (by kernel_rfl)) h0 bel lt0) (trodAll_cons_mk (Below.trod zb3 (by kernel_rfl) (dT (by kernel_rfl)) h1 bel lt1) (trodAll_cons_mk (Below.trod zb3 (by kernel_rfl) (dT (by kernel_rfl)) h2 bel lt2) (trodAll_cons_mk (Below.trod zb3 (by kernel_rfl) (dT (by kernel_rfl)) h3 bel lt3) (trodAll_cons_mk (Below.trod zb3 (by kernel_rfl) (dT (by kernel_rfl)) h4 bel lt4) trodAll_mk0))))),rfl,bel.frame _,fun h=>by cases h⟩
theorem verdictSorted_holds:Rows.VerdictSortedSaid :=
 OpenClaim.holds_of_wide 7 Tryz.f7 rfl rfl rfl rfl rfl rfl rfl ⟨rfl,rfl,rfl,rfl,rfl⟩ rfl rfl rfl rfl rfl (by kernel_rfl) Tryz.func7 zeU
  (dT (by kernel_rfl)) (by unfold Func.isWrapper;first | (rw [if_pos (by decide +kernel)];kernel_rfl) | (rw [if_neg (by decide +kernel)];exact⟨rfl,rfl⟩))
  (fun os started H enc _=>verdictSorted_lifted os started H enc)
theorem verdictSorted_card:Rows.VerdictSortedCardSaid :=
 Claim7.holds_tied_plain_at .later [] [.data, .data, .data, .data] true (true, "4ed6074b40fb270f5cb633c64019e504475617ae44615508c33572c0b91ad156") true
  verdictSorted_holds (fun _ h=>by cases h) (by kernel_rfl) (fun _ h=>by cases h) verdictSorted_row_tie rfl ⟨rfl,rfl⟩ (by kernel_rfl) rfl
  (fun f fn hf hfn=>by
   obtain rfl : f = 7 := Option.some.inj ((show Tryz.prog.funcNamed "seisin/seisinlaw12.VerdictSorted" = some 7 by kernel_rfl).symm.trans hf) |>.symm
   obtain rfl:fn=Tryz.f7:=(Option.some.inj (Tryz.func7.symm.trans hfn)).symm;exact⟨by kernel_rfl,fun j t ht=>by
    rw [Tryz.params7] at ht;rcases j with _ | _ | _ | _ | _ | j
    ·obtain rfl:t=35:=(by simpa using ht.symm);exact (show Tryz.prog.wantsStandIn 35=false by kernel_rfl)
    ·obtain rfl:t=5:=(by simpa using ht.symm);exact (show Tryz.prog.wantsStandIn 5=false by kernel_rfl)
    ·obtain rfl:t=27:=(by simpa using ht.symm);exact (show Tryz.prog.wantsStandIn 27=false by kernel_rfl)
    ·obtain rfl:t=27:=(by simpa using ht.symm);exact (show Tryz.prog.wantsStandIn 27=false by kernel_rfl)
    ·obtain rfl:t=27:=(by simpa using ht.symm);exact (show Tryz.prog.wantsStandIn 27=false by kernel_rfl)
    ·simp at ht⟩)
  (by kernel_rfl)
#print axioms verdictSorted_card
end Go.Proofs.YtlkofpbdpplfkaaGreatDoor
