import Derived.Calls
import Derived.Control
import Derived.KernelRfl
import Derived.Laws.Append
import Derived.Laws.AppendOwn
import Derived.Laws.CopyRow
import Derived.Laws.Entries
import Derived.Laws.Externs
import Derived.Laws.Sem
import Derived.Laws.Tables
import Derived.Lib.Builder
import Derived.Lib.ConvBytes
import Derived.Lib.Join
import Derived.LoopN
import Derived.Orders
import Derived.Sort.Grow
import Derived.StillTail
import Derived.Tactics
import Derived.WalkKit
set_option linter.all false
namespace Go.Ab
abbrev aa:=@List.getElem?_eq_some_iff
abbrev ae:=@List.getElem?_eq_getElem
abbrev ah:=@Bool.and_eq_true
abbrev ai:=@List.getElem_mem
abbrev ak:=@List.all_eq_true
abbrev al:=@decide_eq_true_eq
abbrev aq:=@List.take_append_getElem
abbrev av:=@if_neg
abbrev aw:=@List.length_take
abbrev ax:=@Array.getD_eq_getD_getElem?
abbrev ay:=@List.take_of_length_le
abbrev aA:=@List.length_append
abbrev aB:=@if_pos
abbrev aD:=@List.mem_of_getElem?
abbrev aI:=@List.take_length
abbrev aK:=@Nat.le_refl
abbrev aL:=@List.length_cons
abbrev aP:=@congrArg
abbrev aT:=@List.length_map
abbrev aX:=@List.getElem_of_mem
abbrev bh:=@Option.map_eq_some_iff
abbrev ba:=@List.mem_map
abbrev bf:=@List.mem_append
abbrev bm:=@List.getElem?_map
abbrev bg:=@List.append_assoc
abbrev bj:=@List.eq_nil_of_length_eq_zero
abbrev bq:=@List.append_nil
abbrev bx:=@List.mem_singleton
abbrev bz:=@List.mem_cons
abbrev bA:=@List.getD_eq_getElem?_getD
abbrev bF:=@List.cons_append
abbrev bG:=@List.mem_of_mem_take
abbrev bH:=@Nat.lt_of_lt_of_le
abbrev bJ:=@Go.run_underlying
abbrev bK:=@decide_eq_false_iff_not
abbrev bO:=@List.mem_range
abbrev bP:=@List.take_append_drop
abbrev bS:=@Go.Result.andThen_ok
abbrev bW:=@Bool.true_and
abbrev bY:=@Option.getD_some
abbrev bZ:=@List.getElem?_toArray
abbrev b7:=@List.pairwise_iff_getElem
abbrev b8:=@Nat.mul_le_mul_right
abbrev b_:=@Nat.le_trans
abbrev cc:=@Int.tdiv_eq_ediv_of_nonneg
abbrev ck:=@Option.some.injEq
abbrev ch:=@Go.Sem.run_bind
abbrev cj:=@List.any_eq_false
abbrev cw:=@trivial
abbrev ct:=@List.getElem?_take
abbrev cy:=@Option.isSome_iff_exists
abbrev cF:=@List.getElem?_eq_none
abbrev cC:=@List.length_nil
abbrev cD:=@List.any_eq_true
abbrev cN:=@List.getElem?_append
abbrev cH:=@List.drop_of_length_le
abbrev cL:=@Bool.or_eq_true
abbrev da:=@Option.some.inj
abbrev cO:=@List.length_drop
abbrev cQ:=@List.pairwise_append
abbrev cR:=@Bool.false_and
abbrev cS:=@List.map_append
abbrev cU:=@Nat.zero_add
abbrev cY:=@List.mem_take_iff_getElem
abbrev cZ:=@List.drop_eq_getElem_cons
abbrev c_:=@List.nil_append
abbrev gR:=@Array.getElem?_eq_some_iff
abbrev di:=@List.getElem?_append_right
abbrev dq:=@List.mem_of_mem_drop
abbrev dz:=@Option.map_some
abbrev dG:=@Bool.not_eq_true'
abbrev dH:=@List.take_sublist
abbrev dI:=@List.foldl_append
abbrev dK:=@List.mem_cons_of_mem
abbrev dL:=@Classical.byContradiction
abbrev dO:=@List.length_filter_le
abbrev dU:=@Nat.add_zero
abbrev dW:=@cond_false
abbrev eM:=@Option.bind_eq_some_iff
abbrev d_:=@List.pairwise_cons
abbrev eb:=@List.getElem?_append_left
abbrev eF:=@Int.tmod_eq_emod_of_nonneg
abbrev eH:=@List.getElem?_drop
abbrev f_:=@Array.getElem?_toList
abbrev eW:=@Nat.zero_le
abbrev fo:=@List.map_cons
abbrev e_:=@List.all_cons
abbrev fa:=@Prod.mk.injEq
abbrev iD:=@List.mem_iff_getElem?
abbrev fh:=@Nat.mul_le_mul
abbrev fi:=@List.getElem?_replicate
abbrev fG:=@List.findIdx_le_length
abbrev fH:=@Nat.lt_or_ge
abbrev fM:=@List.lt_irrefl
abbrev fN:=@List.mem_filter
abbrev fO:=@Int.mul_nonneg
abbrev fP:=@Nat.min_eq_left
abbrev gk:=@if_true
abbrev gS:=@Nat.add_assoc
abbrev fU:=@List.getElem_map
abbrev fV:=@List.length_pos_iff
abbrev il:=@Array.length_toList
abbrev fW:=@List.map_congr_left
abbrev gi:=@Array.all_eq_true_iff_forall_mem
abbrev gj:=@List.drop_sublist
abbrev gl:=@Int.toNat_natCast
abbrev gm:=@Nat.succ_mul
abbrev gn:=@Go.run_firstCells_some
abbrev gE:=@List.getElem?_cons_succ
abbrev gF:=@Go.setRow_other
abbrev gQ:=@List.filter_append
abbrev ia:=@Array.getElem?_eq_getElem
abbrev iq:=@List.getElem?_set
abbrev ir:=@List.drop_append_of_le_length
abbrev iB:=@List.length_mergeSort
abbrev iC:=@Array.getElem?_append
abbrev iE:=@Array.getElem?_modify
abbrev iU:=@List.foldl_cons
abbrev iV:=@Option.map_none
abbrev jc:=@Bool.false_eq_true
abbrev mH:=@Option.bind_some
abbrev ji:=@Array.toList_inj
abbrev jr:=@List.findIdx?_eq_some_iff_getElem
abbrev jA:=@List.lt_trans
abbrev jG:=@List.map_map
abbrev jH:=@List.flatten_cons
abbrev jI:=@of_decide_eq_true
abbrev jJ:=@Nat.lt_trichotomy
abbrev jK:=@Int.mul_le_mul
abbrev jL:=@List.size_toArray
abbrev nc:=@Nat.eq_zero_or_pos
abbrev mD:=@Nat.zero_mul
abbrev lf:=@List.map_nil
abbrev lx:=@List.mem_append_left
abbrev lR:=@List.getElem?_cons_zero
abbrev lS:=@List.getElem_take
abbrev l5:=@Nat.mod_lt
abbrev l6:=@Array.getElem?_setIfInBounds
abbrev mi:=@Go.wp_seq
abbrev mE:=@List.not_of_lt_findIdx
abbrev mF:=@Nat.lt_irrefl
abbrev mI:=@List.not_mem_nil
abbrev mR:=@Go.Sem.run_pure
abbrev nd:=@List.take_zero
abbrev nf:=@List.mem_cons_self
abbrev ng:=@List.mem_filterMap
abbrev ni:=@List.mem_append_right
abbrev nj:=@List.length_replicate
abbrev qu:=@List.cons.injEq
abbrev om:=@Nat.add_mul
abbrev oo:=@Nat.mul_one
abbrev oq:=@List.findIdx_getElem
abbrev ot:=@Array.toArray_toList
abbrev oR:=@Bool.and_true
abbrev oS:=@Go.getD_replicate_false
abbrev sR:=@List.getElem?_range
abbrev pg:=@Array.toList_append
abbrev rQ:=@List.drop_zero
abbrev pr:=@List.filter_cons
abbrev pt:=@Bool.not_eq_true
abbrev pw:=@Nat.mod_eq_of_lt
abbrev px:=@cond_true
abbrev py:=@Nat.add_sub_cancel_left
abbrev pM:=@Go.run_firstCells_none
abbrev qh:=@List.length_eq_one_iff
abbrev qY:=@Bool.and_eq_false_iff
abbrev qZ:=@Std.lt_trichotomy
abbrev rN:=@Nat.le_succ
abbrev rO:=@List.contains_eq_mem
abbrev rP:=@Go.wp_mono
abbrev sv:=@List.perm_middle
abbrev sw:=@Nat.le_add_right
abbrev sx:=@List.findIdx?_eq_none_iff
abbrev sy:=@Go.wp_region_list
abbrev sQ:=@List.flatten_append
abbrev tk:=@if_false
abbrev tp:=@List.getElem?_take_of_lt
abbrev tC:=@List.range_succ
abbrev tD:=@Nat.not_lt_zero
abbrev tE:=@List.take_left'
abbrev uw:=@Option.isSome_some
abbrev vm:=@List.map_set
abbrev vn:=@Bool.eq_false_iff
abbrev vo:=@List.all_eq_false
abbrev vp:=@Bool.not_false
abbrev vq:=@Int.lt_trichotomy
abbrev vr:=@Bool.and_assoc
abbrev vt:=@Go.mem_ready
abbrev vu:=@Nat.sub_zero
abbrev wt:=@Array.getElem?_setIfInBounds_ne
abbrev wu:=@List.perm_append_comm
abbrev wv:=@List.length_singleton
abbrev wA:=@Go.wp_loop_rounds
abbrev xz:=@List.eq_nil_iff_forall_not_mem
abbrev xR:=@true_and
abbrev xS:=@Bool.or_eq_false_iff
abbrev xT:=@List.map_id
abbrev xU:=@Nat.pow_le_pow_right
abbrev y5:=@List.drop_left'
abbrev y6:=@Go.Lib.join_cons
abbrev y7:=@Go.wp_cond_split
abbrev zY:=@List.mem_map_of_mem
abbrev zZ:=@List.drop_succ_cons
abbrev As:=@Nat.mul_comm
abbrev B3:=@Bool.and_false
abbrev B4:=@Int.natAbs_natCast
abbrev B5:=@Int.tmod_lt_of_pos
abbrev ZH:=@Go.Addr.add_lit
abbrev DD:=@List.mem_drop_iff_getElem
abbrev DF:=@List.getElem_drop
abbrev DG:=@List.ext_getElem?
abbrev GA:=@Array.ext
abbrev GB:=@List.pairwise_mergeSort
abbrev GC:=@List.pairwise_singleton
abbrev GD:=@Nat.lt_succ_self
abbrev GF:=@Nat.lt_of_not_le
abbrev GG:=@Go.rounds_succ
abbrev GH:=@or_false
abbrev Js:=@List.flatten_singleton
abbrev Jt:=@Int.neg_tmod
abbrev Ju:=@Array.ext'
abbrev Jv:=@Ne.symm
abbrev Jw:=@List.append_eq_nil_iff
abbrev Jz:=@List.any_append
abbrev JA:=@Bool.eq_iff_iff
abbrev JB:=@List.length_set
abbrev JC:=@List.all_append
abbrev JD:=@List.head?_cons
abbrev ab6:=@Classical.choose_spec
abbrev Kb:=@List.dropLast_eq_take
abbrev Kc:=@Nat.le_of_ble_eq_true
abbrev LY:=@Go.getD_in
abbrev NK:=@Go.Lib.bytesWorld_at_old
abbrev Qn:=@List.mergeSort_perm
abbrev Qo:=@Nat.mul_le_mul_left
abbrev Qp:=@List.flatMap_append
abbrev Qv:=@Bool.not_true
abbrev Qw:=@Int.mul_assoc
abbrev Qx:=@Go.setRow_heap
abbrev Qy:=@Go.growslice_fits
abbrev Qz:=@Go.grownCap_ge
abbrev QA:=@Go.size_zeroCells
abbrev QB:=@Go.getD_set_ne
abbrev SY:=@UInt8.toNat_ofNat'
abbrev SZ:=@of_decide_eq_false
abbrev T5:=@Go.run_callFunc_extern
abbrev T6:=@Go.Lib.bytesWorld_size
abbrev Wv:=@decide_false
abbrev Ww:=@Nat.sub_self
abbrev Wx:=@Array.size_append
abbrev Wy:=@Go.wp_region_any
abbrev Wz:=@Nat.le_of_lt
abbrev WK:=@Go.grownCap_le_maxLen
abbrev WL:=@Go.Sort.heap_grow_old
abbrev ZI:=@Go.run_storeCells_at
abbrev ZJ:=@Go.wp_block
abbrev abl:=@Nat.mul_add_mod
abbrev abm:=@List.dropLast_concat_getLast
abbrev acJ:=@Go.getD_both
abbrev acK:=@Go.Lib.cell_of_heap
abbrev aej:=@Array.getElem?_append_left
abbrev aek:=@List.append_cancel_left_eq
abbrev ael:=@Int.fdiv_eq_ediv_of_nonneg
abbrev aem:=@List.drop_left
abbrev aen:=@List.getElem?_take_eq_none
abbrev afB:=@List.sublist_append_right
abbrev afC:=@List.mem_or_eq_of_mem_set
abbrev afD:=@Go.Lib.run_convert_string_bytes
abbrev afE:=@Int.natAbs_tdiv_le_natAbs
abbrev afF:=@Go.Oper.upon_value
abbrev ah2:=@List.Perm.eq_of_pairwise
abbrev ah3:=@Bool.false_or
abbrev ah4:=@Array.getElem?_replicate
abbrev aut:=@List.filter_eq_nil_iff
abbrev auv:=@List.head?_eq_getElem?
abbrev auw:=@List.drop_eq_nil_of_le
abbrev auy:=@Int.le_ediv_iff_mul_le
theorem bd{p:Prop}(h:p:=by omega):p:=h
theorem bl{p:Prop}(h:p:=by kernel_rfl):p:=h
theorem bn{p:Prop}(h:p:=by simp):p:=h
theorem bo{p:Prop}(h:p:=by rw[bX (by omega) (by omega)];omega):p:=h
theorem bt{p:Prop}(h:p:=by decide):p:=h
theorem b4{p:Prop}(h:p:=by simp[aC]):p:=h
theorem ca{p:Prop}(h:p:=by simp;omega):p:=h
theorem b6{p:Prop}(h:p:=by simp[Op.operands]):p:=h
theorem cb{p:Prop}(h:p:=by intros;simp[*]):p:=h
theorem cd{p:Prop}(h:p:=by grind):p:=h
theorem cf{p:Prop}(h:p:=by simp[aN.cells]):p:=h
theorem cm{p:Prop}(h:p:=by simpa using hi):p:=h
theorem cn{p:Prop}(h:p:=by cases a;cases b;simp):p:=h
theorem cv{p:Prop}(h:p:=by simp[fF,c,hw,cr,aZ,e]):p:=h
theorem c6{p:Prop}(h:p:=by obtain⟨x,_,rfl⟩:=ba.1 a;rfl):p:=h
theorem c8{p:Prop}(h:p:=by simpa using h):p:=h
theorem c7{p:Prop}(h:p:=by rw[aw];omega):p:=h
theorem eo{p:Prop}(h:p:=by simp[a_]at hk):p:=h
theorem dk{p:Prop}(h:p:=by simp[aN.cells,au]):p:=h
theorem ea{p:Prop}(h:p:=by simp[-Int.natCast_add]):p:=h
theorem eg{p:Prop}(h:p:=by simpa using hl):p:=h
theorem ei{p:Prop}(h:p:=by cases q<;>rfl):p:=h
theorem ej{p:Prop}(h:p:=by have:=L.Bp x hx;omega):p:=h
theorem ek{p:Prop}(h:p:=by simpa using e):p:=h
theorem el{p:Prop}(h:p:=by rw[←aq (by simpa using hi),fU]):p:=h
theorem er{p:Prop}(h:p:=by simp[hi]):p:=h
theorem eC{p:Prop}(h:p:=by simp[au]):p:=h
theorem eG{p:Prop}(h:p:=by simp[Go.Ab.aC]):p:=h
theorem eK{p:Prop}(h:p:=by unfold Lib.bytesWorld;first|exact aK _|exact rN _|(simp[World.drew,World.alloc];done)):p:=h
theorem eN{p:Prop}(h:p:=by simp[eP]):p:=h
theorem eO{p:Prop}(h:p:=by simp[Op.operands,Call.operands]):p:=h
theorem eR{p:Prop}(h:p:=by simp[ar]):p:=h
theorem e8{p:Prop}(h:p:=by rw[←aq (by simpa using hi)];simp):p:=h
theorem ga{p:Prop}(h:p:=by simpa[a_]using hk):p:=h
theorem gb{p:Prop}(h:p:=by simp[w1]):p:=h
theorem ha{p:Prop}(h:p:=by simpa using h2):p:=h
theorem hC{p:Prop}(h:p:=by simp[a_,hk]):p:=h
theorem hD{p:Prop}(h:p:=by have:=F.shr x hx;omega):p:=h
theorem hF{p:Prop}(h:p:=by rw[aB (by omega)];exact C 5):p:=h
theorem hG{p:Prop}(h:p:=by simpa using hk):p:=h
theorem hJ{p:Prop}(h:p:=by simp[fF,a,hw,cr,aZ]):p:=h
theorem hR{p:Prop}(h:p:=by simp only[aL]at h2;omega):p:=h
theorem hU{p:Prop}(h:p:=by rw[ae hi]at a;exact da a):p:=h
theorem hV{p:Prop}(h:p:=by simp[dV]):p:=h
theorem hW{p:Prop}(h:p:=by simp at hi):p:=h
theorem hX{p:Prop}(h:p:=by simp only;omega):p:=h
theorem hZ{p:Prop}(h:p:=by simp only[Op.operands,ba];exact⟨x,hx,rfl⟩):p:=h
theorem h4{p:Prop}(h:p:=by rw[aH];omega):p:=h
theorem r2{p:Prop}(h:p:=by unfold rH;rw[k];exact⟨c,pv,hc,rfl,rfl,l⟩):p:=h
theorem h5{p:Prop}(h:p:=by simpa using h'):p:=h
theorem h9{p:Prop}(h:p:=by simp[execOp,e1,e2,eqGuard,binOp,Op.intArith]):p:=h
theorem j0{p:Prop}(h:p:=by simp[Action.rows]):p:=h
theorem j1{p:Prop}(h:p:=by rw[h];rfl):p:=h
theorem ka{p:Prop}(h:p:=by first|exact eL|omega|simp[aC]):p:=h
theorem kb{p:Prop}(h:p:=by simp[fF,c,hw,cr,aZ,g]):p:=h
theorem kc{p:Prop}(h:p:=by simp[fF,a,hw,cr,aZ,g]):p:=h
theorem kf{p:Prop}(h:p:=by simp[Place.rows]):p:=h
theorem kK{p:Prop}(h:p:=by simpa using g):p:=h
theorem kg{p:Prop}(h:p:=by simp[Jl,Qt]):p:=h
theorem kl{p:Prop}(h:p:=by simp[-List.length_flatten]):p:=h
theorem km{p:Prop}(h:p:=by unfold rC;omega):p:=h
theorem ko{p:Prop}(h:p:=by unfold maxLen;omega):p:=h
theorem kr{p:Prop}(h:p:=by simp only[isName];simp[show 1≤s.length by omega,show s.length≤10 by omega]):p:=h
theorem ks{p:Prop}(h:p:=by simp[World.setRow]):p:=h
theorem kt{p:Prop}(h:p:=by rw[←ji];exact e3):p:=h
theorem kv{p:Prop}(h:p:=by rw[←ji];exact e2):p:=h
theorem kx{p:Prop}(h:p:=by simpa using hy):p:=h
theorem kz{p:Prop}(h:p:=by rw[ae hi]at h;exact da h):p:=h
theorem kA{p:Prop}(h:p:=by rw[←lE (T:=T) (by omega)];exact h2):p:=h
theorem kB{p:Prop}(h:p:=by unfold i7;split<;>omega):p:=h
theorem kC{p:Prop}(h:p:=by unfold aM.wf;simp;omega):p:=h
theorem kD{p:Prop}(h:p:=by simp[sV,cG]):p:=h
theorem nx{p:Prop}(h:p:=by simp[hx]):p:=h
theorem kE{p:Prop}(h:p:=by simp[au,aN.cells]):p:=h
theorem kF{p:Prop}(h:p:=by rw[hz];exact aK _):p:=h
theorem kH{p:Prop}(h:p:=by simpa using j):p:=h
theorem k7{p:Prop}(h:p:=by simpa using D):p:=h
theorem kL{p:Prop}(h:p:=by simp[bu.rows]):p:=h
theorem kM{p:Prop}(h:p:=by simp[bC.rows]):p:=h
theorem kO{p:Prop}(h:p:=by simp[aW.rows]):p:=h
theorem kP{p:Prop}(h:p:=by rw[hm,hb]):p:=h
theorem kQ{p:Prop}(h:p:=by simp[fF,c,hw,cr,aZ,sj]):p:=h
theorem kS{p:Prop}(h:p:=by simp only[bv];exact I):p:=h
theorem kT{p:Prop}(h:p:=by simp[h]):p:=h
theorem kU{p:Prop}(h:p:=by simp[jd]):p:=h
theorem kV{p:Prop}(h:p:=by simp[eS]):p:=h
theorem kW{p:Prop}(h:p:=by simp[-Int.natCast_add,-Int.natCast_mul,-List.length_flatten]):p:=h
theorem r3{p:Prop}(h:p:=by simpa using hu):p:=h
theorem kX{p:Prop}(h:p:=by simpa using hc):p:=h
theorem kY{p:Prop}(h:p:=by simp[l_];omega):p:=h
theorem k1{p:Prop}(h:p:=by simp only[cC];omega):p:=h
theorem k3{p:Prop}(h:p:=by rw[e];exact eL):p:=h
theorem k4{p:Prop}(h:p:=by rw[I];exactλ_ _ _ h=>h.elim):p:=h
theorem br{p:Prop}(h:p:=by simpa using h.symm):p:=h
theorem k5{p:Prop}(h:p:=by rw[s,show n+1+r.length=n+(r.length+1) by omega];exact hl):p:=h
theorem k6{p:Prop}(h:p:=by rw[aA,aT,aw];omega):p:=h
theorem k8{p:Prop}(h:p:=by simp[e]):p:=h
theorem la{p:Prop}(h:p:=by simp only[execOp,ch,hu];rfl):p:=h
theorem lb{p:Prop}(h:p:=by rw[a];simp[h]):p:=h
theorem l0{p:Prop}(h:p:=by rw[Z,n];omega):p:=h
theorem l3{p:Prop}(h:p:=by rw[e];simp):p:=h
theorem l4{p:Prop}(h:p:=by assumption):p:=h
theorem mm{p:Prop}(h:p:=by simpa using hk 0 (by simp)):p:=h
theorem mx{p:Prop}(h:p:=by simpa using b j d):p:=h
theorem n0{p:Prop}(h:p:=by rw[←e];exact hm):p:=h
theorem oc{p:Prop}(h:p:=by rw[g]at e;cases e):p:=h
theorem og{p:Prop}(h:p:=by have:=g2 _ j r c (key i r d) B;rwa [cU,om,gS]at this):p:=h
theorem o3{p:Prop}(h:p:=by subst e;simp[Op.operands]):p:=h
theorem pn{p:Prop}(h:p:=by rw[aQ];omega):p:=h
theorem p0{p:Prop}(h:p:=by unfold nS;rw[hw]):p:=h
theorem p3{p:Prop}(h:p:=by unfold eI;rw[hl]):p:=h
theorem p4{p:Prop}(h:p:=by simp[aR.rows,hi]):p:=h
theorem p6{p:Prop}(h:p:=by have:=yr h;omega):p:=h
theorem p7{p:Prop}(h:p:=by have:=g.le;omega):p:=h
theorem p8{p:Prop}(h:p:=by simp[fF,a,hw,cr,aZ,e,e2]):p:=h
theorem p9{p:Prop}(h:p:=by rw[cell_of_heap (hw b hb)];exact hu i j r c h1 h2):p:=h
theorem q0{p:Prop}(h:p:=by rw[Z];rfl):p:=h
theorem q6{p:Prop}(h:p:=by simpa using hid):p:=h
theorem q7{p:Prop}(h:p:=by simp[en,qV]):p:=h
theorem rK{p:Prop}(h:p:=by simp only[rH,k];exact l):p:=h
theorem q8{p:Prop}(h:p:=by rw[eF (by omega)];omega):p:=h
theorem ra{p:Prop}(h:p:=by rw[e1];exact oI):p:=h
theorem Cc{p:Prop}(h:p:=by cases h):p:=h
theorem rb{p:Prop}(h:p:=by simp[Region.wanted,hg]):p:=h
theorem rv{p:Prop}(h:p:=by simp[Go.Sort.putCells]):p:=h
theorem ss{p:Prop}(h:p:=by simpa using hn):p:=h
theorem s6{p:Prop}(h:p:=by simpa using h1):p:=h
theorem ti{p:Prop}(h:p:=by simpa using h0):p:=h
theorem tl{p:Prop}(h:p:=by simp[pz]):p:=h
theorem tn{p:Prop}(h:p:=by simp[pV]):p:=h
theorem tt{p:Prop}(h:p:=by simp[o_]):p:=h
theorem wa{p:Prop}(h:p:=by simp[et]):p:=h
theorem wq{p:Prop}(h:p:=by simp[Jl]):p:=h
theorem wx{p:Prop}(h:p:=by simp[Region.wanted,j]):p:=h
theorem wy{p:Prop}(h:p:=by rw[hs];rfl):p:=h
theorem wz{p:Prop}(h:p:=by rw[h];simp):p:=h
theorem wK{p:Prop}(h:p:=by rw[g]at e;cases e.2.2):p:=h
theorem w4{p:Prop}(h:p:=by rw[e]at h0;simp at h0):p:=h
theorem w9{p:Prop}(h:p:=by rw[aO.aj]at h;exact h):p:=h
theorem xt{p:Prop}(h:p:=by rw[aM.aj]at h;exact h):p:=h
theorem x0{p:Prop}(h:p:=by rw[Order.aj];exact hl):p:=h
theorem x1{p:Prop}(h:p:=by rw[Nat.sub_mul];omega):p:=h
theorem x2{p:Prop}(h:p:=by have:=L.Bp y hy;omega):p:=h
theorem LO{p:Prop}(h:p:=by rw[fits];exact⟨[],rfl,by simp,by simp⟩):p:=h
theorem ys{p:Prop}(h:p:=by simpa using E):p:=h
theorem y0{p:Prop}(h:p:=by simp[qy,hs,g]):p:=h
theorem y1{p:Prop}(h:p:=by simp[aS.rows]):p:=h
theorem y2{p:Prop}(h:p:=by simp[aO.aj,jn];omega):p:=h
theorem zr{p:Prop}(h:p:=by simp[aJ.rows]):p:=h
theorem zv{p:Prop}(h:p:=by rw[a];exact Z):p:=h
theorem Ac{p:Prop}(h:p:=by simp only[nJ];omega):p:=h
theorem Ur{p:Prop}(h:p:=by rw[abn]at h;exact h.elim;all_goals simp):p:=h
theorem Cj{p:Prop}(h:p:=by simp[dV];rfl):p:=h
theorem C0{p:Prop}(h:p:=by unfold iT;split<;>(try split)<;>omega):p:=h
theorem H3{p:Prop}(h:p:=by rw[y];exact av λe=>d ⟨e.1,e.2.1⟩):p:=h
theorem KO{p:Prop}(h:p:=by rw[aB (by omega)];exact⟨rfl,rfl⟩):p:=h
inductive PV where
 |int (k:IntKind) (n:Int)
 |bool (b:Bool)
 |str (s:List UInt8)
 |agg (cs:List PV)
 |dn (vs:List PV)
 |nils
 |sl (z:Nat) (rows:List (List PV))
 |pe (z:Nat) (rows:List (List PV)) (i off:Nat)
 |sf (k z:Nat)
 |so (k z lo len:Nat)
 |pa (k z i off:Nat)
 |pb (k off:Nat)
 |sb (k z n:Nat)
 |fn (f:Nat) (nI:List PV)
 |opt (c:Bool) (p:PV)
 |raw (v:Value)
 |own (k:Nat)
 |cp (k C:Nat)
 |ef (f:Nat)
 |err (b:Bool)
 |top
instance:Inhabited PV:=⟨.top⟩
def agP:List PV:=(List.range 20).map λi=>.int .u64 (10^i)
def AP:List Int:=[0,17,35,52,70,87,105,122,139,156,174,191,208,225,242,259,276,292,309,326,342,358,375,391,407,423,438,454,469,485,500,515,530,545,559,574,588,602,616,629,643,656,669,682,695,707,719,731,743,755,766,777,788,799,809,819,829,839,848,857,866,875,883,891,899,906,914,921,927,934,940,946,951,956,961,966,970,974,978,982,985,988,990,993,995,996,998,999,999,1000,1000]
def Tp:List PV:=AP.map λn=>.int .i64 n
def Xf:List (Nat×List PV):=[
 (5,agP),
 (8,Tp),
 ]
class bI where
 on:Bool
def W3[dw:bI]:Bool:=dw.on
class dj[dw:bI]:Prop where
 off:dw.on=false
def Vj:List (Nat×Nat):=[
 (0,0),
 (3,1),
 (4,1),
 ]
end Go.Ab
