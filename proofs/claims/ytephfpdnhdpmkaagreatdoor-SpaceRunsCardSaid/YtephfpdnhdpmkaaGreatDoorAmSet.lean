/- THE RULES OF A WALK, put together. No condition. -/
import Derived.Test.YtephfpdnhdpmkaaGreatDoorAmRng
open Int (reduceEq)
open Nat (reduceEqDiff reduceAdd reduceMul reduceLT reduceLeDiff)
set_option linter.all false
namespace Go.Am
open Go
set_option maxRecDepth 10000
theorem wk1:((((((type_of% @ret_nil)∧
 (type_of% @ret_skip))∧
 ((type_of% @ret_label)∧
 ((type_of% @ret_exit)∧
 (type_of% @ret_goto))))∧
 (((type_of% @ret_ret)∧
 (type_of% @ret_region))∧
 ((type_of% @ret_seq)∧
 ((type_of% @ret_block)∧
 (type_of% @ret_scope)))))∧
 ((((type_of% @ret_inscope)∧
 (type_of% @ret_cond))∧
 ((type_of% @ret_drawn)∧
 ((type_of% @condK_true)∧
 (type_of% @condK_false))))∧
 (((type_of% @condK_dt)∧
 (type_of% @condK_df))∧
 ((type_of% @ret_code_exit)∧
 ((type_of% @ret_code_goto)∧
 (type_of% @ret_code_ret))))))∧
 (((((type_of% @ret_code_panic)∧
 (type_of% @ret_again_exit))∧
 ((type_of% @ret_again_goto)∧
 ((type_of% @ret_again_ret)∧
 (type_of% @ret_again_panic))))∧
 (((type_of% @ret_blk_normal)∧
 (type_of% @ret_blk_exit))∧
 ((type_of% @ret_blk_goto)∧
 ((type_of% @ret_blk_ret)∧
 (type_of% @ret_blk_panic)))))∧
 ((((type_of% @ret_scp_normal)∧
 (type_of% @ret_scp_exit))∧
 ((type_of% @ret_scp_ret)∧
 ((type_of% @ret_scp_panic)∧
 (type_of% @rr_nil))))∧
 (((type_of% @rr_mv)∧
 (type_of% @rr_pick))∧
 ((type_of% @rr_build)∧
 ((type_of% @rr_bslice)∧
 (type_of% @rr_bsfull))))))):=
 ⟨⟨⟨⟨⟨@ret_nil,
 @ret_skip⟩,
 ⟨@ret_label,
 ⟨@ret_exit,
 @ret_goto⟩⟩⟩,
 ⟨⟨@ret_ret,
 @ret_region⟩,
 ⟨@ret_seq,
 ⟨@ret_block,
 @ret_scope⟩⟩⟩⟩,
 ⟨⟨⟨@ret_inscope,
 @ret_cond⟩,
 ⟨@ret_drawn,
 ⟨@condK_true,
 @condK_false⟩⟩⟩,
 ⟨⟨@condK_dt,
 @condK_df⟩,
 ⟨@ret_code_exit,
 ⟨@ret_code_goto,
 @ret_code_ret⟩⟩⟩⟩⟩,
 ⟨⟨⟨⟨@ret_code_panic,
 @ret_again_exit⟩,
 ⟨@ret_again_goto,
 ⟨@ret_again_ret,
 @ret_again_panic⟩⟩⟩,
 ⟨⟨@ret_blk_normal,
 @ret_blk_exit⟩,
 ⟨@ret_blk_goto,
 ⟨@ret_blk_ret,
 @ret_blk_panic⟩⟩⟩⟩,
 ⟨⟨⟨@ret_scp_normal,
 @ret_scp_exit⟩,
 ⟨@ret_scp_ret,
 ⟨@ret_scp_panic,
 @rr_nil⟩⟩⟩,
 ⟨⟨@rr_mv,
 @rr_pick⟩,
 ⟨@rr_build,
 ⟨@rr_bslice,
 @rr_bsfull⟩⟩⟩⟩⟩⟩
theorem wk2:((((((type_of% @rr_mm)∧
 (type_of% @rr_load))∧
 ((type_of% @rr_fld)∧
 ((type_of% @rr_part)∧
 (type_of% @rr_ixa))))∧
 (((type_of% @rr_ixarr)∧
 (type_of% @rr_ixv))∧
 ((type_of% @rr_ixs)∧
 ((type_of% @rr_bin)∧
 (type_of% @rr_un)))))∧
 ((((type_of% @rr_conv)∧
 (type_of% @rr_mkif))∧
 ((type_of% @rr_mkfn)∧
 ((type_of% @rr_lookup)∧
 (type_of% @rr_tassert))))∧
 (((type_of% @rr_ext)∧
 (type_of% @rr_slice))∧
 ((type_of% @rr_slstr)∧
 ((type_of% @rr_slc3)∧
 (type_of% @rr_len))))))∧
 (((((type_of% @rr_nilck)∧
 (type_of% @rr_alloc))∧
 ((type_of% @rr_box)∧
 ((type_of% @rr_store)∧
 (type_of% @rr_mkmap))))∧
 (((type_of% @rr_mapup)∧
 (type_of% @rr_append))∧
 ((type_of% @rr_appendm)∧
 ((type_of% @rr_appendr)∧
 (type_of% @rr_appz)))))∧
 ((((type_of% @rr_mkslicem)∧
 (type_of% @rr_bsmem))∧
 ((type_of% @rr_mkslice)∧
 ((type_of% @rr_mkbnd)∧
 (type_of% @rr_chk))))∧
 (((type_of% @rr_boxe)∧
 (type_of% @rr_appc))∧
 ((type_of% @rowOf_sl)∧
 ((type_of% @offP_nil)∧
 (type_of% @offP_ptr))))))):=
 ⟨⟨⟨⟨⟨@rr_mm,
 @rr_load⟩,
 ⟨@rr_fld,
 ⟨@rr_part,
 @rr_ixa⟩⟩⟩,
 ⟨⟨@rr_ixarr,
 @rr_ixv⟩,
 ⟨@rr_ixs,
 ⟨@rr_bin,
 @rr_un⟩⟩⟩⟩,
 ⟨⟨⟨@rr_conv,
 @rr_mkif⟩,
 ⟨@rr_mkfn,
 ⟨@rr_lookup,
 @rr_tassert⟩⟩⟩,
 ⟨⟨@rr_ext,
 @rr_slice⟩,
 ⟨@rr_slstr,
 ⟨@rr_slc3,
 @rr_len⟩⟩⟩⟩⟩,
 ⟨⟨⟨⟨@rr_nilck,
 @rr_alloc⟩,
 ⟨@rr_box,
 ⟨@rr_store,
 @rr_mkmap⟩⟩⟩,
 ⟨⟨@rr_mapup,
 @rr_append⟩,
 ⟨@rr_appendm,
 ⟨@rr_appendr,
 @rr_appz⟩⟩⟩⟩,
 ⟨⟨⟨@rr_mkslicem,
 @rr_bsmem⟩,
 ⟨@rr_mkslice,
 ⟨@rr_mkbnd,
 @rr_chk⟩⟩⟩,
 ⟨⟨@rr_boxe,
 @rr_appc⟩,
 ⟨@rowOf_sl,
 ⟨@offP_nil,
 @offP_ptr⟩⟩⟩⟩⟩⟩
theorem wk3:((((((type_of% @floatV_nil)∧
 (type_of% @floatV_e))∧
 ((type_of% @floatV_p)∧
 ((type_of% @rr_idxb)∧
 (type_of% @rr_cntb))))∧
 (((type_of% @rr_clr)∧
 (type_of% @rr_cpy))∧
 ((type_of% @rr_slarr)∧
 ((type_of% @rr_s2arr)∧
 (type_of% @rr_callf)))))∧
 ((((type_of% @rr_callm)∧
 (type_of% @rr_callv))∧
 ((type_of% @rr_recov)∧
 ((type_of% @rr_panic)∧
 (type_of% @rr_dfr))))∧
 (((type_of% @rr_guard)∧
 (type_of% @runV_some))∧
 ((type_of% @runO_ret)∧
 ((type_of% @runO_pan)∧
 (type_of% @runX_val))))))∧
 (((((type_of% @runX_skip)∧
 (type_of% @runX_enter))∧
 ((type_of% @runE_plain)∧
 ((type_of% @runE_fresh)∧
 (type_of% @runE_fmap))))∧
 (((type_of% @runE_pan)∧
 (type_of% @runX_enterm))∧
 ((type_of% @runX_yield)∧
 ((type_of% @runX_pan)∧
 (type_of% @runX_dfr)))))∧
 ((((type_of% @runG_tt)∧
 (type_of% @runG_tf))∧
 ((type_of% @runG_ft)∧
 ((type_of% @runG_ff)∧
 (type_of% @runG_dtt))))∧
 (((type_of% @runG_dtf)∧
 (type_of% @runG_dft))∧
 ((type_of% @runG_dff)∧
 ((type_of% @rp_nil)∧
 (type_of% @hpush_nil))))))):=
 ⟨⟨⟨⟨⟨@floatV_nil,
 @floatV_e⟩,
 ⟨@floatV_p,
 ⟨@rr_idxb,
 @rr_cntb⟩⟩⟩,
 ⟨⟨@rr_clr,
 @rr_cpy⟩,
 ⟨@rr_slarr,
 ⟨@rr_s2arr,
 @rr_callf⟩⟩⟩⟩,
 ⟨⟨⟨@rr_callm,
 @rr_callv⟩,
 ⟨@rr_recov,
 ⟨@rr_panic,
 @rr_dfr⟩⟩⟩,
 ⟨⟨@rr_guard,
 @runV_some⟩,
 ⟨@runO_ret,
 ⟨@runO_pan,
 @runX_val⟩⟩⟩⟩⟩,
 ⟨⟨⟨⟨@runX_skip,
 @runX_enter⟩,
 ⟨@runE_plain,
 ⟨@runE_fresh,
 @runE_fmap⟩⟩⟩,
 ⟨⟨@runE_pan,
 @runX_enterm⟩,
 ⟨@runX_yield,
 ⟨@runX_pan,
 @runX_dfr⟩⟩⟩⟩,
 ⟨⟨⟨@runG_tt,
 @runG_tf⟩,
 ⟨@runG_ft,
 ⟨@runG_ff,
 @runG_dtt⟩⟩⟩,
 ⟨⟨@runG_dtf,
 @runG_dft⟩,
 ⟨@runG_dff,
 ⟨@rp_nil,
 @hpush_nil⟩⟩⟩⟩⟩⟩
theorem wk4:((((((type_of% @hpush_cons)∧
 (type_of% @rp_cons))∧
 ((type_of% @runPV_plain)∧
 ((type_of% @runPV_fresh)∧
 (type_of% @runPV_kill))))∧
 (((type_of% @killO_eq)∧
 (type_of% @ap_appf))∧
 ((type_of% @ap_appg)∧
 ((type_of% @ap_callw)∧
 (type_of% @ap_boxd)))))∧
 ((((type_of% @avalP_some)∧
 (type_of% @lookP_some))∧
 ((type_of% @lookP_none)∧
 ((type_of% @prP_plain)∧
 (type_of% @prP_fresh))))∧
 (((type_of% @prP_fmap)∧
 (type_of% @ap_mv))∧
 ((type_of% @ap_pick)∧
 ((type_of% @ap_build)∧
 (type_of% @ap_bslice))))))∧
 (((((type_of% @ap_bsfull)∧
 (type_of% @ap_mm))∧
 ((type_of% @ap_load)∧
 ((type_of% @ap_fld)∧
 (type_of% @ap_part))))∧
 (((type_of% @ap_ixa)∧
 (type_of% @ap_ixarr))∧
 ((type_of% @ap_ixv)∧
 ((type_of% @ap_ixs)∧
 (type_of% @ap_bin)))))∧
 ((((type_of% @ap_un)∧
 (type_of% @ap_conv))∧
 ((type_of% @ap_mkif)∧
 ((type_of% @ap_mkfn)∧
 (type_of% @ap_lookup))))∧
 (((type_of% @ap_tassert)∧
 (type_of% @ap_ext))∧
 ((type_of% @ap_slice)∧
 ((type_of% @ap_slstr)∧
 (type_of% @ap_slc3))))))):=
 ⟨⟨⟨⟨⟨@hpush_cons,
 @rp_cons⟩,
 ⟨@runPV_plain,
 ⟨@runPV_fresh,
 @runPV_kill⟩⟩⟩,
 ⟨⟨@killO_eq,
 @ap_appf⟩,
 ⟨@ap_appg,
 ⟨@ap_callw,
 @ap_boxd⟩⟩⟩⟩,
 ⟨⟨⟨@avalP_some,
 @lookP_some⟩,
 ⟨@lookP_none,
 ⟨@prP_plain,
 @prP_fresh⟩⟩⟩,
 ⟨⟨@prP_fmap,
 @ap_mv⟩,
 ⟨@ap_pick,
 ⟨@ap_build,
 @ap_bslice⟩⟩⟩⟩⟩,
 ⟨⟨⟨⟨@ap_bsfull,
 @ap_mm⟩,
 ⟨@ap_load,
 ⟨@ap_fld,
 @ap_part⟩⟩⟩,
 ⟨⟨@ap_ixa,
 @ap_ixarr⟩,
 ⟨@ap_ixv,
 ⟨@ap_ixs,
 @ap_bin⟩⟩⟩⟩,
 ⟨⟨⟨@ap_un,
 @ap_conv⟩,
 ⟨@ap_mkif,
 ⟨@ap_mkfn,
 @ap_lookup⟩⟩⟩,
 ⟨⟨@ap_tassert,
 @ap_ext⟩,
 ⟨@ap_slice,
 ⟨@ap_slstr,
 @ap_slc3⟩⟩⟩⟩⟩⟩
theorem wk5:((((((type_of% @ap_len)∧
 (type_of% @ap_nilck))∧
 ((type_of% @ap1E_call)∧
 ((type_of% @ap_alloc)∧
 (type_of% @ap1E_callv))))∧
 (((type_of% @prV_some)∧
 (type_of% @callee_fn))∧
 ((type_of% @callee_bnd)∧
 ((type_of% @ap_mkslice)∧
 (type_of% @ap_mkbnd)))))∧
 ((((type_of% @ap_boxe)∧
 (type_of% @ap_appc))∧
 ((type_of% @ap_idxb)∧
 ((type_of% @ap_cntb)∧
 (type_of% @ap_slarr))))∧
 (((type_of% @ap_s2arr)∧
 (type_of% @ap1E_guard))∧
 ((type_of% @gp_tt)∧
 ((type_of% @gp_tf)∧
 (type_of% @gp_ft))))))∧
 (((((type_of% @gp_ff)∧
 (type_of% @gp_dtt))∧
 ((type_of% @gp_dtf)∧
 ((type_of% @gp_dft)∧
 (type_of% @gp_dff))))∧
 (((type_of% @prO_plain)∧
 (type_of% @prO_fresh))∧
 ((type_of% @prO_fmap)∧
 ((type_of% @prO_pan)∧
 (type_of% @upd_app)))))∧
 ((((type_of% @updD_some)∧
 (type_of% @updD_none))∧
 ((type_of% @evE_t)∧
 ((type_of% @evE_c)∧
 (type_of% @argE_zero))))∧
 (((type_of% @argE_succ)∧
 (type_of% @argE_nil))∧
 ((type_of% @bv_add)∧
 ((type_of% @bv_sub)∧
 (type_of% @bv_mul))))))):=
 ⟨⟨⟨⟨⟨@ap_len,
 @ap_nilck⟩,
 ⟨@ap1E_call,
 ⟨@ap_alloc,
 @ap1E_callv⟩⟩⟩,
 ⟨⟨@prV_some,
 @callee_fn⟩,
 ⟨@callee_bnd,
 ⟨@ap_mkslice,
 @ap_mkbnd⟩⟩⟩⟩,
 ⟨⟨⟨@ap_boxe,
 @ap_appc⟩,
 ⟨@ap_idxb,
 ⟨@ap_cntb,
 @ap_slarr⟩⟩⟩,
 ⟨⟨@ap_s2arr,
 @ap1E_guard⟩,
 ⟨@gp_tt,
 ⟨@gp_tf,
 @gp_ft⟩⟩⟩⟩⟩,
 ⟨⟨⟨⟨@gp_ff,
 @gp_dtt⟩,
 ⟨@gp_dtf,
 ⟨@gp_dft,
 @gp_dff⟩⟩⟩,
 ⟨⟨@prO_plain,
 @prO_fresh⟩,
 ⟨@prO_fmap,
 ⟨@prO_pan,
 @upd_app⟩⟩⟩⟩,
 ⟨⟨⟨@updD_some,
 @updD_none⟩,
 ⟨@evE_t,
 ⟨@evE_c,
 @argE_zero⟩⟩⟩,
 ⟨⟨@argE_succ,
 @argE_nil⟩,
 ⟨@bv_add,
 ⟨@bv_sub,
 @bv_mul⟩⟩⟩⟩⟩⟩
theorem wk6:((((((type_of% @bv_quo)∧
 (type_of% @bv_rem))∧
 ((type_of% @wrap_i64)∧
 ((type_of% @wrap_u64)∧
 (type_of% @ite_pos))))∧
 (((type_of% @ite_neg)∧
 (type_of% @drop_pre))∧
 ((type_of% @drop_pre2)∧
 ((type_of% @encs_cons)∧
 (type_of% @encs_nil)))))∧
 ((((type_of% @cast_succ)∧
 (type_of% @bv_eql))∧
 ((type_of% @bv_neq)∧
 ((type_of% @bv_lss)∧
 (type_of% @bv_leq))))∧
 (((type_of% @bv_gtr)∧
 (type_of% @bv_geq))∧
 ((type_of% @bv_seqlii)∧
 ((type_of% @bv_sneqdii)∧
 (type_of% @bv_beql))))))∧
 (((((type_of% @bv_bneq)∧
 (type_of% @uv_not_dec))∧
 ((type_of% @uv_not)∧
 ((type_of% @uv_neg)∧
 (type_of% @flat_int))))∧
 (((type_of% @one_int)∧
 (type_of% @flat_bool))∧
 ((type_of% @one_bool)∧
 ((type_of% @flat_str)∧
 (type_of% @one_str)))))∧
 ((((type_of% @flat_sl)∧
 (type_of% @one_sl))∧
 ((type_of% @flat_msl)∧
 ((type_of% @one_msl)∧
 (type_of% @flat_ptr))))∧
 (((type_of% @one_ptr)∧
 (type_of% @flat_nilp))∧
 ((type_of% @one_nilp)∧
 ((type_of% @flat_eptr)∧
 (type_of% @one_eptr))))))):=
 ⟨⟨⟨⟨⟨@bv_quo,
 @bv_rem⟩,
 ⟨@wrap_i64,
 ⟨@wrap_u64,
 @ite_pos⟩⟩⟩,
 ⟨⟨@ite_neg,
 @drop_pre⟩,
 ⟨@drop_pre2,
 ⟨@encs_cons,
 @encs_nil⟩⟩⟩⟩,
 ⟨⟨⟨@cast_succ,
 @bv_eql⟩,
 ⟨@bv_neq,
 ⟨@bv_lss,
 @bv_leq⟩⟩⟩,
 ⟨⟨@bv_gtr,
 @bv_geq⟩,
 ⟨@bv_seqlii,
 ⟨@bv_sneqdii,
 @bv_beql⟩⟩⟩⟩⟩,
 ⟨⟨⟨⟨@bv_bneq,
 @uv_not_dec⟩,
 ⟨@uv_not,
 ⟨@uv_neg,
 @flat_int⟩⟩⟩,
 ⟨⟨@one_int,
 @flat_bool⟩,
 ⟨@one_bool,
 ⟨@flat_str,
 @one_str⟩⟩⟩⟩,
 ⟨⟨⟨@flat_sl,
 @one_sl⟩,
 ⟨@flat_msl,
 ⟨@one_msl,
 @flat_ptr⟩⟩⟩,
 ⟨⟨@one_ptr,
 @flat_nilp⟩,
 ⟨@one_nilp,
 ⟨@flat_eptr,
 @one_eptr⟩⟩⟩⟩⟩⟩
theorem wk7:(((((type_of% @flat_fn)∧
 (type_of% @one_fn))∧
 ((type_of% @flat_bnd)∧
 ((type_of% @one_bnd)∧
 (type_of% @flat_rsl))))∧
 (((type_of% @one_rsl)∧
 ((type_of% @flat_nilf)∧
 (type_of% @one_nilf)))∧
 ((type_of% @flat_iface)∧
 ((type_of% @one_iface)∧
 (type_of% @flat_nili)))))∧
 ((((type_of% @one_nili)∧
 (type_of% @flat_mp))∧
 ((type_of% @one_mp)∧
 ((type_of% @flat_nilm)∧
 (type_of% @one_nilm))))∧
 (((type_of% @flat_agg)∧
 ((type_of% @slvR_one)∧
 (type_of% @slvR_flat)))∧
 ((type_of% @ends_ret)∧
 ((type_of% @ends_normal)∧
 (type_of% @ends_panic)))))):=
 ⟨⟨⟨⟨@flat_fn,
 @one_fn⟩,
 ⟨@flat_bnd,
 ⟨@one_bnd,
 @flat_rsl⟩⟩⟩,
 ⟨⟨@one_rsl,
 ⟨@flat_nilf,
 @one_nilf⟩⟩,
 ⟨@flat_iface,
 ⟨@one_iface,
 @flat_nili⟩⟩⟩⟩,
 ⟨⟨⟨@one_nili,
 @flat_mp⟩,
 ⟨@one_mp,
 ⟨@flat_nilm,
 @one_nilm⟩⟩⟩,
 ⟨⟨@flat_agg,
 ⟨@slvR_one,
 @slvR_flat⟩⟩,
 ⟨@ends_ret,
 ⟨@ends_normal,
 @ends_panic⟩⟩⟩⟩⟩
theorem wkl:((((((type_of% @Nat.zero_mul)/\(type_of% @Int.tdiv_eq_ediv_of_nonneg))/\((type_of% @Int.tmod_eq_emod_of_nonneg)/\((type_of% @List.length_append.{0})/\(type_of% @Nat.mul_one))))/\(((type_of% @Bool.not_false)/\((type_of% @Bool.not_true)/\(type_of% @decide_eq_true_eq)))/\((type_of% @Bool.not_eq_true)/\((type_of% @eq_self.{1})/\(type_of% @ne_eq.{1})))))/\((((type_of% @and_true)/\(type_of% @true_and))/\((type_of% @and_self)/\((type_of% @not_true_eq_false)/\(type_of% @not_false_eq_true))))/\(((type_of% @if_true.{1})/\((type_of% @if_false.{1})/\(type_of% @decide_true)))/\((type_of% @decide_false)/\((type_of% @Int.toNat_natCast)/\(type_of% @Int.natCast_nonneg))))))/\(((((type_of% @List.drop_zero.{0})/\(type_of% @List.take_zero.{0}))/\((type_of% @List.take_succ_cons.{0})/\((type_of% @List.drop_succ_cons.{0})/\(type_of% @Bool.and_self))))/\(((type_of% @Bool.and_true)/\((type_of% @Bool.true_and)/\(type_of% @beq_self_eq_true.{0})))/\((type_of% @Nat.one_mul)/\((type_of% @List.drop_nil.{0})/\(type_of% @List.map_nil.{0,0})))))/\((((type_of% @List.map_cons.{0,0})/\((type_of% @Option.map_some.{0,0})/\(type_of% @List.length_nil.{0})))/\((type_of% @List.length_cons.{0})/\((type_of% @Nat.add_zero)/\(type_of% @Nat.sub_zero))))/\(((type_of% @List.nil_append.{0})/\((type_of% @List.cons_append.{0})/\(type_of% @List.getElem?_cons_zero.{0})))/\((type_of% @List.getElem?_cons_succ.{0})/\((type_of% @List.set_cons_zero.{0})/\(type_of% @List.set_cons_succ.{0}))))))):=
 ⟨⟨⟨⟨⟨@Nat.zero_mul,@Int.tdiv_eq_ediv_of_nonneg⟩,⟨@Int.tmod_eq_emod_of_nonneg,⟨@List.length_append.{0},@Nat.mul_one⟩⟩⟩,⟨⟨@Bool.not_false,⟨@Bool.not_true,@decide_eq_true_eq⟩⟩,⟨@Bool.not_eq_true,⟨@eq_self.{1},@ne_eq.{1}⟩⟩⟩⟩,⟨⟨⟨@and_true,@true_and⟩,⟨@and_self,⟨@not_true_eq_false,@not_false_eq_true⟩⟩⟩,⟨⟨@if_true.{1},⟨@if_false.{1},@decide_true⟩⟩,⟨@decide_false,⟨@Int.toNat_natCast,@Int.natCast_nonneg⟩⟩⟩⟩⟩,⟨⟨⟨⟨@List.drop_zero.{0},@List.take_zero.{0}⟩,⟨@List.take_succ_cons.{0},⟨@List.drop_succ_cons.{0},@Bool.and_self⟩⟩⟩,⟨⟨@Bool.and_true,⟨@Bool.true_and,@beq_self_eq_true.{0}⟩⟩,⟨@Nat.one_mul,⟨@List.drop_nil.{0},@List.map_nil.{0,0}⟩⟩⟩⟩,⟨⟨⟨@List.map_cons.{0,0},⟨@Option.map_some.{0,0},@List.length_nil.{0}⟩⟩,⟨@List.length_cons.{0},⟨@Nat.add_zero,@Nat.sub_zero⟩⟩⟩,⟨⟨@List.nil_append.{0},⟨@List.cons_append.{0},@List.getElem?_cons_zero.{0}⟩⟩,⟨@List.getElem?_cons_succ.{0},⟨@List.set_cons_zero.{0},@List.set_cons_succ.{0}⟩⟩⟩⟩⟩⟩
theorem wkd:(((((((type_of% @avalE_len)/\(type_of% @avalE_conv))/\((type_of% @avalE.eq_1)/\(type_of% @avalE.eq_2)))/\(((type_of% @avalE.eq_3)/\(type_of% @avalE.eq_4))/\((type_of% @avalE.eq_5)/\(type_of% @avalE.eq_6))))/\((((type_of% @avalE.eq_7)/\(type_of% @avalE.eq_8))/\((type_of% @avalE.eq_9)/\(type_of% @avalE.eq_10)))/\(((type_of% @avalE.eq_11)/\(type_of% @avalE.eq_12))/\((type_of% @avalE.eq_13)/\((type_of% @avalE.eq_14)/\(type_of% @avalE.eq_15))))))/\(((((type_of% @avalE.eq_21)/\(type_of% @avalE.eq_22))/\((type_of% @avalE.eq_23)/\(type_of% @avalE.eq_24)))/\(((type_of% @avalE.eq_25)/\(type_of% @avalE.eq_26))/\((type_of% @avalE.eq_27)/\(type_of% @avalE.eq_28))))/\((((type_of% @avalE.eq_29)/\(type_of% @avalE.eq_30))/\((type_of% @avalE.eq_31)/\(type_of% @avalE.eq_32)))/\(((type_of% @avalE.eq_33)/\(type_of% @avalE.eq_34))/\((type_of% @avalE.eq_35)/\((type_of% @avalE.eq_36)/\(type_of% @avalE.eq_37)))))))/\((((((type_of% @avalE.eq_45)/\(type_of% @aactE.eq_1))/\((type_of% @aactE.eq_2)/\(type_of% @aactE.eq_3)))/\(((type_of% @aactE.eq_4)/\(type_of% @aactE.eq_5))/\((type_of% @aactE.eq_6)/\(type_of% @aactE.eq_7))))/\((((type_of% @aactE.eq_8)/\(type_of% @aactE.eq_9))/\((type_of% @aactE.eq_10)/\(type_of% @aactE.eq_11)))/\(((type_of% @aactE.eq_12)/\(type_of% @aactE.eq_13))/\((type_of% @aactE.eq_14)/\((type_of% @aactE.eq_15)/\(type_of% @aactE.eq_16))))))/\(((((type_of% @aactE.eq_17)/\(type_of% @aactE.eq_18))/\((type_of% @aactE.eq_19)/\(type_of% @aactE.eq_20)))/\(((type_of% @aactE.eq_21)/\(type_of% @evPE.eq_1))/\((type_of% @evPE.eq_2)/\((type_of% @boundE.eq_1)/\(type_of% @boundE.eq_2)))))/\((((type_of% @asNat.eq_1)/\(type_of% @readC.eq_1))/\((type_of% @allOne.eq_1)/\(type_of% @allOne.eq_2)))/\(((type_of% @fillL.eq_1)/\(type_of% @fillL.eq_2))/\((type_of% @resE.eq_1)/\((type_of% @resE.eq_2)/\(type_of% @resE.eq_3)))))))):=
 ⟨⟨⟨⟨⟨⟨@avalE_len,@avalE_conv⟩,⟨@avalE.eq_1,@avalE.eq_2⟩⟩,⟨⟨@avalE.eq_3,@avalE.eq_4⟩,⟨@avalE.eq_5,@avalE.eq_6⟩⟩⟩,⟨⟨⟨@avalE.eq_7,@avalE.eq_8⟩,⟨@avalE.eq_9,@avalE.eq_10⟩⟩,⟨⟨@avalE.eq_11,@avalE.eq_12⟩,⟨@avalE.eq_13,⟨@avalE.eq_14,@avalE.eq_15⟩⟩⟩⟩⟩,⟨⟨⟨⟨@avalE.eq_21,@avalE.eq_22⟩,⟨@avalE.eq_23,@avalE.eq_24⟩⟩,⟨⟨@avalE.eq_25,@avalE.eq_26⟩,⟨@avalE.eq_27,@avalE.eq_28⟩⟩⟩,⟨⟨⟨@avalE.eq_29,@avalE.eq_30⟩,⟨@avalE.eq_31,@avalE.eq_32⟩⟩,⟨⟨@avalE.eq_33,@avalE.eq_34⟩,⟨@avalE.eq_35,⟨@avalE.eq_36,@avalE.eq_37⟩⟩⟩⟩⟩⟩,⟨⟨⟨⟨⟨@avalE.eq_45,@aactE.eq_1⟩,⟨@aactE.eq_2,@aactE.eq_3⟩⟩,⟨⟨@aactE.eq_4,@aactE.eq_5⟩,⟨@aactE.eq_6,@aactE.eq_7⟩⟩⟩,⟨⟨⟨@aactE.eq_8,@aactE.eq_9⟩,⟨@aactE.eq_10,@aactE.eq_11⟩⟩,⟨⟨@aactE.eq_12,@aactE.eq_13⟩,⟨@aactE.eq_14,⟨@aactE.eq_15,@aactE.eq_16⟩⟩⟩⟩⟩,⟨⟨⟨⟨@aactE.eq_17,@aactE.eq_18⟩,⟨@aactE.eq_19,@aactE.eq_20⟩⟩,⟨⟨@aactE.eq_21,@evPE.eq_1⟩,⟨@evPE.eq_2,⟨@boundE.eq_1,@boundE.eq_2⟩⟩⟩⟩,⟨⟨⟨@asNat.eq_1,@readC.eq_1⟩,⟨@allOne.eq_1,@allOne.eq_2⟩⟩,⟨⟨@fillL.eq_1,@fillL.eq_2⟩,⟨@resE.eq_1,⟨@resE.eq_2,@resE.eq_3⟩⟩⟩⟩⟩⟩⟩
theorem wk:((((type_of% @wk1)/\(type_of% @wk2))/\((type_of% @wk3)/\(type_of% @wk4)))/\(((type_of% @wk5)/\(type_of% @wk6))/\((type_of% @wk7)/\((type_of% @wkl)/\(type_of% @wkd))))):=
 ⟨⟨⟨wk1,wk2⟩,⟨wk3,wk4⟩⟩,⟨⟨wk5,wk6⟩,⟨wk7,⟨wkl,wkd⟩⟩⟩⟩
theorem en:((((type_of% @upd_app)/\((type_of% @updD_some)/\(type_of% @updD_none)))/\((type_of% @if_true.{1})/\((type_of% @if_false.{1})/\(type_of% @List.length_append.{0}))))/\(((type_of% @List.length_cons.{0})/\((type_of% @List.length_nil.{0})/\(type_of% @Nat.zero_add)))/\(((type_of% @Nat.add_zero)/\(type_of% @cast_succ))/\((type_of% @argE_zero)/\(type_of% @argE_succ))))):=
 ⟨⟨⟨@upd_app,⟨@updD_some,@updD_none⟩⟩,⟨@if_true.{1},⟨@if_false.{1},@List.length_append.{0}⟩⟩⟩,⟨⟨@List.length_cons.{0},⟨@List.length_nil.{0},@Nat.zero_add⟩⟩,⟨⟨@Nat.add_zero,@cast_succ⟩,⟨@argE_zero,@argE_succ⟩⟩⟩⟩
end Go.Am
