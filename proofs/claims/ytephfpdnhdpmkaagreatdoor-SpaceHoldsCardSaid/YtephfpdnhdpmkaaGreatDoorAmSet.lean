/- THE RULES OF A WALK, put together. No condition. -/
import Derived.Test.YtephfpdnhdpmkaaGreatDoorAmRng
open Int (reduceEq)
open Nat (reduceEqDiff reduceAdd reduceMul reduceLT reduceLeDiff)
set_option linter.all false
namespace Go.Am
open Go
set_option maxRecDepth 10000
theorem wk1:((((((type_of% @zY)∧
 (type_of% @xP))∧
 ((type_of% @tT)∧
 ((type_of% @xS)∧
 (type_of% @xy))))∧
 (((type_of% @Af)∧
 (type_of% @o7))∧
 ((type_of% @zW)∧
 ((type_of% @ue)∧
 (type_of% @s7)))))∧
 ((((type_of% @oH)∧
 (type_of% @xk))∧
 ((type_of% @tw)∧
 ((type_of% @pY)∧
 (type_of% @oq))))∧
 (((type_of% @yu)∧
 (type_of% @wC))∧
 ((type_of% @kI)∧
 ((type_of% @kQ)∧
 (type_of% @mw))))))∧
 (((((type_of% @jH)∧
 (type_of% @jP))∧
 ((type_of% @jR)∧
 ((type_of% @kL)∧
 (type_of% @jo))))∧
 (((type_of% @jN)∧
 (type_of% @mE))∧
 ((type_of% @mP)∧
 ((type_of% @n7)∧
 (type_of% @kD)))))∧
 ((((type_of% @jK)∧
 (type_of% @mr))∧
 ((type_of% @oA)∧
 ((type_of% @kC)∧
 (type_of% @Em))))∧
 (((type_of% @K8)∧
 (type_of% @AH))∧
 ((type_of% @v5)∧
 ((type_of% @tP)∧
 (type_of% @r9))))))):=
 ⟨⟨⟨⟨⟨@zY,
 @xP⟩,
 ⟨@tT,
 ⟨@xS,
 @xy⟩⟩⟩,
 ⟨⟨@Af,
 @o7⟩,
 ⟨@zW,
 ⟨@ue,
 @s7⟩⟩⟩⟩,
 ⟨⟨⟨@oH,
 @xk⟩,
 ⟨@tw,
 ⟨@pY,
 @oq⟩⟩⟩,
 ⟨⟨@yu,
 @wC⟩,
 ⟨@kI,
 ⟨@kQ,
 @mw⟩⟩⟩⟩⟩,
 ⟨⟨⟨⟨@jH,
 @jP⟩,
 ⟨@jR,
 ⟨@kL,
 @jo⟩⟩⟩,
 ⟨⟨@jN,
 @mE⟩,
 ⟨@mP,
 ⟨@n7,
 @kD⟩⟩⟩⟩,
 ⟨⟨⟨@jK,
 @mr⟩,
 ⟨@oA,
 ⟨@kC,
 @Em⟩⟩⟩,
 ⟨⟨@K8,
 @AH⟩,
 ⟨@v5,
 ⟨@tP,
 @r9⟩⟩⟩⟩⟩⟩
theorem wk2:((((((type_of% @Ln)∧
 (type_of% @A0))∧
 ((type_of% @Gf)∧
 ((type_of% @AE)∧
 (type_of% @Hq))))∧
 (((type_of% @wh)∧
 (type_of% @D6))∧
 ((type_of% @FO)∧
 ((type_of% @EW)∧
 (type_of% @Lw)))))∧
 ((((type_of% @BJ)∧
 (type_of% @Bq))∧
 ((type_of% @z5)∧
 ((type_of% @tM)∧
 (type_of% @pZ))))∧
 (((type_of% @Hr)∧
 (type_of% @xL))∧
 ((type_of% @yt)∧
 ((type_of% @Bf)∧
 (type_of% @Fq))))))∧
 (((((type_of% @xr)∧
 (type_of% @yv))∧
 ((type_of% @FU)∧
 ((type_of% @vF)∧
 (type_of% @xm))))∧
 (((type_of% @xZ)∧
 (type_of% @tj))∧
 ((type_of% @pR)∧
 ((type_of% @rh)∧
 (type_of% @AB)))))∧
 ((((type_of% @oE)∧
 (type_of% @vE))∧
 ((type_of% @pV)∧
 ((type_of% @wB)∧
 (type_of% @Gr))))∧
 (((type_of% @BB)∧
 (type_of% @Bv))∧
 ((type_of% @vO)∧
 ((type_of% @yK)∧
 (type_of% @wJ))))))):=
 ⟨⟨⟨⟨⟨@Ln,
 @A0⟩,
 ⟨@Gf,
 ⟨@AE,
 @Hq⟩⟩⟩,
 ⟨⟨@wh,
 @D6⟩,
 ⟨@FO,
 ⟨@EW,
 @Lw⟩⟩⟩⟩,
 ⟨⟨⟨@BJ,
 @Bq⟩,
 ⟨@z5,
 ⟨@tM,
 @pZ⟩⟩⟩,
 ⟨⟨@Hr,
 @xL⟩,
 ⟨@yt,
 ⟨@Bf,
 @Fq⟩⟩⟩⟩⟩,
 ⟨⟨⟨⟨@xr,
 @yv⟩,
 ⟨@FU,
 ⟨@vF,
 @xm⟩⟩⟩,
 ⟨⟨@xZ,
 @tj⟩,
 ⟨@pR,
 ⟨@rh,
 @AB⟩⟩⟩⟩,
 ⟨⟨⟨@oE,
 @vE⟩,
 ⟨@pV,
 ⟨@wB,
 @Gr⟩⟩⟩,
 ⟨⟨@BB,
 @Bv⟩,
 ⟨@vO,
 ⟨@yK,
 @wJ⟩⟩⟩⟩⟩⟩
theorem wk3:((((((type_of% @qU)∧
 (type_of% @xV))∧
 ((type_of% @xG)∧
 ((type_of% @Bx)∧
 (type_of% @Ap))))∧
 (((type_of% @Hk)∧
 (type_of% @H5))∧
 ((type_of% @wi)∧
 ((type_of% @vT)∧
 (type_of% @wZ)))))∧
 ((((type_of% @vR)∧
 (type_of% @xw))∧
 ((type_of% @vW)∧
 ((type_of% @wu)∧
 (type_of% @Hp))))∧
 (((type_of% @xc)∧
 (type_of% @tV))∧
 ((type_of% @yc)∧
 ((type_of% @wH)∧
 (type_of% @mW))))))∧
 (((((type_of% @sk)∧
 (type_of% @qR))∧
 ((type_of% @pN)∧
 ((type_of% @ru)∧
 (type_of% @sP))))∧
 (((type_of% @wO)∧
 (type_of% @ov))∧
 ((type_of% @p6)∧
 ((type_of% @yM)∧
 (type_of% @x9)))))∧
 ((((type_of% @AP)∧
 (type_of% @AN))∧
 ((type_of% @z8)∧
 ((type_of% @As)∧
 (type_of% @xf))))∧
 (((type_of% @v7)∧
 (type_of% @wD))∧
 ((type_of% @xI)∧
 ((type_of% @GK)∧
 (type_of% @tv))))))):=
 ⟨⟨⟨⟨⟨@qU,
 @xV⟩,
 ⟨@xG,
 ⟨@Bx,
 @Ap⟩⟩⟩,
 ⟨⟨@Hk,
 @H5⟩,
 ⟨@wi,
 ⟨@vT,
 @wZ⟩⟩⟩⟩,
 ⟨⟨⟨@vR,
 @xw⟩,
 ⟨@vW,
 ⟨@wu,
 @Hp⟩⟩⟩,
 ⟨⟨@xc,
 @tV⟩,
 ⟨@yc,
 ⟨@wH,
 @mW⟩⟩⟩⟩⟩,
 ⟨⟨⟨⟨@sk,
 @qR⟩,
 ⟨@pN,
 ⟨@ru,
 @sP⟩⟩⟩,
 ⟨⟨@wO,
 @ov⟩,
 ⟨@p6,
 ⟨@yM,
 @x9⟩⟩⟩⟩,
 ⟨⟨⟨@AP,
 @AN⟩,
 ⟨@z8,
 ⟨@As,
 @xf⟩⟩⟩,
 ⟨⟨@v7,
 @wD⟩,
 ⟨@xI,
 ⟨@GK,
 @tv⟩⟩⟩⟩⟩⟩
theorem wk4:((((((type_of% @qS)∧
 (type_of% @AU))∧
 ((type_of% @oD)∧
 ((type_of% @oe)∧
 (type_of% @qM))))∧
 (((type_of% @yA)∧
 (type_of% @Be))∧
 ((type_of% @z6)∧
 ((type_of% @xi)∧
 (type_of% @AD)))))∧
 ((((type_of% @qZ)∧
 (type_of% @pQ))∧
 ((type_of% @pP)∧
 ((type_of% @sW)∧
 (type_of% @tO))))∧
 (((type_of% @xj)∧
 (type_of% @LB))∧
 ((type_of% @BR)∧
 ((type_of% @vU)∧
 (type_of% @tE))))))∧
 (((((type_of% @uc)∧
 (type_of% @Lj))∧
 ((type_of% @Aq)∧
 ((type_of% @EM)∧
 (type_of% @AT))))∧
 (((type_of% @Eo)∧
 (type_of% @wK))∧
 ((type_of% @FB)∧
 ((type_of% @Gs)∧
 (type_of% @Hg)))))∧
 ((((type_of% @Lt)∧
 (type_of% @Aj))∧
 ((type_of% @AK)∧
 ((type_of% @Ac)∧
 (type_of% @sV))))∧
 (((type_of% @rG)∧
 (type_of% @Ez))∧
 ((type_of% @xN)∧
 ((type_of% @xR)∧
 (type_of% @BO))))))):=
 ⟨⟨⟨⟨⟨@qS,
 @AU⟩,
 ⟨@oD,
 ⟨@oe,
 @qM⟩⟩⟩,
 ⟨⟨@yA,
 @Be⟩,
 ⟨@z6,
 ⟨@xi,
 @AD⟩⟩⟩⟩,
 ⟨⟨⟨@qZ,
 @pQ⟩,
 ⟨@pP,
 ⟨@sW,
 @tO⟩⟩⟩,
 ⟨⟨@xj,
 @LB⟩,
 ⟨@BR,
 ⟨@vU,
 @tE⟩⟩⟩⟩⟩,
 ⟨⟨⟨⟨@uc,
 @Lj⟩,
 ⟨@Aq,
 ⟨@EM,
 @AT⟩⟩⟩,
 ⟨⟨@Eo,
 @wK⟩,
 ⟨@FB,
 ⟨@Gs,
 @Hg⟩⟩⟩⟩,
 ⟨⟨⟨@Lt,
 @Aj⟩,
 ⟨@AK,
 ⟨@Ac,
 @sV⟩⟩⟩,
 ⟨⟨@rG,
 @Ez⟩,
 ⟨@xN,
 ⟨@xR,
 @BO⟩⟩⟩⟩⟩⟩
theorem wk5:((((((type_of% @Fp)∧
 (type_of% @vY))∧
 ((type_of% @tB)∧
 ((type_of% @yp)∧
 (type_of% @pE))))∧
 (((type_of% @yC)∧
 (type_of% @sJ))∧
 ((type_of% @lq)∧
 ((type_of% @rf)∧
 (type_of% @xO)))))∧
 ((((type_of% @AJ)∧
 (type_of% @Ak))∧
 ((type_of% @Bu)∧
 ((type_of% @BC)∧
 (type_of% @wE))))∧
 (((type_of% @x7)∧
 (type_of% @qI))∧
 ((type_of% @Lk)∧
 ((type_of% @La)∧
 (type_of% @Lr))))))∧
 (((((type_of% @Ll)∧
 (type_of% @Hx))∧
 ((type_of% @HJ)∧
 ((type_of% @Gk)∧
 (type_of% @F1))))∧
 (((type_of% @sj)∧
 (type_of% @sB))∧
 ((type_of% @wQ)∧
 ((type_of% @Aw)∧
 (type_of% @oX)))))∧
 ((((type_of% @jX)∧
 (type_of% @jW))∧
 ((type_of% @oz)∧
 ((type_of% @Lu)∧
 (type_of% @jZ))))∧
 (((type_of% @j7)∧
 (type_of% @yE))∧
 ((type_of% @bv_add)∧
 ((type_of% @HO)∧
 (type_of% @G8))))))):=
 ⟨⟨⟨⟨⟨@Fp,
 @vY⟩,
 ⟨@tB,
 ⟨@yp,
 @pE⟩⟩⟩,
 ⟨⟨@yC,
 @sJ⟩,
 ⟨@lq,
 ⟨@rf,
 @xO⟩⟩⟩⟩,
 ⟨⟨⟨@AJ,
 @Ak⟩,
 ⟨@Bu,
 ⟨@BC,
 @wE⟩⟩⟩,
 ⟨⟨@x7,
 @qI⟩,
 ⟨@Lk,
 ⟨@La,
 @Lr⟩⟩⟩⟩⟩,
 ⟨⟨⟨⟨@Ll,
 @Hx⟩,
 ⟨@HJ,
 ⟨@Gk,
 @F1⟩⟩⟩,
 ⟨⟨@sj,
 @sB⟩,
 ⟨@wQ,
 ⟨@Aw,
 @oX⟩⟩⟩⟩,
 ⟨⟨⟨@jX,
 @jW⟩,
 ⟨@oz,
 ⟨@Lu,
 @jZ⟩⟩⟩,
 ⟨⟨@j7,
 @yE⟩,
 ⟨@bv_add,
 ⟨@HO,
 @G8⟩⟩⟩⟩⟩⟩
theorem wk6:((((((type_of% @HG)∧
 (type_of% @FX))∧
 ((type_of% @wrap_i64)∧
 ((type_of% @wrap_u64)∧
 (type_of% @z7))))∧
 (((type_of% @AM)∧
 (type_of% @ez))∧
 ((type_of% @nF)∧
 ((type_of% @aK)∧
 (type_of% @we)))))∧
 ((((type_of% @kb)∧
 (type_of% @DT))∧
 ((type_of% @Ig)∧
 ((type_of% @Ih)∧
 (type_of% @EZ))))∧
 (((type_of% @HD)∧
 (type_of% @HY))∧
 ((type_of% @tu)∧
 ((type_of% @pD)∧
 (type_of% @A3))))))∧
 (((((type_of% @Bh)∧
 (type_of% @rC))∧
 ((type_of% @ES)∧
 ((type_of% @EP)∧
 (type_of% @ye))))∧
 (((type_of% @o4)∧
 (type_of% @tU))∧
 ((type_of% @yd)∧
 ((type_of% @wa)∧
 (type_of% @BP)))))∧
 ((((type_of% @A4)∧
 (type_of% @u4))∧
 ((type_of% @xt)∧
 ((type_of% @Bl)∧
 (type_of% @vp))))∧
 (((type_of% @Ba)∧
 (type_of% @tQ))∧
 ((type_of% @vL)∧
 ((type_of% @sM)∧
 (type_of% @vr))))))):=
 ⟨⟨⟨⟨⟨@HG,
 @FX⟩,
 ⟨@wrap_i64,
 ⟨@wrap_u64,
 @z7⟩⟩⟩,
 ⟨⟨@AM,
 @ez⟩,
 ⟨@nF,
 ⟨@aK,
 @we⟩⟩⟩⟩,
 ⟨⟨⟨@kb,
 @DT⟩,
 ⟨@Ig,
 ⟨@Ih,
 @EZ⟩⟩⟩,
 ⟨⟨@HD,
 @HY⟩,
 ⟨@tu,
 ⟨@pD,
 @A3⟩⟩⟩⟩⟩,
 ⟨⟨⟨⟨@Bh,
 @rC⟩,
 ⟨@ES,
 ⟨@EP,
 @ye⟩⟩⟩,
 ⟨⟨@o4,
 @tU⟩,
 ⟨@yd,
 ⟨@wa,
 @BP⟩⟩⟩⟩,
 ⟨⟨⟨@A4,
 @u4⟩,
 ⟨@xt,
 ⟨@Bl,
 @vp⟩⟩⟩,
 ⟨⟨@Ba,
 @tQ⟩,
 ⟨@vL,
 ⟨@sM,
 @vr⟩⟩⟩⟩⟩⟩
theorem wk7:(((((type_of% @Bn)∧
 (type_of% @F2))∧
 ((type_of% @yI)∧
 ((type_of% @A8)∧
 (type_of% @xH))))∧
 (((type_of% @zZ)∧
 ((type_of% @r8)∧
 (type_of% @yL)))∧
 ((type_of% @pI)∧
 ((type_of% @sD)∧
 (type_of% @tc)))))∧
 ((((type_of% @vq)∧
 (type_of% @AY))∧
 ((type_of% @HW)∧
 ((type_of% @sw)∧
 (type_of% @vw))))∧
 (((type_of% @flat_agg)∧
 ((type_of% @vC)∧
 (type_of% @r7)))∧
 ((type_of% @xl)∧
 ((type_of% @oj)∧
 (type_of% @pJ)))))):=
 ⟨⟨⟨⟨@Bn,
 @F2⟩,
 ⟨@yI,
 ⟨@A8,
 @xH⟩⟩⟩,
 ⟨⟨@zZ,
 ⟨@r8,
 @yL⟩⟩,
 ⟨@pI,
 ⟨@sD,
 @tc⟩⟩⟩⟩,
 ⟨⟨⟨@vq,
 @AY⟩,
 ⟨@HW,
 ⟨@sw,
 @vw⟩⟩⟩,
 ⟨⟨@flat_agg,
 ⟨@vC,
 @r7⟩⟩,
 ⟨@xl,
 ⟨@oj,
 @pJ⟩⟩⟩⟩⟩
theorem wkl:((((((type_of% @Nat.zero_mul)/\(type_of% @Int.tdiv_eq_ediv_of_nonneg))/\((type_of% @Int.tmod_eq_emod_of_nonneg)/\((type_of% @List.length_append.{0})/\(type_of% @Nat.mul_one))))/\(((type_of% @Bool.not_false)/\((type_of% @Bool.not_true)/\(type_of% @decide_eq_true_eq)))/\((type_of% @Bool.not_eq_true)/\((type_of% @eq_self.{1})/\(type_of% @ne_eq.{1})))))/\((((type_of% @and_true)/\(type_of% @true_and))/\((type_of% @and_self)/\((type_of% @not_true_eq_false)/\(type_of% @not_false_eq_true))))/\(((type_of% @if_true.{1})/\((type_of% @if_false.{1})/\(type_of% @decide_true)))/\((type_of% @decide_false)/\((type_of% @Int.toNat_natCast)/\(type_of% @Int.natCast_nonneg))))))/\(((((type_of% @List.drop_zero.{0})/\(type_of% @List.take_zero.{0}))/\((type_of% @List.take_succ_cons.{0})/\((type_of% @List.drop_succ_cons.{0})/\(type_of% @Bool.and_self))))/\(((type_of% @Bool.and_true)/\((type_of% @Bool.true_and)/\(type_of% @beq_self_eq_true.{0})))/\((type_of% @Nat.one_mul)/\((type_of% @List.drop_nil.{0})/\(type_of% @List.map_nil.{0,0})))))/\((((type_of% @List.map_cons.{0,0})/\((type_of% @Option.map_some.{0,0})/\(type_of% @List.length_nil.{0})))/\((type_of% @List.length_cons.{0})/\((type_of% @Nat.add_zero)/\(type_of% @Nat.sub_zero))))/\(((type_of% @List.nil_append.{0})/\((type_of% @List.cons_append.{0})/\(type_of% @List.getElem?_cons_zero.{0})))/\((type_of% @List.getElem?_cons_succ.{0})/\((type_of% @List.set_cons_zero.{0})/\(type_of% @List.set_cons_succ.{0}))))))):=
 ⟨⟨⟨⟨⟨@Nat.zero_mul,@Int.tdiv_eq_ediv_of_nonneg⟩,⟨@Int.tmod_eq_emod_of_nonneg,⟨@List.length_append.{0},@Nat.mul_one⟩⟩⟩,⟨⟨@Bool.not_false,⟨@Bool.not_true,@decide_eq_true_eq⟩⟩,⟨@Bool.not_eq_true,⟨@eq_self.{1},@ne_eq.{1}⟩⟩⟩⟩,⟨⟨⟨@and_true,@true_and⟩,⟨@and_self,⟨@not_true_eq_false,@not_false_eq_true⟩⟩⟩,⟨⟨@if_true.{1},⟨@if_false.{1},@decide_true⟩⟩,⟨@decide_false,⟨@Int.toNat_natCast,@Int.natCast_nonneg⟩⟩⟩⟩⟩,⟨⟨⟨⟨@List.drop_zero.{0},@List.take_zero.{0}⟩,⟨@List.take_succ_cons.{0},⟨@List.drop_succ_cons.{0},@Bool.and_self⟩⟩⟩,⟨⟨@Bool.and_true,⟨@Bool.true_and,@beq_self_eq_true.{0}⟩⟩,⟨@Nat.one_mul,⟨@List.drop_nil.{0},@List.map_nil.{0,0}⟩⟩⟩⟩,⟨⟨⟨@List.map_cons.{0,0},⟨@Option.map_some.{0,0},@List.length_nil.{0}⟩⟩,⟨@List.length_cons.{0},⟨@Nat.add_zero,@Nat.sub_zero⟩⟩⟩,⟨⟨@List.nil_append.{0},⟨@List.cons_append.{0},@List.getElem?_cons_zero.{0}⟩⟩,⟨@List.getElem?_cons_succ.{0},⟨@List.set_cons_zero.{0},@List.set_cons_succ.{0}⟩⟩⟩⟩⟩⟩
theorem wkd:(((((((type_of% @sC)/\(type_of% @pq))/\((type_of% @aw.eq_1)/\(type_of% @aw.eq_2)))/\(((type_of% @aw.eq_3)/\(type_of% @aw.eq_4))/\((type_of% @aw.eq_5)/\(type_of% @aw.eq_6))))/\((((type_of% @aw.eq_7)/\(type_of% @aw.eq_8))/\((type_of% @aw.eq_9)/\(type_of% @aw.eq_10)))/\(((type_of% @aw.eq_11)/\(type_of% @aw.eq_12))/\((type_of% @aw.eq_13)/\((type_of% @aw.eq_14)/\(type_of% @aw.eq_15))))))/\(((((type_of% @aw.eq_21)/\(type_of% @aw.eq_22))/\((type_of% @aw.eq_23)/\(type_of% @aw.eq_24)))/\(((type_of% @aw.eq_25)/\(type_of% @aw.eq_26))/\((type_of% @aw.eq_27)/\(type_of% @aw.eq_28))))/\((((type_of% @aw.eq_29)/\(type_of% @aw.eq_30))/\((type_of% @aw.eq_31)/\(type_of% @aw.eq_32)))/\(((type_of% @aw.eq_33)/\(type_of% @aw.eq_34))/\((type_of% @aw.eq_35)/\((type_of% @aw.eq_36)/\(type_of% @aw.eq_37)))))))/\((((((type_of% @aw.eq_45)/\(type_of% @a8.eq_1))/\((type_of% @a8.eq_2)/\(type_of% @a8.eq_3)))/\(((type_of% @a8.eq_4)/\(type_of% @a8.eq_5))/\((type_of% @a8.eq_6)/\(type_of% @a8.eq_7))))/\((((type_of% @a8.eq_8)/\(type_of% @a8.eq_9))/\((type_of% @a8.eq_10)/\(type_of% @a8.eq_11)))/\(((type_of% @a8.eq_12)/\(type_of% @a8.eq_13))/\((type_of% @a8.eq_14)/\((type_of% @a8.eq_15)/\(type_of% @a8.eq_16))))))/\(((((type_of% @a8.eq_17)/\(type_of% @a8.eq_18))/\((type_of% @a8.eq_19)/\(type_of% @a8.eq_20)))/\(((type_of% @a8.eq_21)/\(type_of% @qA.eq_1))/\((type_of% @qA.eq_2)/\((type_of% @cQ.eq_1)/\(type_of% @cQ.eq_2)))))/\((((type_of% @asNat.eq_1)/\(type_of% @dZ.eq_1))/\((type_of% @au.eq_1)/\(type_of% @au.eq_2)))/\(((type_of% @dY.eq_1)/\(type_of% @dY.eq_2))/\((type_of% @mq.eq_1)/\((type_of% @mq.eq_2)/\(type_of% @mq.eq_3)))))))):=
 ⟨⟨⟨⟨⟨⟨@sC,@pq⟩,⟨@aw.eq_1,@aw.eq_2⟩⟩,⟨⟨@aw.eq_3,@aw.eq_4⟩,⟨@aw.eq_5,@aw.eq_6⟩⟩⟩,⟨⟨⟨@aw.eq_7,@aw.eq_8⟩,⟨@aw.eq_9,@aw.eq_10⟩⟩,⟨⟨@aw.eq_11,@aw.eq_12⟩,⟨@aw.eq_13,⟨@aw.eq_14,@aw.eq_15⟩⟩⟩⟩⟩,⟨⟨⟨⟨@aw.eq_21,@aw.eq_22⟩,⟨@aw.eq_23,@aw.eq_24⟩⟩,⟨⟨@aw.eq_25,@aw.eq_26⟩,⟨@aw.eq_27,@aw.eq_28⟩⟩⟩,⟨⟨⟨@aw.eq_29,@aw.eq_30⟩,⟨@aw.eq_31,@aw.eq_32⟩⟩,⟨⟨@aw.eq_33,@aw.eq_34⟩,⟨@aw.eq_35,⟨@aw.eq_36,@aw.eq_37⟩⟩⟩⟩⟩⟩,⟨⟨⟨⟨⟨@aw.eq_45,@a8.eq_1⟩,⟨@a8.eq_2,@a8.eq_3⟩⟩,⟨⟨@a8.eq_4,@a8.eq_5⟩,⟨@a8.eq_6,@a8.eq_7⟩⟩⟩,⟨⟨⟨@a8.eq_8,@a8.eq_9⟩,⟨@a8.eq_10,@a8.eq_11⟩⟩,⟨⟨@a8.eq_12,@a8.eq_13⟩,⟨@a8.eq_14,⟨@a8.eq_15,@a8.eq_16⟩⟩⟩⟩⟩,⟨⟨⟨⟨@a8.eq_17,@a8.eq_18⟩,⟨@a8.eq_19,@a8.eq_20⟩⟩,⟨⟨@a8.eq_21,@qA.eq_1⟩,⟨@qA.eq_2,⟨@cQ.eq_1,@cQ.eq_2⟩⟩⟩⟩,⟨⟨⟨@asNat.eq_1,@dZ.eq_1⟩,⟨@au.eq_1,@au.eq_2⟩⟩,⟨⟨@dY.eq_1,@dY.eq_2⟩,⟨@mq.eq_1,⟨@mq.eq_2,@mq.eq_3⟩⟩⟩⟩⟩⟩⟩
theorem wk:((((type_of% @wk1)/\(type_of% @wk2))/\((type_of% @wk3)/\(type_of% @wk4)))/\(((type_of% @wk5)/\(type_of% @wk6))/\((type_of% @wk7)/\((type_of% @wkl)/\(type_of% @wkd))))):=
 ⟨⟨⟨wk1,wk2⟩,⟨wk3,wk4⟩⟩,⟨⟨wk5,wk6⟩,⟨wk7,⟨wkl,wkd⟩⟩⟩⟩
theorem en:((((type_of% @oX)/\((type_of% @jX)/\(type_of% @jW)))/\((type_of% @if_true.{1})/\((type_of% @if_false.{1})/\(type_of% @List.length_append.{0}))))/\(((type_of% @List.length_cons.{0})/\((type_of% @List.length_nil.{0})/\(type_of% @Nat.zero_add)))/\(((type_of% @Nat.add_zero)/\(type_of% @kb))/\((type_of% @jZ)/\(type_of% @j7))))):=
 ⟨⟨⟨@oX,⟨@jX,@jW⟩⟩,⟨@if_true.{1},⟨@if_false.{1},@List.length_append.{0}⟩⟩⟩,⟨⟨@List.length_cons.{0},⟨@List.length_nil.{0},@Nat.zero_add⟩⟩,⟨⟨@Nat.add_zero,@kb⟩,⟨@jZ,@j7⟩⟩⟩⟩
end Go.Am
