/- THE RULES OF A WALK, put together. No condition. -/
import Derived.Test.YtephfpdnhdpmkaaGreatDoorAmRng
open Int (reduceEq)
open Nat (reduceEqDiff reduceAdd reduceMul reduceLT reduceLeDiff)
set_option linter.all false
namespace Go.Am
open Go
set_option maxRecDepth 10000
theorem wk1:((((((type_of% @AG)∧
 (type_of% @vk))∧
 ((type_of% @sP)∧
 ((type_of% @xC)∧
 (type_of% @wI))))∧
 (((type_of% @AS)∧
 (type_of% @oQ))∧
 ((type_of% @zJ)∧
 ((type_of% @tc)∧
 (type_of% @sM)))))∧
 ((((type_of% @nV)∧
 (type_of% @xv))∧
 ((type_of% @rZ)∧
 ((type_of% @oT)∧
 (type_of% @nU))))∧
 (((type_of% @ya)∧
 (type_of% @xA))∧
 ((type_of% @jY)∧
 ((type_of% @jZ)∧
 (type_of% @ml))))))∧
 (((((type_of% @jf)∧
 (type_of% @jh))∧
 ((type_of% @jm)∧
 ((type_of% @kr)∧
 (type_of% @iV))))∧
 (((type_of% @ju)∧
 (type_of% @mh))∧
 ((type_of% @lN)∧
 ((type_of% @nF)∧
 (type_of% @ki)))))∧
 ((((type_of% @ji)∧
 (type_of% @lJ))∧
 ((type_of% @nQ)∧
 ((type_of% @kh)∧
 (type_of% @FY))))∧
 (((type_of% @Kn)∧
 (type_of% @AM))∧
 ((type_of% @vh)∧
 ((type_of% @sE)∧
 (type_of% @sU))))))):=
 ⟨⟨⟨⟨⟨@AG,
 @vk⟩,
 ⟨@sP,
 ⟨@xC,
 @wI⟩⟩⟩,
 ⟨⟨@AS,
 @oQ⟩,
 ⟨@zJ,
 ⟨@tc,
 @sM⟩⟩⟩⟩,
 ⟨⟨⟨@nV,
 @xv⟩,
 ⟨@rZ,
 ⟨@oT,
 @nU⟩⟩⟩,
 ⟨⟨@ya,
 @xA⟩,
 ⟨@jY,
 ⟨@jZ,
 @ml⟩⟩⟩⟩⟩,
 ⟨⟨⟨⟨@jf,
 @jh⟩,
 ⟨@jm,
 ⟨@kr,
 @iV⟩⟩⟩,
 ⟨⟨@ju,
 @mh⟩,
 ⟨@lN,
 ⟨@nF,
 @ki⟩⟩⟩⟩,
 ⟨⟨⟨@ji,
 @lJ⟩,
 ⟨@nQ,
 ⟨@kh,
 @FY⟩⟩⟩,
 ⟨⟨@Kn,
 @AM⟩,
 ⟨@vh,
 ⟨@sE,
 @sU⟩⟩⟩⟩⟩⟩
theorem wk2:((((((type_of% @KR)∧
 (type_of% @zB))∧
 ((type_of% @G9)∧
 ((type_of% @A7)∧
 (type_of% @EN))))∧
 (((type_of% @xg)∧
 (type_of% @C7))∧
 ((type_of% @Ef)∧
 ((type_of% @GQ)∧
 (type_of% @KI)))))∧
 ((((type_of% @z7)∧
 (type_of% @zT))∧
 ((type_of% @Aj)∧
 ((type_of% @s7)∧
 (type_of% @pV))))∧
 (((type_of% @ES)∧
 (type_of% @v8))∧
 ((type_of% @wE)∧
 ((type_of% @zW)∧
 (type_of% @FZ))))))∧
 (((((type_of% @xt)∧
 (type_of% @vL))∧
 ((type_of% @Fh)∧
 ((type_of% @vw)∧
 (type_of% @xm))))∧
 (((type_of% @vA)∧
 (type_of% @sD))∧
 ((type_of% @oV)∧
 ((type_of% @oG)∧
 (type_of% @AO)))))∧
 ((((type_of% @nB)∧
 (type_of% @u6))∧
 ((type_of% @pM)∧
 ((type_of% @wV)∧
 (type_of% @G8))))∧
 (((type_of% @Bj)∧
 (type_of% @AW))∧
 ((type_of% @vY)∧
 ((type_of% @vq)∧
 (type_of% @xr))))))):=
 ⟨⟨⟨⟨⟨@KR,
 @zB⟩,
 ⟨@G9,
 ⟨@A7,
 @EN⟩⟩⟩,
 ⟨⟨@xg,
 @C7⟩,
 ⟨@Ef,
 ⟨@GQ,
 @KI⟩⟩⟩⟩,
 ⟨⟨⟨@z7,
 @zT⟩,
 ⟨@Aj,
 ⟨@s7,
 @pV⟩⟩⟩,
 ⟨⟨@ES,
 @v8⟩,
 ⟨@wE,
 ⟨@zW,
 @FZ⟩⟩⟩⟩⟩,
 ⟨⟨⟨⟨@xt,
 @vL⟩,
 ⟨@Fh,
 ⟨@vw,
 @xm⟩⟩⟩,
 ⟨⟨@vA,
 @sD⟩,
 ⟨@oV,
 ⟨@oG,
 @AO⟩⟩⟩⟩,
 ⟨⟨⟨@nB,
 @u6⟩,
 ⟨@pM,
 ⟨@wV,
 @G8⟩⟩⟩,
 ⟨⟨@Bj,
 @AW⟩,
 ⟨@vY,
 ⟨@vq,
 @xr⟩⟩⟩⟩⟩⟩
theorem wk3:((((((type_of% @pY)∧
 (type_of% @yc))∧
 ((type_of% @vT)∧
 ((type_of% @AQ)∧
 (type_of% @Ap))))∧
 (((type_of% @Dj)∧
 (type_of% @Ek))∧
 ((type_of% @xW)∧
 ((type_of% @wO)∧
 (type_of% @vc)))))∧
 ((((type_of% @vO)∧
 (type_of% @xl))∧
 ((type_of% @xF)∧
 ((type_of% @wA)∧
 (type_of% @FV))))∧
 (((type_of% @x8)∧
 (type_of% @tB))∧
 ((type_of% @wP)∧
 ((type_of% @xG)∧
 (type_of% @mc))))))∧
 (((((type_of% @rP)∧
 (type_of% @qG))∧
 ((type_of% @oI)∧
 ((type_of% @oZ)∧
 (type_of% @sd))))∧
 (((type_of% @wD)∧
 (type_of% @nH))∧
 ((type_of% @qd)∧
 ((type_of% @yg)∧
 (type_of% @xy)))))∧
 ((((type_of% @Bf)∧
 (type_of% @zN))∧
 ((type_of% @Bk)∧
 ((type_of% @Be)∧
 (type_of% @w6))))∧
 (((type_of% @u9)∧
 (type_of% @xd))∧
 ((type_of% @xZ)∧
 ((type_of% @EI)∧
 (type_of% @sy))))))):=
 ⟨⟨⟨⟨⟨@pY,
 @yc⟩,
 ⟨@vT,
 ⟨@AQ,
 @Ap⟩⟩⟩,
 ⟨⟨@Dj,
 @Ek⟩,
 ⟨@xW,
 ⟨@wO,
 @vc⟩⟩⟩⟩,
 ⟨⟨⟨@vO,
 @xl⟩,
 ⟨@xF,
 ⟨@wA,
 @FV⟩⟩⟩,
 ⟨⟨@x8,
 @tB⟩,
 ⟨@wP,
 ⟨@xG,
 @mc⟩⟩⟩⟩⟩,
 ⟨⟨⟨⟨@rP,
 @qG⟩,
 ⟨@oI,
 ⟨@oZ,
 @sd⟩⟩⟩,
 ⟨⟨@wD,
 @nH⟩,
 ⟨@qd,
 ⟨@yg,
 @xy⟩⟩⟩⟩,
 ⟨⟨⟨@Bf,
 @zN⟩,
 ⟨@Bk,
 ⟨@Be,
 @w6⟩⟩⟩,
 ⟨⟨@u9,
 @xd⟩,
 ⟨@xZ,
 ⟨@EI,
 @sy⟩⟩⟩⟩⟩⟩
theorem wk4:((((((type_of% @qK)∧
 (type_of% @Az))∧
 ((type_of% @nS)∧
 ((type_of% @nJ)∧
 (type_of% @o9))))∧
 (((type_of% @u4)∧
 (type_of% @A6))∧
 ((type_of% @zX)∧
 ((type_of% @vC)∧
 (type_of% @A8)))))∧
 ((((type_of% @pA)∧
 (type_of% @pC))∧
 ((type_of% @pJ)∧
 ((type_of% @si)∧
 (type_of% @tu))))∧
 (((type_of% @x7)∧
 (type_of% @KF))∧
 ((type_of% @zG)∧
 ((type_of% @xL)∧
 (type_of% @tg))))))∧
 (((((type_of% @rK)∧
 (type_of% @KS))∧
 ((type_of% @zF)∧
 ((type_of% @FN)∧
 (type_of% @AD))))∧
 (((type_of% @Fj)∧
 (type_of% @vN))∧
 ((type_of% @GA)∧
 ((type_of% @DW)∧
 (type_of% @ET)))))∧
 ((((type_of% @Kp)∧
 (type_of% @Bg))∧
 ((type_of% @Bh)∧
 ((type_of% @AH)∧
 (type_of% @sO))))∧
 (((type_of% @px)∧
 (type_of% @EM))∧
 ((type_of% @xK)∧
 ((type_of% @wc)∧
 (type_of% @AJ))))))):=
 ⟨⟨⟨⟨⟨@qK,
 @Az⟩,
 ⟨@nS,
 ⟨@nJ,
 @o9⟩⟩⟩,
 ⟨⟨@u4,
 @A6⟩,
 ⟨@zX,
 ⟨@vC,
 @A8⟩⟩⟩⟩,
 ⟨⟨⟨@pA,
 @pC⟩,
 ⟨@pJ,
 ⟨@si,
 @tu⟩⟩⟩,
 ⟨⟨@x7,
 @KF⟩,
 ⟨@zG,
 ⟨@xL,
 @tg⟩⟩⟩⟩⟩,
 ⟨⟨⟨⟨@rK,
 @KS⟩,
 ⟨@zF,
 ⟨@FN,
 @AD⟩⟩⟩,
 ⟨⟨@Fj,
 @vN⟩,
 ⟨@GA,
 ⟨@DW,
 @ET⟩⟩⟩⟩,
 ⟨⟨⟨@Kp,
 @Bg⟩,
 ⟨@Bh,
 ⟨@AH,
 @sO⟩⟩⟩,
 ⟨⟨@px,
 @EM⟩,
 ⟨@xK,
 ⟨@wc,
 @AJ⟩⟩⟩⟩⟩⟩
theorem wk5:((((((type_of% @Gc)∧
 (type_of% @vE))∧
 ((type_of% @sT)∧
 ((type_of% @wo)∧
 (type_of% @qJ))))∧
 (((type_of% @wF)∧
 (type_of% @rJ))∧
 ((type_of% @kG)∧
 ((type_of% @pF)∧
 (type_of% @uZ)))))∧
 ((((type_of% @zP)∧
 (type_of% @zw))∧
 ((type_of% @A5)∧
 ((type_of% @Ax)∧
 (type_of% @wK))))∧
 (((type_of% @wJ)∧
 (type_of% @qF))∧
 ((type_of% @Ky)∧
 ((type_of% @KD)∧
 (type_of% @KA))))))∧
 (((((type_of% @Kj)∧
 (type_of% @GS))∧
 ((type_of% @Eb)∧
 ((type_of% @DB)∧
 (type_of% @D1))))∧
 (((type_of% @rG)∧
 (type_of% @rF))∧
 ((type_of% @wH)∧
 ((type_of% @AZ)∧
 (type_of% @oD)))))∧
 ((((type_of% @jK)∧
 (type_of% @jD))∧
 ((type_of% @AR)∧
 ((type_of% @KU)∧
 (type_of% @jF))))∧
 (((type_of% @jQ)∧
 (type_of% @xU))∧
 ((type_of% @bv_add)∧
 ((type_of% @Fx)∧
 (type_of% @Ed))))))):=
 ⟨⟨⟨⟨⟨@Gc,
 @vE⟩,
 ⟨@sT,
 ⟨@wo,
 @qJ⟩⟩⟩,
 ⟨⟨@wF,
 @rJ⟩,
 ⟨@kG,
 ⟨@pF,
 @uZ⟩⟩⟩⟩,
 ⟨⟨⟨@zP,
 @zw⟩,
 ⟨@A5,
 ⟨@Ax,
 @wK⟩⟩⟩,
 ⟨⟨@wJ,
 @qF⟩,
 ⟨@Ky,
 ⟨@KD,
 @KA⟩⟩⟩⟩⟩,
 ⟨⟨⟨⟨@Kj,
 @GS⟩,
 ⟨@Eb,
 ⟨@DB,
 @D1⟩⟩⟩,
 ⟨⟨@rG,
 @rF⟩,
 ⟨@wH,
 ⟨@AZ,
 @oD⟩⟩⟩⟩,
 ⟨⟨⟨@jK,
 @jD⟩,
 ⟨@AR,
 ⟨@KU,
 @jF⟩⟩⟩,
 ⟨⟨@jQ,
 @xU⟩,
 ⟨@bv_add,
 ⟨@Fx,
 @Ed⟩⟩⟩⟩⟩⟩
theorem wk6:((((((type_of% @Dr)∧
 (type_of% @Dl))∧
 ((type_of% @wrap_i64)∧
 ((type_of% @wrap_u64)∧
 (type_of% @Aw))))∧
 (((type_of% @Ae)∧
 (type_of% @dN))∧
 ((type_of% @mr)∧
 ((type_of% @aL)∧
 (type_of% @vF)))))∧
 ((((type_of% @jI)∧
 (type_of% @Ea))∧
 ((type_of% @Gg)∧
 ((type_of% @DM)∧
 (type_of% @DS))))∧
 (((type_of% @D7)∧
 (type_of% @C8))∧
 ((type_of% @rL)∧
 ((type_of% @oJ)∧
 (type_of% @Ay))))))∧
 (((((type_of% @zy)∧
 (type_of% @o7))∧
 ((type_of% @DX)∧
 ((type_of% @Hk)∧
 (type_of% @xR))))∧
 (((type_of% @Bl)∧
 (type_of% @rT))∧
 ((type_of% @vr)∧
 ((type_of% @xi)∧
 (type_of% @zA)))))∧
 ((((type_of% @An)∧
 (type_of% @Gl))∧
 ((type_of% @x9)∧
 ((type_of% @Av)∧
 (type_of% @vz))))∧
 (((type_of% @Bb)∧
 (type_of% @rN))∧
 ((type_of% @vf)∧
 ((type_of% @tv)∧
 (type_of% @vD))))))):=
 ⟨⟨⟨⟨⟨@Dr,
 @Dl⟩,
 ⟨@wrap_i64,
 ⟨@wrap_u64,
 @Aw⟩⟩⟩,
 ⟨⟨@Ae,
 @dN⟩,
 ⟨@mr,
 ⟨@aL,
 @vF⟩⟩⟩⟩,
 ⟨⟨⟨@jI,
 @Ea⟩,
 ⟨@Gg,
 ⟨@DM,
 @DS⟩⟩⟩,
 ⟨⟨@D7,
 @C8⟩,
 ⟨@rL,
 ⟨@oJ,
 @Ay⟩⟩⟩⟩⟩,
 ⟨⟨⟨⟨@zy,
 @o7⟩,
 ⟨@DX,
 ⟨@Hk,
 @xR⟩⟩⟩,
 ⟨⟨@Bl,
 @rT⟩,
 ⟨@vr,
 ⟨@xi,
 @zA⟩⟩⟩⟩,
 ⟨⟨⟨@An,
 @Gl⟩,
 ⟨@x9,
 ⟨@Av,
 @vz⟩⟩⟩,
 ⟨⟨@Bb,
 @rN⟩,
 ⟨@vf,
 ⟨@tv,
 @vD⟩⟩⟩⟩⟩⟩
theorem wk7:(((((type_of% @zE)∧
 (type_of% @F4))∧
 ((type_of% @vI)∧
 ((type_of% @A0)∧
 (type_of% @vp))))∧
 (((type_of% @AX)∧
 ((type_of% @tj)∧
 (type_of% @xk)))∧
 ((type_of% @pq)∧
 ((type_of% @sA)∧
 (type_of% @r9)))))∧
 ((((type_of% @ye)∧
 (type_of% @zM))∧
 ((type_of% @Gs)∧
 ((type_of% @rH)∧
 (type_of% @vM))))∧
 (((type_of% @flat_agg)∧
 ((type_of% @vV)∧
 (type_of% @rU)))∧
 ((type_of% @xa)∧
 ((type_of% @nP)∧
 (type_of% @pO)))))):=
 ⟨⟨⟨⟨@zE,
 @F4⟩,
 ⟨@vI,
 ⟨@A0,
 @vp⟩⟩⟩,
 ⟨⟨@AX,
 ⟨@tj,
 @xk⟩⟩,
 ⟨@pq,
 ⟨@sA,
 @r9⟩⟩⟩⟩,
 ⟨⟨⟨@ye,
 @zM⟩,
 ⟨@Gs,
 ⟨@rH,
 @vM⟩⟩⟩,
 ⟨⟨@flat_agg,
 ⟨@vV,
 @rU⟩⟩,
 ⟨@xa,
 ⟨@nP,
 @pO⟩⟩⟩⟩⟩
theorem wkl:((((((type_of% @Nat.zero_mul)/\(type_of% @Int.tdiv_eq_ediv_of_nonneg))/\((type_of% @Int.tmod_eq_emod_of_nonneg)/\((type_of% @List.length_append.{0})/\(type_of% @Nat.mul_one))))/\(((type_of% @Bool.not_false)/\((type_of% @Bool.not_true)/\(type_of% @decide_eq_true_eq)))/\((type_of% @Bool.not_eq_true)/\((type_of% @eq_self.{1})/\(type_of% @ne_eq.{1})))))/\((((type_of% @and_true)/\(type_of% @true_and))/\((type_of% @and_self)/\((type_of% @not_true_eq_false)/\(type_of% @not_false_eq_true))))/\(((type_of% @if_true.{1})/\((type_of% @if_false.{1})/\(type_of% @decide_true)))/\((type_of% @decide_false)/\((type_of% @Int.toNat_natCast)/\(type_of% @Int.natCast_nonneg))))))/\(((((type_of% @List.drop_zero.{0})/\(type_of% @List.take_zero.{0}))/\((type_of% @List.take_succ_cons.{0})/\((type_of% @List.drop_succ_cons.{0})/\(type_of% @Bool.and_self))))/\(((type_of% @Bool.and_true)/\((type_of% @Bool.true_and)/\(type_of% @beq_self_eq_true.{0})))/\((type_of% @Nat.one_mul)/\((type_of% @List.drop_nil.{0})/\(type_of% @List.map_nil.{0,0})))))/\((((type_of% @List.map_cons.{0,0})/\((type_of% @Option.map_some.{0,0})/\(type_of% @List.length_nil.{0})))/\((type_of% @List.length_cons.{0})/\((type_of% @Nat.add_zero)/\(type_of% @Nat.sub_zero))))/\(((type_of% @List.nil_append.{0})/\((type_of% @List.cons_append.{0})/\(type_of% @List.getElem?_cons_zero.{0})))/\((type_of% @List.getElem?_cons_succ.{0})/\((type_of% @List.set_cons_zero.{0})/\(type_of% @List.set_cons_succ.{0}))))))):=
 ⟨⟨⟨⟨⟨@Nat.zero_mul,@Int.tdiv_eq_ediv_of_nonneg⟩,⟨@Int.tmod_eq_emod_of_nonneg,⟨@List.length_append.{0},@Nat.mul_one⟩⟩⟩,⟨⟨@Bool.not_false,⟨@Bool.not_true,@decide_eq_true_eq⟩⟩,⟨@Bool.not_eq_true,⟨@eq_self.{1},@ne_eq.{1}⟩⟩⟩⟩,⟨⟨⟨@and_true,@true_and⟩,⟨@and_self,⟨@not_true_eq_false,@not_false_eq_true⟩⟩⟩,⟨⟨@if_true.{1},⟨@if_false.{1},@decide_true⟩⟩,⟨@decide_false,⟨@Int.toNat_natCast,@Int.natCast_nonneg⟩⟩⟩⟩⟩,⟨⟨⟨⟨@List.drop_zero.{0},@List.take_zero.{0}⟩,⟨@List.take_succ_cons.{0},⟨@List.drop_succ_cons.{0},@Bool.and_self⟩⟩⟩,⟨⟨@Bool.and_true,⟨@Bool.true_and,@beq_self_eq_true.{0}⟩⟩,⟨@Nat.one_mul,⟨@List.drop_nil.{0},@List.map_nil.{0,0}⟩⟩⟩⟩,⟨⟨⟨@List.map_cons.{0,0},⟨@Option.map_some.{0,0},@List.length_nil.{0}⟩⟩,⟨@List.length_cons.{0},⟨@Nat.add_zero,@Nat.sub_zero⟩⟩⟩,⟨⟨@List.nil_append.{0},⟨@List.cons_append.{0},@List.getElem?_cons_zero.{0}⟩⟩,⟨@List.getElem?_cons_succ.{0},⟨@List.set_cons_zero.{0},@List.set_cons_succ.{0}⟩⟩⟩⟩⟩⟩
theorem wkd:(((((((type_of% @sL)/\(type_of% @pt))/\((type_of% @aw.eq_1)/\(type_of% @aw.eq_2)))/\(((type_of% @aw.eq_3)/\(type_of% @aw.eq_4))/\((type_of% @aw.eq_5)/\(type_of% @aw.eq_6))))/\((((type_of% @aw.eq_7)/\(type_of% @aw.eq_8))/\((type_of% @aw.eq_9)/\(type_of% @aw.eq_10)))/\(((type_of% @aw.eq_11)/\(type_of% @aw.eq_12))/\((type_of% @aw.eq_13)/\((type_of% @aw.eq_14)/\(type_of% @aw.eq_15))))))/\(((((type_of% @aw.eq_21)/\(type_of% @aw.eq_22))/\((type_of% @aw.eq_23)/\(type_of% @aw.eq_24)))/\(((type_of% @aw.eq_25)/\(type_of% @aw.eq_26))/\((type_of% @aw.eq_27)/\(type_of% @aw.eq_28))))/\((((type_of% @aw.eq_29)/\(type_of% @aw.eq_30))/\((type_of% @aw.eq_31)/\(type_of% @aw.eq_32)))/\(((type_of% @aw.eq_33)/\(type_of% @aw.eq_34))/\((type_of% @aw.eq_35)/\((type_of% @aw.eq_36)/\(type_of% @aw.eq_37)))))))/\((((((type_of% @aw.eq_45)/\(type_of% @a8.eq_1))/\((type_of% @a8.eq_2)/\(type_of% @a8.eq_3)))/\(((type_of% @a8.eq_4)/\(type_of% @a8.eq_5))/\((type_of% @a8.eq_6)/\(type_of% @a8.eq_7))))/\((((type_of% @a8.eq_8)/\(type_of% @a8.eq_9))/\((type_of% @a8.eq_10)/\(type_of% @a8.eq_11)))/\(((type_of% @a8.eq_12)/\(type_of% @a8.eq_13))/\((type_of% @a8.eq_14)/\((type_of% @a8.eq_15)/\(type_of% @a8.eq_16))))))/\(((((type_of% @a8.eq_17)/\(type_of% @a8.eq_18))/\((type_of% @a8.eq_19)/\(type_of% @a8.eq_20)))/\(((type_of% @a8.eq_21)/\(type_of% @qB.eq_1))/\((type_of% @qB.eq_2)/\((type_of% @cJ.eq_1)/\(type_of% @cJ.eq_2)))))/\((((type_of% @asNat.eq_1)/\(type_of% @dK.eq_1))/\((type_of% @aA.eq_1)/\(type_of% @aA.eq_2)))/\(((type_of% @dJ.eq_1)/\(type_of% @dJ.eq_2))/\((type_of% @lQ.eq_1)/\((type_of% @lQ.eq_2)/\(type_of% @lQ.eq_3)))))))):=
 ⟨⟨⟨⟨⟨⟨@sL,@pt⟩,⟨@aw.eq_1,@aw.eq_2⟩⟩,⟨⟨@aw.eq_3,@aw.eq_4⟩,⟨@aw.eq_5,@aw.eq_6⟩⟩⟩,⟨⟨⟨@aw.eq_7,@aw.eq_8⟩,⟨@aw.eq_9,@aw.eq_10⟩⟩,⟨⟨@aw.eq_11,@aw.eq_12⟩,⟨@aw.eq_13,⟨@aw.eq_14,@aw.eq_15⟩⟩⟩⟩⟩,⟨⟨⟨⟨@aw.eq_21,@aw.eq_22⟩,⟨@aw.eq_23,@aw.eq_24⟩⟩,⟨⟨@aw.eq_25,@aw.eq_26⟩,⟨@aw.eq_27,@aw.eq_28⟩⟩⟩,⟨⟨⟨@aw.eq_29,@aw.eq_30⟩,⟨@aw.eq_31,@aw.eq_32⟩⟩,⟨⟨@aw.eq_33,@aw.eq_34⟩,⟨@aw.eq_35,⟨@aw.eq_36,@aw.eq_37⟩⟩⟩⟩⟩⟩,⟨⟨⟨⟨⟨@aw.eq_45,@a8.eq_1⟩,⟨@a8.eq_2,@a8.eq_3⟩⟩,⟨⟨@a8.eq_4,@a8.eq_5⟩,⟨@a8.eq_6,@a8.eq_7⟩⟩⟩,⟨⟨⟨@a8.eq_8,@a8.eq_9⟩,⟨@a8.eq_10,@a8.eq_11⟩⟩,⟨⟨@a8.eq_12,@a8.eq_13⟩,⟨@a8.eq_14,⟨@a8.eq_15,@a8.eq_16⟩⟩⟩⟩⟩,⟨⟨⟨⟨@a8.eq_17,@a8.eq_18⟩,⟨@a8.eq_19,@a8.eq_20⟩⟩,⟨⟨@a8.eq_21,@qB.eq_1⟩,⟨@qB.eq_2,⟨@cJ.eq_1,@cJ.eq_2⟩⟩⟩⟩,⟨⟨⟨@asNat.eq_1,@dK.eq_1⟩,⟨@aA.eq_1,@aA.eq_2⟩⟩,⟨⟨@dJ.eq_1,@dJ.eq_2⟩,⟨@lQ.eq_1,⟨@lQ.eq_2,@lQ.eq_3⟩⟩⟩⟩⟩⟩⟩
theorem wk:((((type_of% @wk1)/\(type_of% @wk2))/\((type_of% @wk3)/\(type_of% @wk4)))/\(((type_of% @wk5)/\(type_of% @wk6))/\((type_of% @wk7)/\((type_of% @wkl)/\(type_of% @wkd))))):=
 ⟨⟨⟨wk1,wk2⟩,⟨wk3,wk4⟩⟩,⟨⟨wk5,wk6⟩,⟨wk7,⟨wkl,wkd⟩⟩⟩⟩
theorem en:((((type_of% @oD)/\((type_of% @jK)/\(type_of% @jD)))/\((type_of% @if_true.{1})/\((type_of% @if_false.{1})/\(type_of% @List.length_append.{0}))))/\(((type_of% @List.length_cons.{0})/\((type_of% @List.length_nil.{0})/\(type_of% @Nat.zero_add)))/\(((type_of% @Nat.add_zero)/\(type_of% @jI))/\((type_of% @jF)/\(type_of% @jQ))))):=
 ⟨⟨⟨@oD,⟨@jK,@jD⟩⟩,⟨@if_true.{1},⟨@if_false.{1},@List.length_append.{0}⟩⟩⟩,⟨⟨@List.length_cons.{0},⟨@List.length_nil.{0},@Nat.zero_add⟩⟩,⟨⟨@Nat.add_zero,@jI⟩,⟨@jF,@jQ⟩⟩⟩⟩
end Go.Am
