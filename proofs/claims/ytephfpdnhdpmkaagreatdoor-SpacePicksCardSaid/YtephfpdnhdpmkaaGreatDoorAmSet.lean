/- THE RULES OF A WALK, put together. No condition. -/
import Derived.Test.YtephfpdnhdpmkaaGreatDoorAmRng
open Int (reduceEq)
open Nat (reduceEqDiff reduceAdd reduceMul reduceLT reduceLeDiff)
set_option linter.all false
namespace Go.Am
open Go
set_option maxRecDepth 10000
theorem wk1:((((((type_of% @BN)∧
 (type_of% @yR))∧
 ((type_of% @ta)∧
 ((type_of% @yI)∧
 (type_of% @xh))))∧
 (((type_of% @Ae)∧
 (type_of% @pE))∧
 ((type_of% @Br)∧
 ((type_of% @tT)∧
 (type_of% @sD)))))∧
 ((((type_of% @oR)∧
 (type_of% @yE))∧
 ((type_of% @sS)∧
 ((type_of% @rh)∧
 (type_of% @oG))))∧
 (((type_of% @wi)∧
 (type_of% @xt))∧
 ((type_of% @kM)∧
 ((type_of% @kE)∧
 (type_of% @mM))))))∧
 (((((type_of% @jA)∧
 (type_of% @jL))∧
 ((type_of% @jB)∧
 ((type_of% @kQ)∧
 (type_of% @js))))∧
 (((type_of% @jH)∧
 (type_of% @mH))∧
 ((type_of% @l6)∧
 ((type_of% @oz)∧
 (type_of% @kL)))))∧
 ((((type_of% @jD)∧
 (type_of% @mD))∧
 ((type_of% @oE)∧
 ((type_of% @kC)∧
 (type_of% @Ir))))∧
 (((type_of% @Lk)∧
 (type_of% @AW))∧
 ((type_of% @v7)∧
 ((type_of% @tD)∧
 (type_of% @tP))))))):=
 ⟨⟨⟨⟨⟨@BN,
 @yR⟩,
 ⟨@ta,
 ⟨@yI,
 @xh⟩⟩⟩,
 ⟨⟨@Ae,
 @pE⟩,
 ⟨@Br,
 ⟨@tT,
 @sD⟩⟩⟩⟩,
 ⟨⟨⟨@oR,
 @yE⟩,
 ⟨@sS,
 ⟨@rh,
 @oG⟩⟩⟩,
 ⟨⟨@wi,
 @xt⟩,
 ⟨@kM,
 ⟨@kE,
 @mM⟩⟩⟩⟩⟩,
 ⟨⟨⟨⟨@jA,
 @jL⟩,
 ⟨@jB,
 ⟨@kQ,
 @js⟩⟩⟩,
 ⟨⟨@jH,
 @mH⟩,
 ⟨@l6,
 ⟨@oz,
 @kL⟩⟩⟩⟩,
 ⟨⟨⟨@jD,
 @mD⟩,
 ⟨@oE,
 ⟨@kC,
 @Ir⟩⟩⟩,
 ⟨⟨@Lk,
 @AW⟩,
 ⟨@v7,
 ⟨@tD,
 @tP⟩⟩⟩⟩⟩⟩
theorem wk2:((((((type_of% @Lh)∧
 (type_of% @Bp))∧
 ((type_of% @Iq)∧
 ((type_of% @Av)∧
 (type_of% @GJ))))∧
 (((type_of% @wS)∧
 (type_of% @FR))∧
 ((type_of% @Hb)∧
 ((type_of% @H8)∧
 (type_of% @Lp)))))∧
 ((((type_of% @BF)∧
 (type_of% @AA))∧
 ((type_of% @AH)∧
 ((type_of% @sL)∧
 (type_of% @pL))))∧
 (((type_of% @Io)∧
 (type_of% @v8))∧
 ((type_of% @v5)∧
 ((type_of% @AT)∧
 (type_of% @Ih))))))∧
 (((((type_of% @w7)∧
 (type_of% @w6))∧
 ((type_of% @Ek)∧
 ((type_of% @xK)∧
 (type_of% @x7))))∧
 (((type_of% @xS)∧
 (type_of% @tC))∧
 ((type_of% @qJ)∧
 ((type_of% @pU)∧
 (type_of% @Bo)))))∧
 ((((type_of% @oK)∧
 (type_of% @xm))∧
 ((type_of% @pM)∧
 ((type_of% @vx)∧
 (type_of% @DG))))∧
 (((type_of% @z7)∧
 (type_of% @AM))∧
 ((type_of% @wB)∧
 ((type_of% @yJ)∧
 (type_of% @vF))))))):=
 ⟨⟨⟨⟨⟨@Lh,
 @Bp⟩,
 ⟨@Iq,
 ⟨@Av,
 @GJ⟩⟩⟩,
 ⟨⟨@wS,
 @FR⟩,
 ⟨@Hb,
 ⟨@H8,
 @Lp⟩⟩⟩⟩,
 ⟨⟨⟨@BF,
 @AA⟩,
 ⟨@AH,
 ⟨@sL,
 @pL⟩⟩⟩,
 ⟨⟨@Io,
 @v8⟩,
 ⟨@v5,
 ⟨@AT,
 @Ih⟩⟩⟩⟩⟩,
 ⟨⟨⟨⟨@w7,
 @w6⟩,
 ⟨@Ek,
 ⟨@xK,
 @x7⟩⟩⟩,
 ⟨⟨@xS,
 @tC⟩,
 ⟨@qJ,
 ⟨@pU,
 @Bo⟩⟩⟩⟩,
 ⟨⟨⟨@oK,
 @xm⟩,
 ⟨@pM,
 ⟨@vx,
 @DG⟩⟩⟩,
 ⟨⟨@z7,
 @AM⟩,
 ⟨@wB,
 ⟨@yJ,
 @vF⟩⟩⟩⟩⟩⟩
theorem wk3:((((((type_of% @qv)∧
 (type_of% @xq))∧
 ((type_of% @xR)∧
 ((type_of% @Bx)∧
 (type_of% @A7))))∧
 (((type_of% @Hv)∧
 (type_of% @HD))∧
 ((type_of% @yN)∧
 ((type_of% @xz)∧
 (type_of% @yd)))))∧
 ((((type_of% @yu)∧
 (type_of% @yc))∧
 ((type_of% @xZ)∧
 ((type_of% @xU)∧
 (type_of% @Ew))))∧
 (((type_of% @xY)∧
 (type_of% @tH))∧
 ((type_of% @xT)∧
 ((type_of% @yy)∧
 (type_of% @mF))))))∧
 (((((type_of% @s5)∧
 (type_of% @rM))∧
 ((type_of% @kW)∧
 ((type_of% @k7)∧
 (type_of% @sB))))∧
 (((type_of% @wO)∧
 (type_of% @oi))∧
 ((type_of% @pT)∧
 ((type_of% @xy)∧
 (type_of% @vy)))))∧
 ((((type_of% @By)∧
 (type_of% @AI))∧
 ((type_of% @Af)∧
 ((type_of% @Ab)∧
 (type_of% @xl))))∧
 (((type_of% @wE)∧
 (type_of% @xi))∧
 ((type_of% @xC)∧
 ((type_of% @EK)∧
 (type_of% @sZ))))))):=
 ⟨⟨⟨⟨⟨@qv,
 @xq⟩,
 ⟨@xR,
 ⟨@Bx,
 @A7⟩⟩⟩,
 ⟨⟨@Hv,
 @HD⟩,
 ⟨@yN,
 ⟨@xz,
 @yd⟩⟩⟩⟩,
 ⟨⟨⟨@yu,
 @yc⟩,
 ⟨@xZ,
 ⟨@xU,
 @Ew⟩⟩⟩,
 ⟨⟨@xY,
 @tH⟩,
 ⟨@xT,
 ⟨@yy,
 @mF⟩⟩⟩⟩⟩,
 ⟨⟨⟨⟨@s5,
 @rM⟩,
 ⟨@kW,
 ⟨@k7,
 @sB⟩⟩⟩,
 ⟨⟨@wO,
 @oi⟩,
 ⟨@pT,
 ⟨@xy,
 @vy⟩⟩⟩⟩,
 ⟨⟨⟨@By,
 @AI⟩,
 ⟨@Af,
 ⟨@Ab,
 @xl⟩⟩⟩,
 ⟨⟨@wE,
 @xi⟩,
 ⟨@xC,
 ⟨@EK,
 @sZ⟩⟩⟩⟩⟩⟩
theorem wk4:((((((type_of% @ry)∧
 (type_of% @BJ))∧
 ((type_of% @oM)∧
 ((type_of% @oP)∧
 (type_of% @qC))))∧
 (((type_of% @x6)∧
 (type_of% @Bt))∧
 ((type_of% @An)∧
 ((type_of% @xd)∧
 (type_of% @AU)))))∧
 ((((type_of% @rb)∧
 (type_of% @qH))∧
 ((type_of% @pJ)∧
 ((type_of% @tU)∧
 (type_of% @ue))))∧
 (((type_of% @x8)∧
 (type_of% @Lt))∧
 ((type_of% @A4)∧
 ((type_of% @wV)∧
 (type_of% @tK))))))∧
 (((((type_of% @sN)∧
 (type_of% @Lv))∧
 ((type_of% @Bd)∧
 ((type_of% @ER)∧
 (type_of% @Bl))))∧
 (((type_of% @Et)∧
 (type_of% @vr))∧
 ((type_of% @G4)∧
 ((type_of% @EH)∧
 (type_of% @GW)))))∧
 ((((type_of% @Lm)∧
 (type_of% @Bn))∧
 ((type_of% @Aa)∧
 ((type_of% @Bv)∧
 (type_of% @sF))))∧
 (((type_of% @qT)∧
 (type_of% @Fp))∧
 ((type_of% @vV)∧
 ((type_of% @xO)∧
 (type_of% @Bm))))))):=
 ⟨⟨⟨⟨⟨@ry,
 @BJ⟩,
 ⟨@oM,
 ⟨@oP,
 @qC⟩⟩⟩,
 ⟨⟨@x6,
 @Bt⟩,
 ⟨@An,
 ⟨@xd,
 @AU⟩⟩⟩⟩,
 ⟨⟨⟨@rb,
 @qH⟩,
 ⟨@pJ,
 ⟨@tU,
 @ue⟩⟩⟩,
 ⟨⟨@x8,
 @Lt⟩,
 ⟨@A4,
 ⟨@wV,
 @tK⟩⟩⟩⟩⟩,
 ⟨⟨⟨⟨@sN,
 @Lv⟩,
 ⟨@Bd,
 ⟨@ER,
 @Bl⟩⟩⟩,
 ⟨⟨@Et,
 @vr⟩,
 ⟨@G4,
 ⟨@EH,
 @GW⟩⟩⟩⟩,
 ⟨⟨⟨@Lm,
 @Bn⟩,
 ⟨@Aa,
 ⟨@Bv,
 @sF⟩⟩⟩,
 ⟨⟨@qT,
 @Fp⟩,
 ⟨@vV,
 ⟨@xO,
 @Bm⟩⟩⟩⟩⟩⟩
theorem wk5:((((((type_of% @Gs)∧
 (type_of% @yM))∧
 ((type_of% @si)∧
 ((type_of% @wM)∧
 (type_of% @rD))))∧
 (((type_of% @vQ)∧
 (type_of% @sW))∧
 ((type_of% @lD)∧
 ((type_of% @qM)∧
 (type_of% @vW)))))∧
 ((((type_of% @z8)∧
 (type_of% @BB))∧
 ((type_of% @BD)∧
 ((type_of% @Aq)∧
 (type_of% @xB))))∧
 (((type_of% @wD)∧
 (type_of% @rH))∧
 ((type_of% @Ln)∧
 ((type_of% @Lf)∧
 (type_of% @Lj))))))∧
 (((((type_of% @LC)∧
 (type_of% @DU))∧
 ((type_of% @HU)∧
 ((type_of% @EO)∧
 (type_of% @Hh))))∧
 (((type_of% @sd)∧
 (type_of% @tO))∧
 ((type_of% @vR)∧
 ((type_of% @Al)∧
 (type_of% @o7)))))∧
 ((((type_of% @j8)∧
 (type_of% @kg))∧
 ((type_of% @pS)∧
 ((type_of% @LB)∧
 (type_of% @ko))))∧
 (((type_of% @kb)∧
 (type_of% @vE))∧
 ((type_of% @bv_add)∧
 ((type_of% @D1)∧
 (type_of% @Eo))))))):=
 ⟨⟨⟨⟨⟨@Gs,
 @yM⟩,
 ⟨@si,
 ⟨@wM,
 @rD⟩⟩⟩,
 ⟨⟨@vQ,
 @sW⟩,
 ⟨@lD,
 ⟨@qM,
 @vW⟩⟩⟩⟩,
 ⟨⟨⟨@z8,
 @BB⟩,
 ⟨@BD,
 ⟨@Aq,
 @xB⟩⟩⟩,
 ⟨⟨@wD,
 @rH⟩,
 ⟨@Ln,
 ⟨@Lf,
 @Lj⟩⟩⟩⟩⟩,
 ⟨⟨⟨⟨@LC,
 @DU⟩,
 ⟨@HU,
 ⟨@EO,
 @Hh⟩⟩⟩,
 ⟨⟨@sd,
 @tO⟩,
 ⟨@vR,
 ⟨@Al,
 @o7⟩⟩⟩⟩,
 ⟨⟨⟨@j8,
 @kg⟩,
 ⟨@pS,
 ⟨@LB,
 @ko⟩⟩⟩,
 ⟨⟨@kb,
 @vE⟩,
 ⟨@bv_add,
 ⟨@D1,
 @Eo⟩⟩⟩⟩⟩⟩
theorem wk6:((((((type_of% @EU)∧
 (type_of% @DE))∧
 ((type_of% @wrap_i64)∧
 ((type_of% @wrap_u64)∧
 (type_of% @Bu))))∧
 (((type_of% @AJ)∧
 (type_of% @eE))∧
 ((type_of% @nL)∧
 ((type_of% @aK)∧
 (type_of% @yt)))))∧
 ((((type_of% @kr)∧
 (type_of% @Fl))∧
 ((type_of% @Im)∧
 ((type_of% @Gl)∧
 (type_of% @Gi))))∧
 (((type_of% @DH)∧
 (type_of% @F8))∧
 ((type_of% @tI)∧
 ((type_of% @qQ)∧
 (type_of% @Bj))))))∧
 (((((type_of% @AF)∧
 (type_of% @qS))∧
 ((type_of% @DS)∧
 ((type_of% @Em)∧
 (type_of% @wG))))∧
 (((type_of% @vg)∧
 (type_of% @tu))∧
 ((type_of% @x9)∧
 ((type_of% @wz)∧
 (type_of% @AN)))))∧
 ((((type_of% @Au)∧
 (type_of% @zl))∧
 ((type_of% @xW)∧
 ((type_of% @BC)∧
 (type_of% @yf))))∧
 (((type_of% @A8)∧
 (type_of% @sY))∧
 ((type_of% @xN)∧
 ((type_of% @sg)∧
 (type_of% @wF))))))):=
 ⟨⟨⟨⟨⟨@EU,
 @DE⟩,
 ⟨@wrap_i64,
 ⟨@wrap_u64,
 @Bu⟩⟩⟩,
 ⟨⟨@AJ,
 @eE⟩,
 ⟨@nL,
 ⟨@aK,
 @yt⟩⟩⟩⟩,
 ⟨⟨⟨@kr,
 @Fl⟩,
 ⟨@Im,
 ⟨@Gl,
 @Gi⟩⟩⟩,
 ⟨⟨@DH,
 @F8⟩,
 ⟨@tI,
 ⟨@qQ,
 @Bj⟩⟩⟩⟩⟩,
 ⟨⟨⟨⟨@AF,
 @qS⟩,
 ⟨@DS,
 ⟨@Em,
 @wG⟩⟩⟩,
 ⟨⟨@vg,
 @tu⟩,
 ⟨@x9,
 ⟨@wz,
 @AN⟩⟩⟩⟩,
 ⟨⟨⟨@Au,
 @zl⟩,
 ⟨@xW,
 ⟨@BC,
 @yf⟩⟩⟩,
 ⟨⟨@A8,
 @sY⟩,
 ⟨@xN,
 ⟨@sg,
 @wF⟩⟩⟩⟩⟩⟩
theorem wk7:(((((type_of% @Bb)∧
 (type_of% @Ie))∧
 ((type_of% @xw)∧
 ((type_of% @AB)∧
 (type_of% @vu))))∧
 (((type_of% @Ak)∧
 ((type_of% @ug)∧
 (type_of% @wX)))∧
 ((type_of% @qh)∧
 ((type_of% @sy)∧
 (type_of% @sA)))))∧
 ((((type_of% @wU)∧
 (type_of% @A6))∧
 ((type_of% @F2)∧
 ((type_of% @tJ)∧
 (type_of% @xI))))∧
 (((type_of% @flat_agg)∧
 ((type_of% @vH)∧
 (type_of% @sR)))∧
 ((type_of% @xJ)∧
 ((type_of% @oQ)∧
 (type_of% @pH)))))):=
 ⟨⟨⟨⟨@Bb,
 @Ie⟩,
 ⟨@xw,
 ⟨@AB,
 @vu⟩⟩⟩,
 ⟨⟨@Ak,
 ⟨@ug,
 @wX⟩⟩,
 ⟨@qh,
 ⟨@sy,
 @sA⟩⟩⟩⟩,
 ⟨⟨⟨@wU,
 @A6⟩,
 ⟨@F2,
 ⟨@tJ,
 @xI⟩⟩⟩,
 ⟨⟨@flat_agg,
 ⟨@vH,
 @sR⟩⟩,
 ⟨@xJ,
 ⟨@oQ,
 @pH⟩⟩⟩⟩⟩
theorem wkl:((((((type_of% @Nat.zero_mul)/\(type_of% @Int.tdiv_eq_ediv_of_nonneg))/\((type_of% @Int.tmod_eq_emod_of_nonneg)/\((type_of% @List.length_append.{0})/\(type_of% @Nat.mul_one))))/\(((type_of% @Bool.not_false)/\((type_of% @Bool.not_true)/\(type_of% @decide_eq_true_eq)))/\((type_of% @Bool.not_eq_true)/\((type_of% @eq_self.{1})/\(type_of% @ne_eq.{1})))))/\((((type_of% @and_true)/\(type_of% @true_and))/\((type_of% @and_self)/\((type_of% @not_true_eq_false)/\(type_of% @not_false_eq_true))))/\(((type_of% @if_true.{1})/\((type_of% @if_false.{1})/\(type_of% @decide_true)))/\((type_of% @decide_false)/\((type_of% @Int.toNat_natCast)/\(type_of% @Int.natCast_nonneg))))))/\(((((type_of% @List.drop_zero.{0})/\(type_of% @List.take_zero.{0}))/\((type_of% @List.take_succ_cons.{0})/\((type_of% @List.drop_succ_cons.{0})/\(type_of% @Bool.and_self))))/\(((type_of% @Bool.and_true)/\((type_of% @Bool.true_and)/\(type_of% @beq_self_eq_true.{0})))/\((type_of% @Nat.one_mul)/\((type_of% @List.drop_nil.{0})/\(type_of% @List.map_nil.{0,0})))))/\((((type_of% @List.map_cons.{0,0})/\((type_of% @Option.map_some.{0,0})/\(type_of% @List.length_nil.{0})))/\((type_of% @List.length_cons.{0})/\((type_of% @Nat.add_zero)/\(type_of% @Nat.sub_zero))))/\(((type_of% @List.nil_append.{0})/\((type_of% @List.cons_append.{0})/\(type_of% @List.getElem?_cons_zero.{0})))/\((type_of% @List.getElem?_cons_succ.{0})/\((type_of% @List.set_cons_zero.{0})/\(type_of% @List.set_cons_succ.{0}))))))):=
 ⟨⟨⟨⟨⟨@Nat.zero_mul,@Int.tdiv_eq_ediv_of_nonneg⟩,⟨@Int.tmod_eq_emod_of_nonneg,⟨@List.length_append.{0},@Nat.mul_one⟩⟩⟩,⟨⟨@Bool.not_false,⟨@Bool.not_true,@decide_eq_true_eq⟩⟩,⟨@Bool.not_eq_true,⟨@eq_self.{1},@ne_eq.{1}⟩⟩⟩⟩,⟨⟨⟨@and_true,@true_and⟩,⟨@and_self,⟨@not_true_eq_false,@not_false_eq_true⟩⟩⟩,⟨⟨@if_true.{1},⟨@if_false.{1},@decide_true⟩⟩,⟨@decide_false,⟨@Int.toNat_natCast,@Int.natCast_nonneg⟩⟩⟩⟩⟩,⟨⟨⟨⟨@List.drop_zero.{0},@List.take_zero.{0}⟩,⟨@List.take_succ_cons.{0},⟨@List.drop_succ_cons.{0},@Bool.and_self⟩⟩⟩,⟨⟨@Bool.and_true,⟨@Bool.true_and,@beq_self_eq_true.{0}⟩⟩,⟨@Nat.one_mul,⟨@List.drop_nil.{0},@List.map_nil.{0,0}⟩⟩⟩⟩,⟨⟨⟨@List.map_cons.{0,0},⟨@Option.map_some.{0,0},@List.length_nil.{0}⟩⟩,⟨@List.length_cons.{0},⟨@Nat.add_zero,@Nat.sub_zero⟩⟩⟩,⟨⟨@List.nil_append.{0},⟨@List.cons_append.{0},@List.getElem?_cons_zero.{0}⟩⟩,⟨@List.getElem?_cons_succ.{0},⟨@List.set_cons_zero.{0},@List.set_cons_succ.{0}⟩⟩⟩⟩⟩⟩
theorem wkd:(((((((type_of% @tg)/\(type_of% @qE))/\((type_of% @aA.eq_1)/\(type_of% @aA.eq_2)))/\(((type_of% @aA.eq_3)/\(type_of% @aA.eq_4))/\((type_of% @aA.eq_5)/\(type_of% @aA.eq_6))))/\((((type_of% @aA.eq_7)/\(type_of% @aA.eq_8))/\((type_of% @aA.eq_9)/\(type_of% @aA.eq_10)))/\(((type_of% @aA.eq_11)/\(type_of% @aA.eq_12))/\((type_of% @aA.eq_13)/\((type_of% @aA.eq_14)/\(type_of% @aA.eq_15))))))/\(((((type_of% @aA.eq_21)/\(type_of% @aA.eq_22))/\((type_of% @aA.eq_23)/\(type_of% @aA.eq_24)))/\(((type_of% @aA.eq_25)/\(type_of% @aA.eq_26))/\((type_of% @aA.eq_27)/\(type_of% @aA.eq_28))))/\((((type_of% @aA.eq_29)/\(type_of% @aA.eq_30))/\((type_of% @aA.eq_31)/\(type_of% @aA.eq_32)))/\(((type_of% @aA.eq_33)/\(type_of% @aA.eq_34))/\((type_of% @aA.eq_35)/\((type_of% @aA.eq_36)/\(type_of% @aA.eq_37)))))))/\((((((type_of% @aA.eq_45)/\(type_of% @a8.eq_1))/\((type_of% @a8.eq_2)/\(type_of% @a8.eq_3)))/\(((type_of% @a8.eq_4)/\(type_of% @a8.eq_5))/\((type_of% @a8.eq_6)/\(type_of% @a8.eq_7))))/\((((type_of% @a8.eq_8)/\(type_of% @a8.eq_9))/\((type_of% @a8.eq_10)/\(type_of% @a8.eq_11)))/\(((type_of% @a8.eq_12)/\(type_of% @a8.eq_13))/\((type_of% @a8.eq_14)/\((type_of% @a8.eq_15)/\(type_of% @a8.eq_16))))))/\(((((type_of% @a8.eq_17)/\(type_of% @a8.eq_18))/\((type_of% @a8.eq_19)/\(type_of% @a8.eq_20)))/\(((type_of% @a8.eq_21)/\(type_of% @pD.eq_1))/\((type_of% @pD.eq_2)/\((type_of% @cO.eq_1)/\(type_of% @cO.eq_2)))))/\((((type_of% @asNat.eq_1)/\(type_of% @dP.eq_1))/\((type_of% @aw.eq_1)/\(type_of% @aw.eq_2)))/\(((type_of% @dV.eq_1)/\(type_of% @dV.eq_2))/\((type_of% @mB.eq_1)/\((type_of% @mB.eq_2)/\(type_of% @mB.eq_3)))))))):=
 ⟨⟨⟨⟨⟨⟨@tg,@qE⟩,⟨@aA.eq_1,@aA.eq_2⟩⟩,⟨⟨@aA.eq_3,@aA.eq_4⟩,⟨@aA.eq_5,@aA.eq_6⟩⟩⟩,⟨⟨⟨@aA.eq_7,@aA.eq_8⟩,⟨@aA.eq_9,@aA.eq_10⟩⟩,⟨⟨@aA.eq_11,@aA.eq_12⟩,⟨@aA.eq_13,⟨@aA.eq_14,@aA.eq_15⟩⟩⟩⟩⟩,⟨⟨⟨⟨@aA.eq_21,@aA.eq_22⟩,⟨@aA.eq_23,@aA.eq_24⟩⟩,⟨⟨@aA.eq_25,@aA.eq_26⟩,⟨@aA.eq_27,@aA.eq_28⟩⟩⟩,⟨⟨⟨@aA.eq_29,@aA.eq_30⟩,⟨@aA.eq_31,@aA.eq_32⟩⟩,⟨⟨@aA.eq_33,@aA.eq_34⟩,⟨@aA.eq_35,⟨@aA.eq_36,@aA.eq_37⟩⟩⟩⟩⟩⟩,⟨⟨⟨⟨⟨@aA.eq_45,@a8.eq_1⟩,⟨@a8.eq_2,@a8.eq_3⟩⟩,⟨⟨@a8.eq_4,@a8.eq_5⟩,⟨@a8.eq_6,@a8.eq_7⟩⟩⟩,⟨⟨⟨@a8.eq_8,@a8.eq_9⟩,⟨@a8.eq_10,@a8.eq_11⟩⟩,⟨⟨@a8.eq_12,@a8.eq_13⟩,⟨@a8.eq_14,⟨@a8.eq_15,@a8.eq_16⟩⟩⟩⟩⟩,⟨⟨⟨⟨@a8.eq_17,@a8.eq_18⟩,⟨@a8.eq_19,@a8.eq_20⟩⟩,⟨⟨@a8.eq_21,@pD.eq_1⟩,⟨@pD.eq_2,⟨@cO.eq_1,@cO.eq_2⟩⟩⟩⟩,⟨⟨⟨@asNat.eq_1,@dP.eq_1⟩,⟨@aw.eq_1,@aw.eq_2⟩⟩,⟨⟨@dV.eq_1,@dV.eq_2⟩,⟨@mB.eq_1,⟨@mB.eq_2,@mB.eq_3⟩⟩⟩⟩⟩⟩⟩
theorem wk:((((type_of% @wk1)/\(type_of% @wk2))/\((type_of% @wk3)/\(type_of% @wk4)))/\(((type_of% @wk5)/\(type_of% @wk6))/\((type_of% @wk7)/\((type_of% @wkl)/\(type_of% @wkd))))):=
 ⟨⟨⟨wk1,wk2⟩,⟨wk3,wk4⟩⟩,⟨⟨wk5,wk6⟩,⟨wk7,⟨wkl,wkd⟩⟩⟩⟩
theorem en:((((type_of% @o7)/\((type_of% @j8)/\(type_of% @kg)))/\((type_of% @if_true.{1})/\((type_of% @if_false.{1})/\(type_of% @List.length_append.{0}))))/\(((type_of% @List.length_cons.{0})/\((type_of% @List.length_nil.{0})/\(type_of% @Nat.zero_add)))/\(((type_of% @Nat.add_zero)/\(type_of% @kr))/\((type_of% @ko)/\(type_of% @kb))))):=
 ⟨⟨⟨@o7,⟨@j8,@kg⟩⟩,⟨@if_true.{1},⟨@if_false.{1},@List.length_append.{0}⟩⟩⟩,⟨⟨@List.length_cons.{0},⟨@List.length_nil.{0},@Nat.zero_add⟩⟩,⟨⟨@Nat.add_zero,@kr⟩,⟨@ko,@kb⟩⟩⟩⟩
end Go.Am
